/- Joined texts: JuLa, JuLb, JuLc. -/
import Derived.Test.YtpjmolnkmlpfeaaGreatDoorJuGf
import Derived.Test.YtpjmolnkmlpfeaaGreatDoorJQ
/- The laws' helpers: publish, read, says, both, join. -/
set_option linter.unusedVariables false
set_option linter.unusedSimpArgs false
namespace Go.Proofs.YtpjmolnkmlpfeaaGreatDoor
set_option maxRecDepth 100000
open Go.RowKit

/-- Notes of one's own. -/
def OwH (B : Nat) (w : World) (v : Value) (N : List NtV) : Prop := w.ownsRow B 38 19 v N.length (N.flatMap ntL)
theorem OwH.slh {K : Nat → Prop} {B : Nat} {w : World} {v : Value} {N : List NtV} (h : OwH B w v N) (hb : ∀ x ∈ N, SlB K w x.vc x.n.call.body ∧ SlB K w x.vr x.n.rep.body) : SlH (fun b => K b ∨ B ≤ b) w v (N.map (·.n)) := by
 obtain ⟨A, c, rfl, h1, h2⟩ := own_slice h
 exact ⟨A, c, N, rfl, rfl, Reads.of_own h, fun x hx => ⟨(hb x hx).1.weak fun _ _ h => .inl h, (hb x hx).2.weak fun _ _ h => .inl h⟩, h1, by simpa [maxLen] using h2, fun _ ad ea => .inr (own_ge h _ (by rw [ea]; rfl))⟩
theorem flatN_len (N : List NtV) : (N.flatMap ntL).length = N.length * 19 := by
 induction N with
 | nil => rfl
 | cons x N ih => rw [List.flatMap_cons, List.length_append, ih, ntL_len, List.length_cons]; omega
theorem owh_new {B : Nat} (W : World) (N : List NtV) (hB : B ≤ W.heap.size) (hn : N.length ≤ 1000000) : OwH B (W.alloc (.cells (N.flatMap ntL).toArray 38)) (.slice (some ⟨W.heap.size, 0, none⟩) N.length N.length) N := by
 refine ⟨flatN_len N, .inr ⟨W.heap.size, N.length, (N.flatMap ntL).toArray, rfl, hB, heap_alloc_new W _, Nat.le_refl _, by unfold maxLen; omega, ?_, ?_⟩⟩
 ·rw [List.size_toArray, flatN_len]
 ·rw [← flatN_len, List.take_length]
theorem note_ty : SliceTy Tryz.prog 28 38 19 184 := SliceTy.mk Tryz.underlying28 (z := .agg (ntL { n := { kind := 0, call := zCal, rep := zRep }, vc := .slice none 0 0, vr := .slice none 0 0 }).toArray) (by kernel_rfl) rfl
def nilV : Value := .slice none 0 0
def begV (C : Cal) (vc : Value) : NtV := { n := begN C, vc := vc, vr := nilV }
def endV (C : Cal) (R : Rep) (vc vr : Value) : NtV := { n := endN C R, vc := vc, vr := vr }
theorem build_beg (C : Cal) (vc : Value) (w : World) : (Instr.build 38 #[(0, .int .i64 1), (1, .agg (calL C vc).toArray)]).run Tryz.prog w = .ok (.agg (ntL (begV C vc)).toArray) w := by kernel_rfl
theorem build_end (C : Cal) (R : Rep) (vc vr : Value) (w : World) : (Instr.build 38 #[(0, .int .i64 2), (1, .agg (calL C vc).toArray), (2, .agg (repL R vr).toArray)]).run Tryz.prog w = .ok (.agg (ntL (endV C R vc vr)).toArray) w := by kernel_rfl
theorem slice_two (x y : NtV) (w : World) : (Instr.buildSlice 28 2 #[(0, .agg (ntL x).toArray), (1, .agg (ntL y).toArray)]).run Tryz.prog w = .ok (.slice (some ⟨w.heap.size, 0, none⟩) 2 2) (w.alloc (.cells ([x, y].flatMap ntL).toArray 38)) := by kernel_rfl
section
variable {P : Program} {ops : Array Oper} {rest : List Oper} {op : Oper} {a : Act} {w w' : World} {Q : Exit → Act → World → Prop}
end
set_option maxHeartbeats 2000000 in
theorem publish_any' (w : World) (n s : Nat) : Calls Tryz.prog 28 #[.int .u64 (n : Int), .int .u64 (s : Int)] w fun e w' => e = .returned (.agg (calL (pubC n s) nilV).toArray) ∧ Below w.heap.size w w' := by
 go_enter Tryz.func28, Tryz.ntmps28
 go_wp2_with (first
  | (refine wpList_alloc_blk rfl rfl zero_call ?_; intro g w2 hg hB hb)
  | (refine wpList_store_blk (cs := (calL (pubC n s) nilV).toArray) rfl rfl rfl rfl hB rfl (info_call rfl) (calL_one rfl) ?_; intro w3 hB3 hm3))
 refine bodyPost_ret (results_c Tryz.results28 _ hB3 rfl Tryz.underlying25 rfl (info_call rfl)) rfl ?_
 exact ⟨rfl, hb.trans (hm3.to_below hb.size fun b hb' e => by omega)⟩
set_option maxHeartbeats 2000000 in
theorem read_any' (w : World) (n a : Nat) : Calls Tryz.prog 29 #[.int .u64 (n : Int), .int .u64 (a : Int)] w fun e w' => e = .returned (.agg (calL (readC n a) nilV).toArray) ∧ Below w.heap.size w w' := by
 go_enter Tryz.func29, Tryz.ntmps29
 go_wp2_with (first
  | (refine wpList_alloc_blk rfl rfl zero_call ?_; intro g w2 hg hB hb)
  | (refine wpList_store_blk (cs := (calL (readC n a) nilV).toArray) rfl rfl rfl rfl hB rfl (info_call rfl) (calL_one rfl) ?_; intro w3 hB3 hm3))
 refine bodyPost_ret (results_c Tryz.results29 _ hB3 rfl Tryz.underlying25 rfl (info_call rfl)) rfl ?_
 exact ⟨rfl, hb.trans (hm3.to_below hb.size fun b hb' e => by omega)⟩
set_option maxHeartbeats 4000000 in
theorem says_any (w : World) (C : Cal) (vc : Value) (r : Int) (a s : Nat) : Calls Tryz.prog 12 #[.agg (calL C vc).toArray, .int .i64 r, .int .u64 (a : Int), .int .u64 (s : Int)] w fun e w' => e = .returned (.agg (repL (saysR C r a s) nilV).toArray) ∧ Below w.heap.size w w' := by
 have hB1 : Blk (w.alloc (.cells (calL C vc).toArray 25)) w.heap.size 25 (calL C vc).toArray := Blk.new _ _ _
 have hb1 := below_new w (.cells (calL C vc).toArray 25)
 have HB1 := Lib.hid hB1
 have HT1 := Lib.hid hb1
 clear hB1 hb1
 go_enter Tryz.func12, Tryz.ntmps12
 go_wp2_with (refine wpList_alloc_blk rfl rfl zero_reply ?_; rintro g w2 hg hB2 hb2; refine Hid.out ?_)
 refine Lib.hid ?_
 have HB2 := Bb HB1 hb2
 have HG : Hid (g = w.heap.size + 1) := by show _ = _; rw [← hg]; simp
 have HT2 : Hid (Below w.heap.size w w2) := HT1.out.trans (hb2.mono HT1.out.size)
 have HR := Lib.hid hB2
 have c0 := (HB2.out.cell 0).trans (rfl : _ = some (Value.int .i64 C.cl))
 have c1 := (HB2.out.cell 1).trans (rfl : _ = some (Value.int .u64 (C.inc : Int)))
 have c2 := (HB2.out.cell 2).trans (rfl : _ = some (Value.int .u64 (C.n : Int)))
 clear hB2 hb2 hg HB1 HT1
 by_cases hs : 0 < s
 ·have d1 : decide (0 < s) = true := decide_eq_true hs
  have d2 : decide ((0 : Int) < (s : Int)) = true := decide_eq_true (by omega)
  have HS := Lib.hid hs
  clear hs
  go_wp2_with (first
   | (refine wpList_alloc_blk rfl rfl zero_reply ?_; intro g9 w3 e9 hB9 hb9)
   | (refine wpList_store_blk (cs := (repL { cl := C.cl, inc := C.inc, n := C.n, res := r, at_ := a, own := 0, prod := 0, seq := 0, body := [] } nilV).toArray) rfl rfl rfl rfl hB9 rfl (info_reply rfl) (repL_one rfl) ?_; intro w4 hB4 hm4; refine Hid.out ?_))
  refine Lib.hid ?_
  have HT4 : Hid (Below w.heap.size w w4 ∧ w.heap.size ≤ g9) := by
   have h1 := HT2.out.trans (hb9.mono HT2.out.size)
   exact ⟨h1.trans (hm4.to_below h1.size fun b hb e => by have := HT2.out.size; omega), by have := HT2.out.size; omega⟩
  have HR4 := Lib.hid ((HR.out.below hb9 HR.out.lt).mod hm4 fun e => by have := HR.out.lt; omega)
  have HB4 := Lib.hid hB4
  have q6 := (hB4.cell 6).trans (rfl : _ = some (Value.int .i64 0))
  have q7 := (hB4.cell 7).trans (rfl : _ = some (Value.int .u64 0))
  have f6 := hB4.free 6
  have f7 := hB4.free 7
  have HNE : Hid (g ≠ g9) := by show _ ≠ _; have := HR.out.lt; omega
  clear hB9 hb9 e9 hB4 hm4 c0 c1 c2
  have HB6 : Hid (Blk ((w4.setCell ⟨g9, 6, none⟩ (.int .i64 9)).setCell ⟨g9, 7, none⟩ (.int .u64 (s : Int))) g9 32 (repL (saysR C r a s) nilV).toArray) := by
   have := (HB4.out.put 6 (.int .i64 9)).put 7 (.int .u64 (s : Int))
   show Blk _ _ _ _
   unfold saysR
   rw [if_pos HS.out, if_pos HS.out]
   exact this
  have HM6 : Hid (Mod (fun b => b = g9) w4 ((w4.setCell ⟨g9, 6, none⟩ (.int .i64 9)).setCell ⟨g9, 7, none⟩ (.int .u64 (s : Int)))) := Mod.set (S := fun b => b = g9) (Mod.set (S := fun b => b = g9) (Mod.refl _ _) (p := ⟨g9, 6, none⟩) (fun _ => rfl) _) (p := ⟨g9, 7, none⟩) (fun _ => rfl) _
  have HR6 := Lib.hid (HR4.out.mod HM6.out fun e => HNE.out e)
  go_wp2_with (first
   | (refine wpList_load_rg rfl (ty := 32) rfl (vs := repL (saysR C r a s) nilV) rfl (Blk.rangeAll HB6.out) Tryz.underlying32 rfl (infoj_reply9 rfl) ?_)
   | (refine wpList_store_blk (cs := (repL (saysR C r a s) nilV).toArray) rfl rfl rfl rfl HR6.out rfl (info_reply rfl) (repL_one rfl) ?_; intro w7 hB7 hm7))
  refine bodyPost_ret (results_c Tryz.results12 _ hB7 rfl Tryz.underlying32 rfl (info_reply rfl)) rfl ?_
  have h4 := HT4.out.1
  have h6 := h4.trans (HM6.out.to_below h4.size fun b hb e => by have := HT4.out.2; omega)
  exact ⟨rfl, h6.trans (hm7.to_below h6.size fun b hb e => by have := HG.out; omega)⟩
 ·obtain rfl : s = 0 := by omega
  go_wp2_with (first
   | (refine wpList_alloc_blk rfl rfl zero_reply ?_; intro g9 w3 e9 hB9 hb9)
   | (refine wpList_store_blk (cs := (repL (saysR C r a 0) nilV).toArray) rfl rfl rfl rfl hB9 rfl (info_reply rfl) (repL_one rfl) ?_; intro w4 hB4 hm4; refine Hid.out ?_))
  refine Lib.hid ?_
  have HT4 : Hid (Below w.heap.size w w4 ∧ w.heap.size ≤ g9) := by
   have h1 := HT2.out.trans (hb9.mono HT2.out.size)
   exact ⟨h1.trans (hm4.to_below h1.size fun b hb e => by have := HT2.out.size; omega), by have := HT2.out.size; omega⟩
  have HR4 := Lib.hid ((HR.out.below hb9 HR.out.lt).mod hm4 fun e => by have := HR.out.lt; omega)
  have HB4 := Lib.hid hB4
  clear hB9 hb9 e9 hB4 hm4 c0 c1 c2
  go_wp2_with (first
   | (refine wpList_load_rg rfl (ty := 32) rfl (vs := repL (saysR C r a 0) nilV) rfl (Blk.rangeAll HB4.out) Tryz.underlying32 rfl (infoj_reply9 rfl) ?_)
   | (refine wpList_store_blk (cs := (repL (saysR C r a 0) nilV).toArray) rfl rfl rfl rfl HR4.out rfl (info_reply rfl) (repL_one rfl) ?_; intro w7 hB7 hm7))
  refine bodyPost_ret (results_c Tryz.results12 _ hB7 rfl Tryz.underlying32 rfl (info_reply rfl)) rfl ?_
  have h4 := HT4.out.1
  exact ⟨rfl, h4.trans (hm7.to_below h4.size fun b hb e => by have := HG.out; omega)⟩
end Go.Proofs.YtpjmolnkmlpfeaaGreatDoor

/- both, join. -/
namespace Go.Proofs.YtpjmolnkmlpfeaaGreatDoor
set_option maxRecDepth 100000
open Go.RowKit

section
variable {P : Program} {ops : Array Oper} {rest : List Oper} {op : Oper} {a : Act} {w w' : World} {Q : Exit → Act → World → Prop}
theorem wpList_build3 (hgd : op.guard = none) {ty : TypeId} {i j k : Nat} {p q r : Operand} (ho : op.op = .build ty #[(i, p), (j, q), (k, r)]) {x y z v : Value} (hx : a.eval p = x) (hy : a.eval q = y) (hz : a.eval r = z)
  (hb : (Instr.build ty #[(i, x), (j, y), (k, z)]).run P w = .ok v w) (h : wpList P ops Q rest (a.put op.dst v) w) : wpList P ops Q (op :: rest) a w :=
 wpList_plain hgd fun _ hK => by
  unfold Oper.wp execOp
  simp only [ho, Sem.run_bind, List.map_toArray, List.map_cons, List.map_nil, hx, hy, hz, hb, Result.andThen_ok, Sem.run_pure]
  exact hK _ _ h
theorem wpList_bs2 (hgd : op.guard = none) {ty : TypeId} {n i j : Nat} {p q : Operand} (ho : op.op = .buildSlice ty n #[(i, p), (j, q)]) {x y v : Value} (hx : a.eval p = x) (hy : a.eval q = y)
  (hb : (Instr.buildSlice ty n #[(i, x), (j, y)]).run P w = .ok v w') (h : wpList P ops Q rest (a.put op.dst v) w') : wpList P ops Q (op :: rest) a w :=
 wpList_plain hgd fun _ hK => by
  unfold Oper.wp execOp
  simp only [ho, Sem.run_bind, List.map_toArray, List.map_cons, List.map_nil, hx, hy, hb, Result.andThen_ok, Sem.run_pure]
  exact hK _ _ h
end
set_option maxHeartbeats 4000000 in
theorem both_any (w : World) (C : Cal) (R : Rep) (vc vr : Value) : Calls Tryz.prog 11 #[.agg (calL C vc).toArray, .agg (repL R vr).toArray] w fun e w' => (∃ g, e = .returned (.slice (some ⟨g, 0, none⟩) 2 2) ∧ OwH w.heap.size w' (.slice (some ⟨g, 0, none⟩) 2 2) [begV C vc, endV C R vc vr]) ∧ Below w.heap.size w w' := by
 have HB1 : Hid (Blk ((w.alloc (.cells (calL C vc).toArray 25)).alloc (.cells (repL R vr).toArray 32)) w.heap.size 25 (calL C vc).toArray) := (Blk.new _ _ _).alloc _
 have hB2 : Blk ((w.alloc (.cells (calL C vc).toArray 25)).alloc (.cells (repL R vr).toArray 32)) (w.heap.size + 1) 32 (repL R vr).toArray := by
  have := Blk.new (w.alloc (.cells (calL C vc).toArray 25)) 32 (repL R vr).toArray
  rwa [alloc_size] at this
 have HB2 := Lib.hid hB2
 have HT : Hid (Below w.heap.size w ((w.alloc (.cells (calL C vc).toArray 25)).alloc (.cells (repL R vr).toArray 32))) := ((Below.refl _ _).alloc (Nat.le_refl _) _).alloc (by simp) _
 clear hB2
 go_enter Tryz.func11, Tryz.ntmps11
 go_wp2_with (refine wpList_load_rg rfl (ty := 25) rfl (vs := calL C vc) rfl (Blk.rangeAll HB1.out) Tryz.underlying25 rfl (infoj_call9 rfl) ?_; refine Hid.out ?_)
 refine Lib.hid ?_
 generalize (w.alloc (.cells (calL C vc).toArray 25)).alloc (.cells (repL R vr).toArray 32) = W at HB1 HB2 HT ⊢
 refine wpList_build2 rfl rfl rfl rfl (build_beg C vc W) ?_
 refine wpList_load_rg rfl (ty := 25) rfl (vs := calL C vc) rfl (Blk.rangeAll HB1.out) Tryz.underlying25 rfl (infoj_call9 rfl) ?_
 refine wpList_load_rg rfl (ty := 32) rfl (vs := repL R vr) rfl (Blk.rangeAll HB2.out) Tryz.underlying32 rfl (infoj_reply9 rfl) ?_
 refine wpList_build3 rfl rfl rfl rfl rfl (build_end C R vc vr W) ?_
 refine wpList_bs2 rfl rfl rfl rfl (slice_two (begV C vc) (endV C R vc vr) W) ?_
 have HN : Hid (Below w.heap.size w (W.alloc (.cells ([begV C vc, endV C R vc vr].flatMap ntL).toArray 38)) ∧ OwH w.heap.size (W.alloc (.cells ([begV C vc, endV C R vc vr].flatMap ntL).toArray 38)) (.slice (some ⟨W.heap.size, 0, none⟩) 2 2) [begV C vc, endV C R vc vr]) :=
  ⟨HT.out.trans ((below_new _ _).mono HT.out.size), owh_new W [begV C vc, endV C R vc vr] HT.out.size (by simp)⟩
 generalize hW2 : W.alloc (.cells ([begV C vc, endV C R vc vr].flatMap ntL).toArray 38) = W2 at HN ⊢
 clear hW2
 go_wp2_with fail
 go_ret
 exact ⟨⟨_, rfl, HN.out.2⟩, HN.out.1⟩
/-- A slice of slices of notes. -/
def SlHs (K : Nat → Prop) (w : World) (v : Value) (Ns : List (List NtV)) : Prop := ∃ A c, ∃ vs : List Value, v = .slice A Ns.length c ∧ vs.length = Ns.length ∧ Reads w 1 A Ns.length vs ∧ (0 < Ns.length → ∀ ad, A = some ad → K ad.block) ∧
 ∀ i (h : i < Ns.length), ∃ B d, vs[i]? = some (.slice B Ns[i].length d) ∧ Reads w 19 B Ns[i].length (Ns[i].flatMap ntL) ∧ Ns[i].length ≤ d ∧ d ≤ 9223372036854775807
theorem ntL_one {N : List NtV} (h : ∀ x ∈ N, x.vc.oneCell' = true ∧ x.vr.oneCell' = true) : ∀ u ∈ N.flatMap ntL, u.oneCell' = true := by
 intro u hu
 obtain ⟨x, hx, hu⟩ := List.mem_flatMap.1 hu
 exact nt_one (h x hx).1 (h x hx).2 u (by simpa using hu)
set_option maxHeartbeats 4000000 in
theorem join_any {K : Nat → Prop} {w : World} {v : Value} {Ns : List (List NtV)} (h : SlHs K w v Ns) (h1 : ∀ N ∈ Ns, ∀ x ∈ N, x.vc.oneCell' = true ∧ x.vr.oneCell' = true) (hn : Ns.length ≤ 1000) (hl : ∀ N ∈ Ns, N.length ≤ 1000) :
  Calls Tryz.prog 30 #[v] w fun e w' => (∃ v', e = .returned v' ∧ OwH w.heap.size w' v' Ns.flatten) ∧ Below w.heap.size w w' := by
 obtain ⟨A, c, vs, rfl, hvs, hr, _, hall⟩ := h
 have HR := Lib.hid hr
 have HALL := Lib.hid hall
 have HV := Lib.hid hvs
 have H1 := Lib.hid h1
 have HLN := Lib.hid hl
 have hfl : ∀ k, k ≤ Ns.length → (Ns.take k).flatten.length ≤ 1000 * k := by
  intro k
  induction k with
  | zero => intro _; simp
  | succ k ih =>
   intro hk
   have := ih (by omega)
   have := HLN.out _ (List.getElem_mem (show k < Ns.length by omega))
   rw [List.take_succ_eq_append_getElem (by omega), List.flatten_append, List.length_append, List.flatten_cons, List.flatten_nil, List.append_nil]
   omega
 have HFL := Lib.hid hfl
 clear hr hall hvs h1 hl hfl
 go_enter Tryz.func30, Tryz.ntmps30
 go_wp2_with fail
 go_loopw [3, 4] (fun ov i wr => ∃ k : Nat, k ≤ Ns.length ∧ i = .int .i64 k ∧ Below w.heap.size w wr ∧ OwH w.heap.size wr ov (Ns.take k).flatten) (fun _ i _ => Ns.length - (intOf i).toNat)
 case atStart => exact ⟨0, by omega, rfl, Below.refl _ _, World.ownsRow_nil _ _ _ _⟩
 case round =>
  obtain ⟨k, hk, rfl, hb, ho⟩ := hrel
  have HB := Lib.hid hb
  have HO := Lib.hid ho
  clear hb ho
  by_cases hlt : k < Ns.length
  ·obtain ⟨b, o, rfl, hbl, hc⟩ := Reads.flat (HR.out.below (HB.out.mono (Nat.le_refl _))) (by omega) (by decide)
   obtain ⟨B, d, hB, hrB, hd1, hd2⟩ := HALL.out k hlt
   have hcell := hc k _ hB
   have hsl := HFL.out k hk
   have hsn := HLN.out _ (List.getElem_mem hlt)
   have hone := ntL_one (H1.out _ (List.getElem_mem hlt))
   have HTK : Hid ((Ns.take (k + 1)).flatten = (Ns.take k).flatten ++ Ns[k]) := by
    show _ = _
    rw [List.take_succ_eq_append_getElem hlt, List.flatten_append]
    simp
   have HRB := Lib.hid (hrB.below (HB.out.mono (Nat.le_refl _)))
   obtain ⟨Ao, co, rfl, _, _⟩ := own_slice HO.out
   generalize Ns[k] = N at hcell hsn hone HTK HRB
   clear hc hB hrB hd1 hd2 hbl
   go_wp2_with (first | (at_builtin; refine app_list note_ty rfl (s := .tmp 11) (x := .tmp 15) rfl HO.out rfl HRB.out rfl hone (by omega) HB.out.size ?_; intro v9 w9 ho9 hg9 _))
   go_roundw
   case rel =>
    refine ⟨k + 1, hlt, by go_num, HB.out.grown hg9 HB.out.size (own_ge HO.out), ?_⟩
    rw [HTK.out]
    show World.ownsRow _ _ _ _ _ _ _
    rw [List.length_append, List.flatMap_append]
    exact ho9
   case measure => simp [intOf]; omega
  ·obtain rfl : k = Ns.length := by omega
   go_wp2_with fail
   go_ret
   have := HO.out
   rw [List.take_length] at this
   exact ⟨⟨_, rfl, this⟩, HB.out⟩
end Go.Proofs.YtpjmolnkmlpfeaaGreatDoor

/- The examples in memory. -/
namespace Go.Proofs.YtpjmolnkmlpfeaaGreatDoor
set_option maxRecDepth 100000
open Go.RowKit

theorem OwH.below {B : Nat} {w w' : World} {v : Value} {N : List NtV} (h : OwH B w v N) (hb : Below w.heap.size w w') : OwH B w' v N := own_call h hb
theorem slhs_new {B : Nat} {w : World} {vs : List Value} {Ns : List (List NtV)} (hl : vs.length = Ns.length) (h : ∀ i (hi : i < Ns.length), ∃ v, vs[i]? = some v ∧ OwH B w v Ns[i]) :
  SlHs (fun _ => True) (w.alloc (.cells vs.toArray 28)) (.slice (some ⟨w.heap.size, 0, none⟩) Ns.length Ns.length) Ns := by
 refine ⟨_, _, vs, rfl, hl, ⟨by rw [hl, Nat.mul_one], fun _ => ⟨_, rfl, by simp, fun j u hu => ?_⟩⟩, fun _ _ _ => trivial, fun i hi => ?_⟩
 ·rw [add_flat]
  have hb : (w.alloc (.cells vs.toArray 28)).heap[w.heap.size]? = some (.cells vs.toArray 28 (0, 0)) := heap_alloc_new w _
  rw [cell_of_row _ _ _ _ _ _ hb, Nat.zero_add]
  simpa using hu
 ·obtain ⟨v, hv, ho⟩ := h i hi
  obtain ⟨A, c, rfl, h1, h2⟩ := own_slice ho
  exact ⟨A, c, hv, (Reads.of_own ho).below (below_new _ _), h1, by simpa [maxLen] using h2⟩
/-- Small numbers are fit. -/
def ntokB (x : Nte) : Bool := decide (-9223372036854775808 ≤ x.call.cl ∧ x.call.cl < 9223372036854775808 ∧ x.call.inc < 18446744073709551616 ∧ x.call.n < 18446744073709551616 ∧ -9223372036854775808 ≤ x.rep.cl ∧ x.rep.cl < 9223372036854775808 ∧ x.rep.inc < 18446744073709551616 ∧ x.rep.n < 18446744073709551616 ∧
 x.call.seq < 18446744073709551616 ∧ x.call.at_ < 18446744073709551616 ∧ x.rep.at_ < 18446744073709551616 ∧ x.call.body.length ≤ 1000000 ∧ x.rep.body.length ≤ 1000000)
theorem ntok_of {x : Nte} (h : ntokB x = true) : NtOk x := by
 obtain ⟨a1, a2, a3, a4, b1, b2, b3, b4, c1, c2, c3, c4, c5⟩ := of_decide_eq_true h
 exact ⟨⟨a1, a2, a3, a4⟩, ⟨b1, b2, b3, b4⟩, c1, c2, c3, c4, c5⟩
def bothV (C : Cal) (R : Rep) : List NtV := [begV C nilV, endV C R nilV nilV]
theorem bothV_nil {C : Cal} {R : Rep} (hC : C.body = []) (hR : R.body = []) {K : Nat → Prop} {w : World} : ∀ x ∈ bothV C R, SlB K w x.vc x.n.call.body ∧ SlB K w x.vr x.n.rep.body := by
 intro x hx
 rcases List.mem_cons.1 hx with rfl | hx
 ·exact ⟨by show SlB K w nilV C.body; rw [hC]; exact SlB.nil _ _, SlB.nil _ _⟩
 ·rw [List.mem_singleton.1 hx]
  exact ⟨by show SlB K w nilV C.body; rw [hC]; exact SlB.nil _ _, by show SlB K w nilV R.body; rw [hR]; exact SlB.nil _ _⟩
theorem owh_range {B : Nat} {w : World} {g n c : Nat} {N : List NtV} (h : OwH B w (.slice (some ⟨g, 0, none⟩) n c) N) (hn : n = N.length) {k : Nat} (hk : k < N.length) : w.rangeAt g (k * 19) (ntL N[k]) := by
 subst hn
 intro j u hu
 have hj : j < 19 := by
  have := (List.getElem?_eq_some_iff.1 hu).1
  rwa [ntL_len] at this
 have h2 := World.ownsRow.cellAt h (k * 19 + j) (by omega)
 rw [h2, rows_at ntL_len N k j hk hj]
 exact hu
theorem reads_range {w : World} {b o : Nat} {xs : List Value} {size : Nat} (h : w.rangeAt b o xs) (hb : b < w.heap.size) (hl : xs.length = size) : Reads w size (some ⟨b, o, none⟩) 1 xs := by
 refine ⟨by rw [hl]; omega, fun _ => ⟨_, rfl, hb, fun j u hu => ?_⟩⟩
 rw [add_flat]
 exact h j u hu
theorem wp_bs4 {P : Program} {op : Oper} {a : Act} {w w' : World} {K : Act → World → Prop} {Q : Exit → Act → World → Prop} {ty : TypeId} {n i0 i1 i2 i3 : Nat} {p0 p1 p2 p3 : Operand} (ho : op.op = .buildSlice ty n #[(i0, p0), (i1, p1), (i2, p2), (i3, p3)]) {x0 x1 x2 x3 v : Value} (h0 : a.eval p0 = x0) (h1 : a.eval p1 = x1) (h2 : a.eval p2 = x2) (h3 : a.eval p3 = x3)
  (hb : (Instr.buildSlice ty n #[(i0, x0), (i1, x1), (i2, x2), (i3, x3)]).run P w = .ok v w') (h : K (a.put op.dst v) w') : op.wp P a w K Q := by
 unfold Oper.wp execOp
 simp only [ho, Sem.run_bind, List.map_toArray, List.map_cons, List.map_nil, h0, h1, h2, h3, hb, Result.andThen_ok, Sem.run_pure]
 exact h
theorem slice_four (x y z u : NtV) (w : World) : (Instr.buildSlice 28 4 #[(0, .agg (ntL x).toArray), (1, .agg (ntL y).toArray), (2, .agg (ntL z).toArray), (3, .agg (ntL u).toArray)]).run Tryz.prog w = .ok (.slice (some ⟨w.heap.size, 0, none⟩) 4 4) (w.alloc (.cells ([x, y, z, u].flatMap ntL).toArray 38)) := by kernel_rfl
/-- May of examples. -/
theorem exam_may {w : World} {A : Option Addr} {c : Nat} {N : List NtV} {h : List Nte} {B : Nat} (ho : OwH B w (.slice A N.length c) N) (hN : N.map (·.n) = h) (hb : ∀ x ∈ N, SlB (fun _ => False) w x.vc x.n.call.body ∧ SlB (fun _ => False) w x.vr x.n.rep.body) (hk : h.all ntokB = true) (hn : h.length ≤ 2000) :
  Calls Tryz.prog 13 #[.slice A N.length c] w fun e w' => Below w.heap.size w w' ∧ ∃ b er, e = .returned (.tuple #[.bool b, .int .i64 er]) ∧ MayPost h b er := by
 have := ho.slh hb
 rw [hN] at this
 exact jmay_any this (fun x hx => ntok_of (List.all_eq_true.1 hk x hx)) (by omega)
end Go.Proofs.YtpjmolnkmlpfeaaGreatDoor
