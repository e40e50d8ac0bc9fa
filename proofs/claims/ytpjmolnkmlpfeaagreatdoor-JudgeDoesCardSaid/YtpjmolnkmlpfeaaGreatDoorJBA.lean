/- Joined texts: JdF, JdG, JdH, JdHs. -/
import Derived.Test.YtpjmolnkmlpfeaaGreatDoorJdE
/- The document's put, set. -/
set_option linter.unusedVariables false
set_option linter.unusedSimpArgs false
namespace Go.Proofs.YtpjmolnkmlpfeaaGreatDoor
set_option maxRecDepth 100000
open Go.RowKit

/-- Entries, bytes in rows of one's own. -/
def OwE (B : Nat) (w : World) (v : Value) (L : List EnV) : Prop := w.ownsRow B 73 3 v L.length (L.flatMap enL)
def OwB (B : Nat) (w : World) (v : Value) (l : List UInt8) : Prop := w.ownsRow B 5 1 v l.length (l.map bv)
section
variable {P : Program} {op : Oper} {a : Act} {w : World} {K : Act → World → Prop} {Q : Exit → Act → World → Prop}
theorem wp_mkE0 (ho : op.op = .buildSlice 42 0 #[]) (h : ∀ g w', OwE w.heap.size w' (.slice (some ⟨g, 0, none⟩) 0 0) [] → Below w.heap.size w w' → K (a.put op.dst (.slice (some ⟨g, 0, none⟩) 0 0)) w') : op.wp Tryz.prog a w K Q := by
 have hb : (Instr.buildSlice 42 0 #[]).run Tryz.prog w = .ok (.slice (some ⟨w.heap.size, 0, none⟩) 0 0) (w.alloc (.cells #[] 73)) := by kernel_rfl
 unfold Oper.wp execOp
 simp only [ho, Sem.run_bind, List.map_toArray, List.map_nil, hb, Result.andThen_ok, Sem.run_pure]
 exact h _ _ (World.ownsRow_made _ _ _ (Nat.le_refl _) (by simp [maxLen]) rfl) (below_new _ _)
theorem wp_mkB0 (ho : op.op = .buildSlice 23 0 #[]) (h : ∀ g w', OwB w.heap.size w' (.slice (some ⟨g, 0, none⟩) 0 0) [] → Below w.heap.size w w' → K (a.put op.dst (.slice (some ⟨g, 0, none⟩) 0 0)) w') : op.wp Tryz.prog a w K Q := by
 have hb : (Instr.buildSlice 23 0 #[]).run Tryz.prog w = .ok (.slice (some ⟨w.heap.size, 0, none⟩) 0 0) (w.alloc (.cells #[] 5)) := by kernel_rfl
 unfold Oper.wp execOp
 simp only [ho, Sem.run_bind, List.map_toArray, List.map_nil, hb, Result.andThen_ok, Sem.run_pure]
 exact h _ _ (World.ownsRow_made _ _ _ (Nat.le_refl _) (by simp [maxLen]) rfl) (below_new _ _)
theorem wp_mkE1 {x : EnV} {p : Operand} (ho : op.op = .buildSlice 42 1 #[(0, p)]) (hx : a.eval p = .agg (enL x).toArray) (h : ∀ g w', Reads w' 3 (some ⟨g, 0, none⟩) 1 ([x].flatMap enL) → Below w.heap.size w w' → K (a.put op.dst (.slice (some ⟨g, 0, none⟩) 1 1)) w') : op.wp Tryz.prog a w K Q := by
 have hb : (Instr.buildSlice 42 1 #[(0, .agg (enL x).toArray)]).run Tryz.prog w = .ok (.slice (some ⟨w.heap.size, 0, none⟩) 1 1) (w.alloc (.cells ([x].flatMap enL).toArray 73)) := by kernel_rfl
 unfold Oper.wp execOp
 simp only [ho, Sem.run_bind, List.map_toArray, List.map_cons, List.map_nil, hx, hb, Result.andThen_ok, Sem.run_pure]
 exact h _ _ (reads_blockN w 73 ([x].flatMap enL) 3 rfl) (below_new _ _)
theorem wp_appE {s x : Operand} (ho : op.op = .call { callee := .builtin .append, args := #[s, x], argTypes := #[42, 42] }) {B : Nat} {v : Value} {N M : List EnV} {A : Option Addr} {d n : Nat} (hown : OwE B w v N) (hs : a.eval s = v) (h2 : Reads w 3 A n (M.flatMap enL)) (hM : n = M.length) (hx : a.eval x = .slice A n d)
  (h1 : ∀ u ∈ M.flatMap enL, u.oneCell' = true) (hn : N.length + M.length ≤ 1000000) (hB : B ≤ w.heap.size)
  (h : ∀ v' w', OwE B w' v' (N ++ M) → w.grownBy w' v.ownBlock → (v'.ownBlock = v.ownBlock ∨ v'.ownBlock = some w.heap.size) → K (a.put op.dst v') w') : op.wp Tryz.prog a w K Q := by
 subst hM
 refine app_wp entry_ty ho hown hs h2 hx h1 (by omega) hB fun v' w' ho' hg' hq' => ?_
 refine h v' w' ?_ hg' hq'
 show World.ownsRow _ _ _ _ _ _ _
 rw [List.length_append, List.flatMap_append]
 exact ho'
theorem wp_appB {s x : Operand} (ho : op.op = .call { callee := .builtin .append, args := #[s, x], argTypes := #[23, 23] }) {B : Nat} {v : Value} {N M : List UInt8} {A : Option Addr} {d n : Nat} (hown : OwB B w v N) (hs : a.eval s = v) (h2 : Reads w 1 A n (M.map bv)) (hM : n = M.length) (hx : a.eval x = .slice A n d)
  (hn : N.length + M.length ≤ 1000000) (hB : B ≤ w.heap.size)
  (h : ∀ v' w', OwB B w' v' (N ++ M) → w.grownBy w' v.ownBlock → (v'.ownBlock = v.ownBlock ∨ v'.ownBlock = some w.heap.size) → K (a.put op.dst v') w') : op.wp Tryz.prog a w K Q := by
 subst hM
 refine app_wp bytesK_ty ho hown hs h2 hx (bv_one M) (by omega) hB fun v' w' ho' hg' hq' => ?_
 refine h v' w' ?_ hg' hq'
 show World.ownsRow _ _ _ _ _ _ _
 rw [List.length_append, List.map_append]
 exact ho'
theorem exec_buildJ3 {u : World} {E : Operand → Value} {ty : TypeId} {i j k : Nat} {p q r : Operand} (ho : op.op = .build ty #[(i, p), (j, q), (k, r)]) {x y z v : Value} (hx : E p = x) (hy : E q = y) (hz : E r = z) (hb : (Instr.build ty #[(i, x), (j, y), (k, z)]).run P u = .ok v u) :
  (execOp E op).run P u = .ok (.value v) u := by
 unfold execOp
 simp only [ho, Sem.run_bind, List.map_toArray, List.map_cons, List.map_nil, hx, hy, hz, hb, Result.andThen_ok, Sem.run_pure]
end
theorem build_ent (p : Int) (s n c : Nat) (A : Option Addr) (w : World) : (Instr.build 73 #[(0, .int .i64 p), (1, .int .u64 (s : Int)), (2, .slice A n c)]).run Tryz.prog w = .ok (.agg #[.int .i64 p, .int .u64 (s : Int), .slice A n c]) w := by kernel_rfl
theorem OwB.slb {B : Nat} {w : World} {v : Value} {l : List UInt8} (h : OwB B w v l) : SlB (fun b => B ≤ b) w v l := by
 obtain ⟨A, c, rfl, h1, h2⟩ := own_slice h
 exact ⟨A, c, rfl, own_bytes h, h1, by simpa [maxLen] using h2, fun _ ad ea => own_ge h _ (by rw [ea]; rfl)⟩
theorem mdL_oneJ {M : Mdl} {vl vc : Value} (h1 : vl.oneCell' = true) (h2 : vc.oneCell' = true) : ∀ v ∈ (mdL M vl vc).toArray.toList, v.oneCell' = true := by
 intro v hv
 simp only [mdL, List.mem_cons, List.not_mem_nil, or_false] at hv
 rcases hv with rfl | rfl | rfl
 ·exact h1
 ·rfl
 ·exact h2
theorem cur_cellJ {w : World} {g : Nat} {l : List Nat} (h : Blk w g 22 (l.map u64v).toArray) {k : Nat} (hk : k < l.length) : w.cell? ⟨g, k, none⟩ = some (.int .u64 ((l.getD k 0 : Nat) : Int)) := by
 rw [h.cell, List.getElem?_toArray, List.getElem?_map, List.getElem?_eq_getElem hk, List.getD_eq_getElem?_getD, List.getElem?_eq_getElem hk]
 rfl
theorem cur_putJ {w : World} {g : Nat} {l : List Nat} (h : Blk w g 22 (l.map u64v).toArray) (k x : Nat) : Blk (w.setCell ⟨g, k, none⟩ (.int .u64 (x : Int))) g 22 ((l.set k x).map u64v).toArray := by
 have := h.put k (.int .u64 (x : Int))
 rw [pz0] at this
 rw [List.map_set]
 exact this
set_option maxHeartbeats 8000000 in
theorem rset_any {K : Nat → Prop} {w : World} {vl vc : Value} {M : Mdl} (h : MdF K w vl vc M) (hn : M.log.length ≤ 100000) (hbl : ∀ e ∈ M.log, e.body.length ≤ 1000000) {q : Nat} (hq : q < 3) (x : Nat) :
  Calls Tryz.prog 49 #[.agg (mdL M vl vc).toArray, .int .i64 ((q : Int) + 1), .int .u64 (x : Int)] w fun e w' => (∃ v', e = .returned v' ∧ ROwn w.heap.size w' v' { ownM M with cur := (own3 M.cur).set q x }) ∧ Below w.heap.size w w' := by
 have ho1 := h.1.one
 have ho2 := h.2.one
 have hB1 : Blk (w.alloc (.cells (mdL M vl vc).toArray 45)) w.heap.size 45 (mdL M vl vc).toArray := Blk.new _ _ _
 have hT := below_new w (.cells (mdL M vl vc).toArray 45)
 have HH := Lib.hid (h.below hT)
 have HB1 := Lib.hid hB1
 have HTa := Lib.hid hT
 have HN : Hid (M.log.length ≤ 100000 ∧ ∀ e ∈ M.log, e.body.length ≤ 1000000) := ⟨hn, hbl⟩
 clear h hn hbl hB1 hT
 go_enter Tryz.func49, Tryz.ntmps49
 go_wp2_with (refine wpList_alloc_blk rfl (ty := 45) rfl zero_model ?_; rintro g6 w2 hg6 hB6 hb6; refine Hid.out ?_)
 refine Lib.hid ?_
 have HB1 := Bb HB1 hb6
 have HB6 := Lib.hid hB6
 have HT := Lib.hid (below_call HTa.out HTa.out.size hb6)
 have HH := Lib.hid (HH.out.below hb6)
 have HG6 : Hid (w.heap.size < g6 ∧ g6 < w2.heap.size) := ⟨by rw [← hg6]; simp, hB6.lt⟩
 clear hg6 hB6 hb6 HTa
 go_wp2_with (refine wpList_load_blk rfl (ty := 45) rfl (g := w.heap.size) rfl HB1.out Tryz.underlying45 rfl (info_model rfl) ?_; refine Hid.out ?_)
 refine Lib.hid ?_
 go_wp2_with fail
 refine (rown_any HH.out HN.out.1 HN.out.2).mono ?_
 rintro e w3 ⟨⟨v', rfl, vl2, g, rfl, hsl, hg, _, hgB⟩, hb3⟩
 have hov := hsl.one
 have HB13 := Bb HB1 hb3
 have HB63 := Bb HB6 hb3
 have HT3 := Tt HT hb3
 have HSL := Lib.hid hsl
 have HBG := Lib.hid hg
 have HGG : Hid (w.heap.size < g6 ∧ g6 < w2.heap.size ∧ w2.heap.size ≤ g) := ⟨HG6.out.1, HG6.out.2, hgB⟩
 clear hsl hg hgB hb3 HB1 HB6 HT HH HG6
 go_wp2_with (refine wpList_store_blk rfl (ty := 45) rfl (g := w.heap.size) (cs := (mdL (ownM M) vl2 (.slice (some ⟨g, 0, none⟩) 3 3)).toArray) rfl rfl HB13.out rfl (info_model rfl) (mdL_oneJ hov rfl) ?_; rintro w4 hB4 hm4; refine Hid.out ?_)
 refine Lib.hid ?_
 have hBG4 := HBG.out.mod hm4 fun e => by have := HGG.out; omega
 have HT4 := Lib.hid (HT3.out.trans (hm4.to_below HT3.out.size fun b hb e => by omega))
 have HSL4 := Lib.hid (HSL.out.mod hm4 fun b hb e => by have h1 := hb.1; have h2 := HGG.out; omega)
 have HB64 := Lib.hid (HB63.out.mod hm4 fun e => by have := HGG.out; omega)
 have m2 := (hB4.cell 2).trans (rfl : _ = some (Value.slice (some ⟨g, 0, none⟩) 3 3))
 have q0 : w4.cell? ⟨g, q, none⟩ = some (.int .u64 (((own3 M.cur).getD q 0 : Nat) : Int)) := cur_cellJ hBG4 (l := own3 M.cur) (by show q < 3; exact hq)
 have f0 := hBG4.free q
 generalize (own3 M.cur).getD q 0 = old at q0
 have hw : IntKind.i64.wrap ((q : Int) + 1 - 1) = (q : Int) := by rw [IntKind.wrap_i64]; omega
 have hw1 : (q : Int) + 1 - 1 = (q : Int) := by omega
 have hw2 : IntKind.i64.wrap (q : Int) = (q : Int) := by rw [IntKind.wrap_i64]; omega
 have hq3 : (q : Int) < 3 := by omega
 have hm5 : Mod (fun b => b = g) w4 (w4.setCell ⟨g, q, none⟩ (.int .u64 (x : Int))) := Mod.set (S := fun b => b = g) (Mod.refl _ _) (p := ⟨g, q, none⟩) (fun _ => rfl) _
 have HBG5 : Hid (Blk (w4.setCell ⟨g, q, none⟩ (.int .u64 (x : Int))) g 22 (((own3 M.cur).set q x).map u64v).toArray) := cur_putJ hBG4 q x
 have HB15 := Lib.hid (Blk.mod hB4 hm5 fun e => by have := HGG.out; omega)
 have HB65 := Lib.hid (HB64.out.mod hm5 fun e => by have := HGG.out; omega)
 have HSL5 := Lib.hid (HSL4.out.mod hm5 fun b hb e => hb.2 e)
 have HT5 := Lib.hid (HT4.out.trans (hm5.to_below HT4.out.size fun b hb e => by have := HGG.out; omega))
 clear hBG4 hm5 hB4 hm4 HBG HT3 HT4 HSL HSL4 HB13 HB63 HB64
 go_wp2_with (refine wpList_load_blk rfl (ty := 45) rfl (g := w.heap.size) rfl HB15.out Tryz.underlying45 rfl (info_model rfl) ?_; refine Hid.out ?_)
 refine Lib.hid ?_
 clear m2 q0 f0
 generalize w4.setCell ⟨g, q, none⟩ (.int .u64 (x : Int)) = w5 at HBG5 HB15 HB65 HSL5 HT5 ⊢
 go_wp2_with (refine wpList_store_blk rfl (ty := 45) rfl (g := g6) (cs := (mdL (ownM M) vl2 (.slice (some ⟨g, 0, none⟩) 3 3)).toArray) rfl rfl HB65.out rfl (info_model rfl) (mdL_oneJ hov rfl) ?_; rintro w6 hB66 hm6; refine Hid.out ?_)
 refine Lib.hid ?_
 have HB66 := Lib.hid hB66
 have HBG6 := Lib.hid (HBG5.out.mod hm6 fun e => by have := HGG.out; omega)
 have HSL6 := Lib.hid (HSL5.out.mod hm6 fun b hb e => by have h1 := hb.1; have h2 := HGG.out; omega)
 have HT6 := Lib.hid (HT5.out.trans (hm6.to_below HT5.out.size fun b hb e => by have := HGG.out; omega))
 clear hB66 hm6
 go_wp2_with fail
 refine bodyPost_ret (results_c Tryz.results49 _ HB66.out rfl Tryz.underlying45 rfl (info_model rfl)) rfl ?_
 exact ⟨⟨_, rfl, vl2, g, rfl, HSL6.out.weak fun b _ hb => ⟨by have h1 := hb.1; have := HGG.out; omega, hb.2⟩, HBG6.out, by show ((own3 M.cur).set q x).length = 3; rw [List.length_set]; rfl, by have := HGG.out; omega⟩, HT6.out⟩
end Go.Proofs.YtpjmolnkmlpfeaaGreatDoor

/- The document's put. -/
namespace Go.Proofs.YtpjmolnkmlpfeaaGreatDoor
set_option maxRecDepth 100000
set_option maxRecDepth 100000
open Go.RowKit

set_option maxHeartbeats 16000000 in
theorem rput_any {K K1 : Nat → Prop} {w : World} {vl vc v : Value} {M : Mdl} {C : Cal} (h : MdF K w vl vc M) (hv : SlB K1 w v C.body) (hn : M.log.length ≤ 100000) (hnb : C.body.length ≤ 100000) :
  Calls Tryz.prog 48 #[.agg (mdL M vl vc).toArray, .agg (calL C v).toArray] w fun e w' => (∃ vl', e = .returned (.agg (mdL (withM M C) vl' vc).toArray) ∧ SlE (fun b => K b ∨ w.heap.size ≤ b) w' vl' (withM M C).log) ∧ Below w.heap.size w w' := by
 have hvc := h.2.one
 obtain ⟨⟨A, c, E, rfl, hE, hr, hall, _⟩, _⟩ := h
 obtain ⟨Db, cb, rfl, hvr, _⟩ := hv
 have hlE : M.log.length = E.length := by rw [← hE, List.length_map]
 have hen : E.length ≤ 100000 := by omega
 have HX1 : Hid (Blk ((w.alloc (.cells (mdL M (.slice A E.length c) vc).toArray 45)).alloc (.cells (calL C (.slice Db C.body.length cb)).toArray 25)) w.heap.size 45 (mdL M (.slice A E.length c) vc).toArray) := (Blk.new _ _ _).alloc _
 have hX2 : Blk ((w.alloc (.cells (mdL M (.slice A E.length c) vc).toArray 45)).alloc (.cells (calL C (.slice Db C.body.length cb)).toArray 25)) (w.heap.size + 1) 25 (calL C (.slice Db C.body.length cb)).toArray := by
  have := Blk.new (w.alloc (.cells (mdL M (.slice A E.length c) vc).toArray 45)) 25 (calL C (.slice Db C.body.length cb)).toArray
  rwa [alloc_size] at this
 have hT : Below w.heap.size w ((w.alloc (.cells (mdL M (.slice A E.length c) vc).toArray 45)).alloc (.cells (calL C (.slice Db C.body.length cb)).toArray 25)) := ((Below.refl _ _).alloc (Nat.le_refl _) _).alloc (by simp) _
 have hsz : ((w.alloc (.cells (mdL M (.slice A E.length c) vc).toArray 45)).alloc (.cells (calL C (.slice Db C.body.length cb)).toArray 25)).heap.size = w.heap.size + 1 + 1 := by simp
 have HX2 := Lib.hid hX2
 have HTa := Lib.hid hT
 have HSZ := Lib.hid hsz
 have HR := Lib.hid hr
 have HALL := Lib.hid hall
 have HE := Lib.hid hE
 have HVR := Lib.hid hvr
 clear hE hr hall hvr hlE hX2 hT hsz hn
 go_enter Tryz.func48, Tryz.ntmps48
 go_wp2_with (refine wpList_alloc_blk rfl (ty := 45) rfl zero_model ?_; rintro g4 w2 hg4 hB4 hb4; refine Hid.out ?_)
 refine Lib.hid ?_
 have H1 := Bb HX1 hb4
 have H2 := Bb HX2 hb4
 have H4 := Lib.hid hB4
 have HT0 := Lib.hid (below_call HTa.out HTa.out.size hb4)
 have HG : Hid (g4 = w.heap.size + 1 + 1 ∧ g4 < w2.heap.size) := ⟨by rw [← hg4, HSZ.out], hB4.lt⟩
 clear hg4 hB4 hb4 HTa HSZ HX1 HX2
 have a0 := (H1.out.cell 0).trans (rfl : _ = some (Value.slice A E.length c))
 have k0 := (H2.out.cell 0).trans (rfl : _ = some (Value.int .i64 C.cl))
 have k6 := (H2.out.cell 6).trans (rfl : _ = some (Value.int .u64 (C.seq : Int)))
 have k8 := (H2.out.cell 8).trans (rfl : _ = some (Value.slice Db C.body.length cb))
 obtain ⟨n, hnn⟩ : ∃ n, n = C.body.length := ⟨_, rfl⟩
 have HN : Hid (n = C.body.length ∧ n ≤ 100000) := ⟨hnn, by omega⟩
 have HV : Hid (Reads w 1 Db n (C.body.map bv)) := by show Reads _ _ _ _ _; rw [hnn]; exact HVR.out
 rw [← hnn] at H2 k8 ⊢
 have H10 := H1
 have H20 := H2
 clear hnn hnb
 go_wp2_with fail
 refine PF.b (by kernel_rfl) (fun _ _ _ _ _ h => h) ?_
 have HW := Lib.hid ((Below.refl w2.heap.size w2).drew)
 have H1 := Lib.hid H1.out.drew
 have H2 := Lib.hid H2.out.drew
 refine PF.t 1 (by kernel_rfl) rfl (by intro u; go_simp; try rfl) ?_
 try simp only [pz]
 refine PF.m 2 (w.heap.size) (by kernel_rfl) rfl (fun hcu => by go_simp; try rfl) ?_
 try simp only [pz]
 refine PF.t 4 (by kernel_rfl) rfl (by intro u; go_simp; try rfl) ?_
 try simp only [pz]
 refine PF.m 5 ((w.heap.size+1)) (by kernel_rfl) rfl (fun hcu => by go_simp; try rfl) ?_
 try simp only [pz]
 refine PF.t 6 (by kernel_rfl) rfl (by intro u; go_simp; try rfl) ?_
 try simp only [pz]
 refine PF.m 7 ((w.heap.size+1)) (by kernel_rfl) rfl (fun hcu => by go_simp; try rfl) ?_
 try simp only [pz]
 refine PF.t 9 (by kernel_rfl) rfl (by intro u; go_simp; try rfl) ?_
 try simp only [pz]
 refine PF.m 10 ((w.heap.size+1)) (by kernel_rfl) rfl (fun hcu => by go_simp; try rfl) ?_
 try simp only [pz]
 refine PF.g [0, 8] (by kernel_rfl) rfl (PF.fork_cons ?_ (PF.fork_cons ?_ PF.fork_nil))
 -- number 0 first
 ·refine PF.f (by kernel_rfl) rfl fun K hK => ?_
  refine wp_mkE0 rfl ?_
  intro g0 v0 ho hb
  have HRW := Lib.hid (base_le ho HW.out.size)
  have HW := Tt HW hb
  have H1 := Bb H1 hb
  have H2 := Bb H2 hb
  clear ho hb
  refine hK (by repeat (first | exact PF.n | refine PF.l ?_ | refine PF.o (by decide +kernel) ?_ | refine PF.y (by first | exact H1.out.trans H10.out.symm | exact H2.out.trans H20.out.symm) ?_)) ?_
  clear hK K
  try simp only [pz]
  refine PF.g [3, 8] (by kernel_rfl) rfl (PF.fork_cons ?_ (PF.fork_cons ?_ PF.fork_nil))
  -- number 3 first
  ·refine PF.f (by kernel_rfl) rfl fun K hK => ?_
   refine wp_appE rfl HRW.out rfl (HR.out.below (HT0.out.trans (HW.out.mono HT0.out.size))) rfl rfl (enL_one HALL.out) (by show 0 + _ ≤ _; omega) HW.out.size ?_
   intro v3 w3 ho hg hq
   have ho : OwE w2.heap.size w3 v3 E := ho
   obtain ⟨A3, c3, rfl, _, _⟩ := own_slice ho
   have hm := mod_grownO hg
   have hgl : ∀ b, (Value.slice (some ⟨g0, 0, none⟩) 0 0).ownBlock = some b → w2.heap.size ≤ b := fun b hb => own_ge HRW.out b hb
   have H1 := Lib.hid (H1.out.mod hm fun e => by have := hgl _ e; have := HG.out; omega)
   have H2 := Lib.hid (H2.out.mod hm fun e => by have := hgl _ e; have := HG.out; omega)
   have HW := Lib.hid (HW.out.grown hg HW.out.size hgl)
   have HRW := Lib.hid ho
   clear ho hg hq hm hgl
   refine hK (by repeat (first | exact PF.n | refine PF.l ?_ | refine PF.o (by decide +kernel) ?_ | refine PF.y (by first | exact H1.out.trans H10.out.symm | exact H2.out.trans H20.out.symm) ?_)) ?_
   clear hK K
   try simp only [pz]
   refine PF.e 8 (by kernel_rfl) rfl fun K hK => ?_
   refine wp_mkB0 rfl ?_
   intro g8 v8 ho hb
   have HDJ : Hid (∀ b, (Value.slice A3 E.length c3).ownBlock = some b → (Value.slice (some ⟨g8, 0, none⟩) 0 0).ownBlock ≠ some b) := fun b h1 h2 => by have q1 := own_ge ho b h2; have q2 := (HRW.out.lt b h1).2; omega
   have HRW := Lib.hid (own_call HRW.out hb)
   have HS := Lib.hid (base_le ho HW.out.size)
   have HW := Tt HW hb
   have H1 := Bb H1 hb
   have H2 := Bb H2 hb
   clear ho hb
   refine hK (by repeat (first | exact PF.n | refine PF.l ?_ | refine PF.o (by decide +kernel) ?_ | refine PF.y (by first | exact H1.out.trans H10.out.symm | exact H2.out.trans H20.out.symm) ?_)) ?_
   clear hK K
   try simp only [pz]
   refine PF.e 11 (by kernel_rfl) rfl fun K hK => ?_
   refine wp_appB rfl HS.out rfl (HV.out.below (HT0.out.trans (HW.out.mono HT0.out.size))) HN.out.1 rfl (by have := HN.out; show 0 + _ ≤ _; omega) HW.out.size ?_
   intro v11 w11 ho hg hq
   have ho : OwB w2.heap.size w11 v11 C.body := ho
   obtain ⟨A11, c11, e11, _, _⟩ := own_slice ho
   rw [← HN.out.1] at e11
   subst e11
   have hm := mod_grownO hg
   have hgl : ∀ b, (Value.slice (some ⟨g8, 0, none⟩) 0 0).ownBlock = some b → w2.heap.size ≤ b := fun b hb => own_ge HS.out b hb
   have H1 := Lib.hid (H1.out.mod hm fun e => by have := hgl _ e; have := HG.out; omega)
   have H2 := Lib.hid (H2.out.mod hm fun e => by have := hgl _ e; have := HG.out; omega)
   have HDK : Hid (∀ b, (Value.slice A3 E.length c3).ownBlock = some b → (Value.slice A11 n c11).ownBlock ≠ some b) := fun b h1 h2 => by rcases hq with e | e; exact HDJ.out b h1 (e ▸ h2); rw [e] at h2; injection h2 with h2; have := (HRW.out.lt b h1).2; omega
   have HRW := Lib.hid (own_mod HRW.out hm fun b h1 h2 => HDJ.out b h1 h2)
   have HW := Lib.hid (HW.out.grown hg HW.out.size hgl)
   have HS := Lib.hid ho
   clear ho hg hq hm hgl
   refine hK (by repeat (first | exact PF.n | refine PF.l ?_ | refine PF.o (by decide +kernel) ?_ | refine PF.y (by first | exact H1.out.trans H10.out.symm | exact H2.out.trans H20.out.symm) ?_)) ?_
   clear hK K
   try simp only [pz]
   refine PF.t 12 (by kernel_rfl) rfl (fun {u} => by have h12 := build_ent C.cl C.seq n c11 A11 u; exact exec_buildJ3 (x := .int .i64 C.cl) (y := .int .u64 (C.seq : Int)) (z := .slice A11 n c11) (v := .agg #[.int .i64 C.cl, .int .u64 (C.seq : Int), .slice A11 n c11]) rfl rfl rfl rfl h12) ?_
   try simp only [pz]
   refine PF.e 13 (by kernel_rfl) rfl fun K hK => ?_
   refine wp_mkE1 (x := (⟨C.cl, C.seq, C.body⟩, .slice A11 n c11)) rfl rfl ?_
   intro g13 v13 hrd hb
   have HRD := Lib.hid hrd
   have HRW := Lib.hid (own_call HRW.out hb)
   have HS := Lib.hid (own_call HS.out hb)
   have HW := Tt HW hb
   have H1 := Bb H1 hb
   have H2 := Bb H2 hb
   clear hrd hb
   refine hK (by repeat (first | exact PF.n | refine PF.l ?_ | refine PF.o (by decide +kernel) ?_ | refine PF.y (by first | exact H1.out.trans H10.out.symm | exact H2.out.trans H20.out.symm) ?_)) ?_
   clear hK K
   try simp only [pz]
   refine PF.e 14 (by kernel_rfl) rfl fun K hK => ?_
   refine wp_appE rfl HRW.out rfl HRD.out rfl rfl (by intro u hu; simp only [List.flatMap_cons, List.flatMap_nil, List.append_nil, enL, List.mem_cons, List.not_mem_nil, or_false] at hu; rcases hu with rfl | rfl | rfl <;> rfl) (by simp only [List.length_cons, List.length_nil]; omega) HW.out.size ?_
   intro v14 w14 ho hg hq
   have ho : OwE w2.heap.size w14 v14 (E ++ [((⟨C.cl, C.seq, C.body⟩, Value.slice A11 n c11) : EnV)]) := ho
   obtain ⟨A14, c14, e14, _, _⟩ := own_slice ho
   rw [show (E ++ [((⟨C.cl, C.seq, C.body⟩, Value.slice A11 n c11) : EnV)]).length = E.length + 1 from by simp] at e14
   subst e14
   have hm := mod_grownO hg
   have hgl : ∀ b, (Value.slice A3 E.length c3).ownBlock = some b → w2.heap.size ≤ b := fun b hb => own_ge HRW.out b hb
   have HH1 := Lib.hid (H1.out.mod hm fun e => by have := hgl _ e; have := HG.out; omega)
   have H4 := Lib.hid ((H4.out.below HW.out H4.out.lt).mod hm fun e => by have := hgl _ e; have := HG.out; omega)
   have HS := Lib.hid (own_mod HS.out hm fun b h1 h2 => HDK.out b h2 h1)
   have HW := Lib.hid (HW.out.grown hg HW.out.size hgl)
   have HRW := Lib.hid ho
   have a14 := (HH1.out.cell 0).trans (rfl : _ = some (Value.slice A E.length c))
   have f14 := HH1.out.free 0
   clear ho hg hq hm hgl
   refine hK (by repeat (first | exact PF.n | refine PF.l ?_ | refine PF.o (by decide +kernel) ?_ | refine PF.y (by first | exact HH1.out.trans H10.out.symm) ?_)) ?_
   clear hK K
   try simp only [pz]
   refine PF.t 15 (by kernel_rfl) rfl (by intro u; go_simp; try rfl) ?_
   try simp only [pz]
   refine PF.e 16 (by kernel_rfl) rfl fun K hK => ?_
   go_simp
   refine hK (by repeat (first | exact PF.n | refine PF.l ?_ | refine PF.o (by decide +kernel) ?_ | refine PF.y (by first | rfl | assumption | go_simp) ?_)) ?_
   clear hK K
   try simp only [pz]
   refine PF.d (by kernel_rfl) ?_
   have hB5 : Blk (w14.setCell ⟨w.heap.size, 0, none⟩ (.slice A14 (E.length + 1) c14)) w.heap.size 45 (mdL (withM M C) (.slice A14 (E.length + 1) c14) vc).toArray := HH1.out.put 0 _
   have hm5 : Mod (fun b => b = w.heap.size) w14 (w14.setCell ⟨w.heap.size, 0, none⟩ (.slice A14 (E.length + 1) c14)) := Mod.set (S := fun b => b = w.heap.size) (Mod.refl _ _) (p := ⟨w.heap.size, 0, none⟩) (fun _ => rfl) _
   have HB5 := Lib.hid hB5
   have H45 := Lib.hid (H4.out.mod hm5 fun e => by have := HG.out; omega)
   have hT := HT0.out.trans (HW.out.mono HT0.out.size)
   have HT5 := Lib.hid (hT.trans (hm5.to_below hT.size fun b hb e => by omega))
   have HRW5 := Lib.hid (own_mod HRW.out hm5 fun b hb e => by have h1 := own_ge HRW.out b hb; have := HG.out; omega)
   have HS5 := Lib.hid (own_mod HS.out hm5 fun b hb e => by have h1 := own_ge HS.out b hb; have := HG.out; omega)
   clear hB5 hm5 hT HRW HS H4 HH1 H2 HW a14 f14 a0 k0 k6 k8
   go_wp2_with (refine wpList_load_blk rfl (ty := 45) rfl (g := w.heap.size) rfl HB5.out Tryz.underlying45 rfl (info_model rfl) ?_; refine Hid.out ?_)
   refine Lib.hid ?_
   generalize w14.setCell ⟨w.heap.size, 0, none⟩ (.slice A14 (E.length + 1) c14) = w15 at HB5 H45 HT5 HRW5 HS5 ⊢
   refine wpList_store_blk rfl (ty := 45) rfl (g := g4) (cs := (mdL (withM M C) (.slice A14 (E.length + 1) c14) vc).toArray) rfl rfl H45.out rfl (info_model rfl) (mdL_oneJ rfl hvc) ?_
   rintro w16 hB6 hm6
   have HT6 := Lib.hid (HT5.out.trans (hm6.to_below HT5.out.size fun b hb e => by have := HG.out; omega))
   have HRW6 := Lib.hid (own_mod HRW5.out hm6 fun b hb e => by have h1 := own_ge HRW5.out b hb; have := HG.out; omega)
   have HS6 : Hid (OwB w2.heap.size w16 (.slice A11 n c11) C.body) := own_mod HS5.out hm6 fun b hb e => by have h1 := own_ge HS5.out b hb; have := HG.out; omega
   have HB6 := Lib.hid hB6
   clear hB6 hm6
   go_wp2_with fail
   refine bodyPost_ret (results_c Tryz.results48 _ HB6.out rfl Tryz.underlying45 rfl (info_model rfl)) rfl ?_
   have hW2 : w.heap.size ≤ w2.heap.size := HT0.out.size
   have hlen : (E ++ [((⟨C.cl, C.seq, C.body⟩, Value.slice A11 n c11) : EnV)]).length = E.length + 1 := by simp
   have h6 := HRW6.out
   unfold OwE at h6
   rw [hlen] at h6
   have hrd := Reads.of_own h6
   obtain ⟨_, _, e', l1, l2⟩ := own_slice h6
   injection e' with e1 _ e2
   subst e1 e2
   refine ⟨⟨_, rfl, A14, c14, E ++ [((⟨C.cl, C.seq, C.body⟩, Value.slice A11 n c11) : EnV)], by rw [hlen], by rw [List.map_append, HE.out]; rfl, by rw [hlen]; exact hrd, fun p hp => ?_, by rw [hlen]; exact l1, by simpa [maxLen] using l2, fun _ ad ea => .inr (by have h1 := own_ge h6 ad.block (by rw [ea]; rfl); omega)⟩, HT6.out⟩
   rcases List.mem_append.1 hp with hp | hp
   ·exact ((HALL.out p hp).below HT6.out).weak fun b _ h => .inl h
   ·rw [List.mem_singleton.1 hp]
    exact (HS6.out.slb.weak fun b _ h => .inr (by omega))
  -- number 8 first
  ·refine PF.f (by kernel_rfl) rfl fun K hK => ?_
   refine wp_mkB0 rfl ?_
   intro g8 v8 ho hb
   have HDJ : Hid (∀ b, (Value.slice (some ⟨g0, 0, none⟩) 0 0).ownBlock = some b → (Value.slice (some ⟨g8, 0, none⟩) 0 0).ownBlock ≠ some b) := fun b h1 h2 => by have q1 := own_ge ho b h2; have q2 := (HRW.out.lt b h1).2; omega
   have HRW := Lib.hid (own_call HRW.out hb)
   have HS := Lib.hid (base_le ho HW.out.size)
   have HW := Tt HW hb
   have H1 := Bb H1 hb
   have H2 := Bb H2 hb
   clear ho hb
   refine hK (by repeat (first | exact PF.n | refine PF.l ?_ | refine PF.o (by decide +kernel) ?_ | refine PF.y (by first | exact H1.out.trans H10.out.symm | exact H2.out.trans H20.out.symm) ?_)) ?_
   clear hK K
   try simp only [pz]
   refine PF.e 3 (by kernel_rfl) rfl fun K hK => ?_
   refine wp_appE rfl HRW.out rfl (HR.out.below (HT0.out.trans (HW.out.mono HT0.out.size))) rfl rfl (enL_one HALL.out) (by show 0 + _ ≤ _; omega) HW.out.size ?_
   intro v3 w3 ho hg hq
   have ho : OwE w2.heap.size w3 v3 E := ho
   obtain ⟨A3, c3, rfl, _, _⟩ := own_slice ho
   have hm := mod_grownO hg
   have hgl : ∀ b, (Value.slice (some ⟨g0, 0, none⟩) 0 0).ownBlock = some b → w2.heap.size ≤ b := fun b hb => own_ge HRW.out b hb
   have H1 := Lib.hid (H1.out.mod hm fun e => by have := hgl _ e; have := HG.out; omega)
   have H2 := Lib.hid (H2.out.mod hm fun e => by have := hgl _ e; have := HG.out; omega)
   have hsl := fun b h => (HS.out.lt b h).2
   have HS := Lib.hid (own_mod HS.out hm fun b h1 h2 => HDJ.out b h2 h1)
   have HDJ : Hid (∀ b, (Value.slice A3 E.length c3).ownBlock = some b → (Value.slice (some ⟨g8, 0, none⟩) 0 0).ownBlock ≠ some b) := fun b h1 h2 => by rcases hq with e | e; exact HDJ.out b (e ▸ h1) h2; rw [e] at h1; injection h1 with h1; have := hsl b h2; omega
   clear hsl
   have HW := Lib.hid (HW.out.grown hg HW.out.size hgl)
   have HRW := Lib.hid ho
   clear ho hg hq hm hgl
   refine hK (by repeat (first | exact PF.n | refine PF.l ?_ | refine PF.o (by decide +kernel) ?_ | refine PF.y (by first | exact H1.out.trans H10.out.symm | exact H2.out.trans H20.out.symm) ?_)) ?_
   clear hK K
   try simp only [pz]
   refine PF.e 11 (by kernel_rfl) rfl fun K hK => ?_
   refine wp_appB rfl HS.out rfl (HV.out.below (HT0.out.trans (HW.out.mono HT0.out.size))) HN.out.1 rfl (by have := HN.out; show 0 + _ ≤ _; omega) HW.out.size ?_
   intro v11 w11 ho hg hq
   have ho : OwB w2.heap.size w11 v11 C.body := ho
   obtain ⟨A11, c11, e11, _, _⟩ := own_slice ho
   rw [← HN.out.1] at e11
   subst e11
   have hm := mod_grownO hg
   have hgl : ∀ b, (Value.slice (some ⟨g8, 0, none⟩) 0 0).ownBlock = some b → w2.heap.size ≤ b := fun b hb => own_ge HS.out b hb
   have H1 := Lib.hid (H1.out.mod hm fun e => by have := hgl _ e; have := HG.out; omega)
   have H2 := Lib.hid (H2.out.mod hm fun e => by have := hgl _ e; have := HG.out; omega)
   have HDK : Hid (∀ b, (Value.slice A3 E.length c3).ownBlock = some b → (Value.slice A11 n c11).ownBlock ≠ some b) := fun b h1 h2 => by rcases hq with e | e; exact HDJ.out b h1 (e ▸ h2); rw [e] at h2; injection h2 with h2; have := (HRW.out.lt b h1).2; omega
   have HRW := Lib.hid (own_mod HRW.out hm fun b h1 h2 => HDJ.out b h1 h2)
   have HW := Lib.hid (HW.out.grown hg HW.out.size hgl)
   have HS := Lib.hid ho
   clear ho hg hq hm hgl
   refine hK (by repeat (first | exact PF.n | refine PF.l ?_ | refine PF.o (by decide +kernel) ?_ | refine PF.y (by first | exact H1.out.trans H10.out.symm | exact H2.out.trans H20.out.symm) ?_)) ?_
   clear hK K
   try simp only [pz]
   refine PF.t 12 (by kernel_rfl) rfl (fun {u} => by have h12 := build_ent C.cl C.seq n c11 A11 u; exact exec_buildJ3 (x := .int .i64 C.cl) (y := .int .u64 (C.seq : Int)) (z := .slice A11 n c11) (v := .agg #[.int .i64 C.cl, .int .u64 (C.seq : Int), .slice A11 n c11]) rfl rfl rfl rfl h12) ?_
   try simp only [pz]
   refine PF.e 13 (by kernel_rfl) rfl fun K hK => ?_
   refine wp_mkE1 (x := (⟨C.cl, C.seq, C.body⟩, .slice A11 n c11)) rfl rfl ?_
   intro g13 v13 hrd hb
   have HRD := Lib.hid hrd
   have HRW := Lib.hid (own_call HRW.out hb)
   have HS := Lib.hid (own_call HS.out hb)
   have HW := Tt HW hb
   have H1 := Bb H1 hb
   have H2 := Bb H2 hb
   clear hrd hb
   refine hK (by repeat (first | exact PF.n | refine PF.l ?_ | refine PF.o (by decide +kernel) ?_ | refine PF.y (by first | exact H1.out.trans H10.out.symm | exact H2.out.trans H20.out.symm) ?_)) ?_
   clear hK K
   try simp only [pz]
   refine PF.e 14 (by kernel_rfl) rfl fun K hK => ?_
   refine wp_appE rfl HRW.out rfl HRD.out rfl rfl (by intro u hu; simp only [List.flatMap_cons, List.flatMap_nil, List.append_nil, enL, List.mem_cons, List.not_mem_nil, or_false] at hu; rcases hu with rfl | rfl | rfl <;> rfl) (by simp only [List.length_cons, List.length_nil]; omega) HW.out.size ?_
   intro v14 w14 ho hg hq
   have ho : OwE w2.heap.size w14 v14 (E ++ [((⟨C.cl, C.seq, C.body⟩, Value.slice A11 n c11) : EnV)]) := ho
   obtain ⟨A14, c14, e14, _, _⟩ := own_slice ho
   rw [show (E ++ [((⟨C.cl, C.seq, C.body⟩, Value.slice A11 n c11) : EnV)]).length = E.length + 1 from by simp] at e14
   subst e14
   have hm := mod_grownO hg
   have hgl : ∀ b, (Value.slice A3 E.length c3).ownBlock = some b → w2.heap.size ≤ b := fun b hb => own_ge HRW.out b hb
   have HH1 := Lib.hid (H1.out.mod hm fun e => by have := hgl _ e; have := HG.out; omega)
   have H4 := Lib.hid ((H4.out.below HW.out H4.out.lt).mod hm fun e => by have := hgl _ e; have := HG.out; omega)
   have HS := Lib.hid (own_mod HS.out hm fun b h1 h2 => HDK.out b h2 h1)
   have HW := Lib.hid (HW.out.grown hg HW.out.size hgl)
   have HRW := Lib.hid ho
   have a14 := (HH1.out.cell 0).trans (rfl : _ = some (Value.slice A E.length c))
   have f14 := HH1.out.free 0
   clear ho hg hq hm hgl
   refine hK (by repeat (first | exact PF.n | refine PF.l ?_ | refine PF.o (by decide +kernel) ?_ | refine PF.y (by first | exact HH1.out.trans H10.out.symm) ?_)) ?_
   clear hK K
   try simp only [pz]
   refine PF.t 15 (by kernel_rfl) rfl (by intro u; go_simp; try rfl) ?_
   try simp only [pz]
   refine PF.e 16 (by kernel_rfl) rfl fun K hK => ?_
   go_simp
   refine hK (by repeat (first | exact PF.n | refine PF.l ?_ | refine PF.o (by decide +kernel) ?_ | refine PF.y (by first | rfl | assumption | go_simp) ?_)) ?_
   clear hK K
   try simp only [pz]
   refine PF.d (by kernel_rfl) ?_
   have hB5 : Blk (w14.setCell ⟨w.heap.size, 0, none⟩ (.slice A14 (E.length + 1) c14)) w.heap.size 45 (mdL (withM M C) (.slice A14 (E.length + 1) c14) vc).toArray := HH1.out.put 0 _
   have hm5 : Mod (fun b => b = w.heap.size) w14 (w14.setCell ⟨w.heap.size, 0, none⟩ (.slice A14 (E.length + 1) c14)) := Mod.set (S := fun b => b = w.heap.size) (Mod.refl _ _) (p := ⟨w.heap.size, 0, none⟩) (fun _ => rfl) _
   have HB5 := Lib.hid hB5
   have H45 := Lib.hid (H4.out.mod hm5 fun e => by have := HG.out; omega)
   have hT := HT0.out.trans (HW.out.mono HT0.out.size)
   have HT5 := Lib.hid (hT.trans (hm5.to_below hT.size fun b hb e => by omega))
   have HRW5 := Lib.hid (own_mod HRW.out hm5 fun b hb e => by have h1 := own_ge HRW.out b hb; have := HG.out; omega)
   have HS5 := Lib.hid (own_mod HS.out hm5 fun b hb e => by have h1 := own_ge HS.out b hb; have := HG.out; omega)
   clear hB5 hm5 hT HRW HS H4 HH1 H2 HW a14 f14 a0 k0 k6 k8
   go_wp2_with (refine wpList_load_blk rfl (ty := 45) rfl (g := w.heap.size) rfl HB5.out Tryz.underlying45 rfl (info_model rfl) ?_; refine Hid.out ?_)
   refine Lib.hid ?_
   generalize w14.setCell ⟨w.heap.size, 0, none⟩ (.slice A14 (E.length + 1) c14) = w15 at HB5 H45 HT5 HRW5 HS5 ⊢
   refine wpList_store_blk rfl (ty := 45) rfl (g := g4) (cs := (mdL (withM M C) (.slice A14 (E.length + 1) c14) vc).toArray) rfl rfl H45.out rfl (info_model rfl) (mdL_oneJ rfl hvc) ?_
   rintro w16 hB6 hm6
   have HT6 := Lib.hid (HT5.out.trans (hm6.to_below HT5.out.size fun b hb e => by have := HG.out; omega))
   have HRW6 := Lib.hid (own_mod HRW5.out hm6 fun b hb e => by have h1 := own_ge HRW5.out b hb; have := HG.out; omega)
   have HS6 : Hid (OwB w2.heap.size w16 (.slice A11 n c11) C.body) := own_mod HS5.out hm6 fun b hb e => by have h1 := own_ge HS5.out b hb; have := HG.out; omega
   have HB6 := Lib.hid hB6
   clear hB6 hm6
   go_wp2_with fail
   refine bodyPost_ret (results_c Tryz.results48 _ HB6.out rfl Tryz.underlying45 rfl (info_model rfl)) rfl ?_
   have hW2 : w.heap.size ≤ w2.heap.size := HT0.out.size
   have hlen : (E ++ [((⟨C.cl, C.seq, C.body⟩, Value.slice A11 n c11) : EnV)]).length = E.length + 1 := by simp
   have h6 := HRW6.out
   unfold OwE at h6
   rw [hlen] at h6
   have hrd := Reads.of_own h6
   obtain ⟨_, _, e', l1, l2⟩ := own_slice h6
   injection e' with e1 _ e2
   subst e1 e2
   refine ⟨⟨_, rfl, A14, c14, E ++ [((⟨C.cl, C.seq, C.body⟩, Value.slice A11 n c11) : EnV)], by rw [hlen], by rw [List.map_append, HE.out]; rfl, by rw [hlen]; exact hrd, fun p hp => ?_, by rw [hlen]; exact l1, by simpa [maxLen] using l2, fun _ ad ea => .inr (by have h1 := own_ge h6 ad.block (by rw [ea]; rfl); omega)⟩, HT6.out⟩
   rcases List.mem_append.1 hp with hp | hp
   ·exact ((HALL.out p hp).below HT6.out).weak fun b _ h => .inl h
   ·rw [List.mem_singleton.1 hp]
    exact (HS6.out.slb.weak fun b _ h => .inr (by omega))
 -- number 8 first
 ·refine PF.f (by kernel_rfl) rfl fun K hK => ?_
  refine wp_mkB0 rfl ?_
  intro g8 v8 ho hb
  have HS := Lib.hid (base_le ho HW.out.size)
  have HW := Tt HW hb
  have H1 := Bb H1 hb
  have H2 := Bb H2 hb
  clear ho hb
  refine hK (by repeat (first | exact PF.n | refine PF.l ?_ | refine PF.o (by decide +kernel) ?_ | refine PF.y (by first | exact H1.out.trans H10.out.symm | exact H2.out.trans H20.out.symm) ?_)) ?_
  clear hK K
  try simp only [pz]
  refine PF.e 0 (by kernel_rfl) rfl fun K hK => ?_
  refine wp_mkE0 rfl ?_
  intro g0 v0 ho hb
  have HDJ : Hid (∀ b, (Value.slice (some ⟨g0, 0, none⟩) 0 0).ownBlock = some b → (Value.slice (some ⟨g8, 0, none⟩) 0 0).ownBlock ≠ some b) := fun b h1 h2 => by have q1 := own_ge ho b h1; have q2 := (HS.out.lt b h2).2; omega
  have HS := Lib.hid (own_call HS.out hb)
  have HRW := Lib.hid (base_le ho HW.out.size)
  have HW := Tt HW hb
  have H1 := Bb H1 hb
  have H2 := Bb H2 hb
  clear ho hb
  refine hK (by repeat (first | exact PF.n | refine PF.l ?_ | refine PF.o (by decide +kernel) ?_ | refine PF.y (by first | exact H1.out.trans H10.out.symm | exact H2.out.trans H20.out.symm) ?_)) ?_
  clear hK K
  try simp only [pz]
  refine PF.e 3 (by kernel_rfl) rfl fun K hK => ?_
  refine wp_appE rfl HRW.out rfl (HR.out.below (HT0.out.trans (HW.out.mono HT0.out.size))) rfl rfl (enL_one HALL.out) (by show 0 + _ ≤ _; omega) HW.out.size ?_
  intro v3 w3 ho hg hq
  have ho : OwE w2.heap.size w3 v3 E := ho
  obtain ⟨A3, c3, rfl, _, _⟩ := own_slice ho
  have hm := mod_grownO hg
  have hgl : ∀ b, (Value.slice (some ⟨g0, 0, none⟩) 0 0).ownBlock = some b → w2.heap.size ≤ b := fun b hb => own_ge HRW.out b hb
  have H1 := Lib.hid (H1.out.mod hm fun e => by have := hgl _ e; have := HG.out; omega)
  have H2 := Lib.hid (H2.out.mod hm fun e => by have := hgl _ e; have := HG.out; omega)
  have hsl := fun b h => (HS.out.lt b h).2
  have HS := Lib.hid (own_mod HS.out hm fun b h1 h2 => HDJ.out b h2 h1)
  have HDJ : Hid (∀ b, (Value.slice A3 E.length c3).ownBlock = some b → (Value.slice (some ⟨g8, 0, none⟩) 0 0).ownBlock ≠ some b) := fun b h1 h2 => by rcases hq with e | e; exact HDJ.out b (e ▸ h1) h2; rw [e] at h1; injection h1 with h1; have := hsl b h2; omega
  clear hsl
  have HW := Lib.hid (HW.out.grown hg HW.out.size hgl)
  have HRW := Lib.hid ho
  clear ho hg hq hm hgl
  refine hK (by repeat (first | exact PF.n | refine PF.l ?_ | refine PF.o (by decide +kernel) ?_ | refine PF.y (by first | exact H1.out.trans H10.out.symm | exact H2.out.trans H20.out.symm) ?_)) ?_
  clear hK K
  try simp only [pz]
  refine PF.e 11 (by kernel_rfl) rfl fun K hK => ?_
  refine wp_appB rfl HS.out rfl (HV.out.below (HT0.out.trans (HW.out.mono HT0.out.size))) HN.out.1 rfl (by have := HN.out; show 0 + _ ≤ _; omega) HW.out.size ?_
  intro v11 w11 ho hg hq
  have ho : OwB w2.heap.size w11 v11 C.body := ho
  obtain ⟨A11, c11, e11, _, _⟩ := own_slice ho
  rw [← HN.out.1] at e11
  subst e11
  have hm := mod_grownO hg
  have hgl : ∀ b, (Value.slice (some ⟨g8, 0, none⟩) 0 0).ownBlock = some b → w2.heap.size ≤ b := fun b hb => own_ge HS.out b hb
  have H1 := Lib.hid (H1.out.mod hm fun e => by have := hgl _ e; have := HG.out; omega)
  have H2 := Lib.hid (H2.out.mod hm fun e => by have := hgl _ e; have := HG.out; omega)
  have HDK : Hid (∀ b, (Value.slice A3 E.length c3).ownBlock = some b → (Value.slice A11 n c11).ownBlock ≠ some b) := fun b h1 h2 => by rcases hq with e | e; exact HDJ.out b h1 (e ▸ h2); rw [e] at h2; injection h2 with h2; have := (HRW.out.lt b h1).2; omega
  have HRW := Lib.hid (own_mod HRW.out hm fun b h1 h2 => HDJ.out b h1 h2)
  have HW := Lib.hid (HW.out.grown hg HW.out.size hgl)
  have HS := Lib.hid ho
  clear ho hg hq hm hgl
  refine hK (by repeat (first | exact PF.n | refine PF.l ?_ | refine PF.o (by decide +kernel) ?_ | refine PF.y (by first | exact H1.out.trans H10.out.symm | exact H2.out.trans H20.out.symm) ?_)) ?_
  clear hK K
  try simp only [pz]
  refine PF.t 12 (by kernel_rfl) rfl (fun {u} => by have h12 := build_ent C.cl C.seq n c11 A11 u; exact exec_buildJ3 (x := .int .i64 C.cl) (y := .int .u64 (C.seq : Int)) (z := .slice A11 n c11) (v := .agg #[.int .i64 C.cl, .int .u64 (C.seq : Int), .slice A11 n c11]) rfl rfl rfl rfl h12) ?_
  try simp only [pz]
  refine PF.e 13 (by kernel_rfl) rfl fun K hK => ?_
  refine wp_mkE1 (x := (⟨C.cl, C.seq, C.body⟩, .slice A11 n c11)) rfl rfl ?_
  intro g13 v13 hrd hb
  have HRD := Lib.hid hrd
  have HRW := Lib.hid (own_call HRW.out hb)
  have HS := Lib.hid (own_call HS.out hb)
  have HW := Tt HW hb
  have H1 := Bb H1 hb
  have H2 := Bb H2 hb
  clear hrd hb
  refine hK (by repeat (first | exact PF.n | refine PF.l ?_ | refine PF.o (by decide +kernel) ?_ | refine PF.y (by first | exact H1.out.trans H10.out.symm | exact H2.out.trans H20.out.symm) ?_)) ?_
  clear hK K
  try simp only [pz]
  refine PF.e 14 (by kernel_rfl) rfl fun K hK => ?_
  refine wp_appE rfl HRW.out rfl HRD.out rfl rfl (by intro u hu; simp only [List.flatMap_cons, List.flatMap_nil, List.append_nil, enL, List.mem_cons, List.not_mem_nil, or_false] at hu; rcases hu with rfl | rfl | rfl <;> rfl) (by simp only [List.length_cons, List.length_nil]; omega) HW.out.size ?_
  intro v14 w14 ho hg hq
  have ho : OwE w2.heap.size w14 v14 (E ++ [((⟨C.cl, C.seq, C.body⟩, Value.slice A11 n c11) : EnV)]) := ho
  obtain ⟨A14, c14, e14, _, _⟩ := own_slice ho
  rw [show (E ++ [((⟨C.cl, C.seq, C.body⟩, Value.slice A11 n c11) : EnV)]).length = E.length + 1 from by simp] at e14
  subst e14
  have hm := mod_grownO hg
  have hgl : ∀ b, (Value.slice A3 E.length c3).ownBlock = some b → w2.heap.size ≤ b := fun b hb => own_ge HRW.out b hb
  have HH1 := Lib.hid (H1.out.mod hm fun e => by have := hgl _ e; have := HG.out; omega)
  have H4 := Lib.hid ((H4.out.below HW.out H4.out.lt).mod hm fun e => by have := hgl _ e; have := HG.out; omega)
  have HS := Lib.hid (own_mod HS.out hm fun b h1 h2 => HDK.out b h2 h1)
  have HW := Lib.hid (HW.out.grown hg HW.out.size hgl)
  have HRW := Lib.hid ho
  have a14 := (HH1.out.cell 0).trans (rfl : _ = some (Value.slice A E.length c))
  have f14 := HH1.out.free 0
  clear ho hg hq hm hgl
  refine hK (by repeat (first | exact PF.n | refine PF.l ?_ | refine PF.o (by decide +kernel) ?_ | refine PF.y (by first | exact HH1.out.trans H10.out.symm) ?_)) ?_
  clear hK K
  try simp only [pz]
  refine PF.t 15 (by kernel_rfl) rfl (by intro u; go_simp; try rfl) ?_
  try simp only [pz]
  refine PF.e 16 (by kernel_rfl) rfl fun K hK => ?_
  go_simp
  refine hK (by repeat (first | exact PF.n | refine PF.l ?_ | refine PF.o (by decide +kernel) ?_ | refine PF.y (by first | rfl | assumption | go_simp) ?_)) ?_
  clear hK K
  try simp only [pz]
  refine PF.d (by kernel_rfl) ?_
  have hB5 : Blk (w14.setCell ⟨w.heap.size, 0, none⟩ (.slice A14 (E.length + 1) c14)) w.heap.size 45 (mdL (withM M C) (.slice A14 (E.length + 1) c14) vc).toArray := HH1.out.put 0 _
  have hm5 : Mod (fun b => b = w.heap.size) w14 (w14.setCell ⟨w.heap.size, 0, none⟩ (.slice A14 (E.length + 1) c14)) := Mod.set (S := fun b => b = w.heap.size) (Mod.refl _ _) (p := ⟨w.heap.size, 0, none⟩) (fun _ => rfl) _
  have HB5 := Lib.hid hB5
  have H45 := Lib.hid (H4.out.mod hm5 fun e => by have := HG.out; omega)
  have hT := HT0.out.trans (HW.out.mono HT0.out.size)
  have HT5 := Lib.hid (hT.trans (hm5.to_below hT.size fun b hb e => by omega))
  have HRW5 := Lib.hid (own_mod HRW.out hm5 fun b hb e => by have h1 := own_ge HRW.out b hb; have := HG.out; omega)
  have HS5 := Lib.hid (own_mod HS.out hm5 fun b hb e => by have h1 := own_ge HS.out b hb; have := HG.out; omega)
  clear hB5 hm5 hT HRW HS H4 HH1 H2 HW a14 f14 a0 k0 k6 k8
  go_wp2_with (refine wpList_load_blk rfl (ty := 45) rfl (g := w.heap.size) rfl HB5.out Tryz.underlying45 rfl (info_model rfl) ?_; refine Hid.out ?_)
  refine Lib.hid ?_
  generalize w14.setCell ⟨w.heap.size, 0, none⟩ (.slice A14 (E.length + 1) c14) = w15 at HB5 H45 HT5 HRW5 HS5 ⊢
  refine wpList_store_blk rfl (ty := 45) rfl (g := g4) (cs := (mdL (withM M C) (.slice A14 (E.length + 1) c14) vc).toArray) rfl rfl H45.out rfl (info_model rfl) (mdL_oneJ rfl hvc) ?_
  rintro w16 hB6 hm6
  have HT6 := Lib.hid (HT5.out.trans (hm6.to_below HT5.out.size fun b hb e => by have := HG.out; omega))
  have HRW6 := Lib.hid (own_mod HRW5.out hm6 fun b hb e => by have h1 := own_ge HRW5.out b hb; have := HG.out; omega)
  have HS6 : Hid (OwB w2.heap.size w16 (.slice A11 n c11) C.body) := own_mod HS5.out hm6 fun b hb e => by have h1 := own_ge HS5.out b hb; have := HG.out; omega
  have HB6 := Lib.hid hB6
  clear hB6 hm6
  go_wp2_with fail
  refine bodyPost_ret (results_c Tryz.results48 _ HB6.out rfl Tryz.underlying45 rfl (info_model rfl)) rfl ?_
  have hW2 : w.heap.size ≤ w2.heap.size := HT0.out.size
  have hlen : (E ++ [((⟨C.cl, C.seq, C.body⟩, Value.slice A11 n c11) : EnV)]).length = E.length + 1 := by simp
  have h6 := HRW6.out
  unfold OwE at h6
  rw [hlen] at h6
  have hrd := Reads.of_own h6
  obtain ⟨_, _, e', l1, l2⟩ := own_slice h6
  injection e' with e1 _ e2
  subst e1 e2
  refine ⟨⟨_, rfl, A14, c14, E ++ [((⟨C.cl, C.seq, C.body⟩, Value.slice A11 n c11) : EnV)], by rw [hlen], by rw [List.map_append, HE.out]; rfl, by rw [hlen]; exact hrd, fun p hp => ?_, by rw [hlen]; exact l1, by simpa [maxLen] using l2, fun _ ad ea => .inr (by have h1 := own_ge h6 ad.block (by rw [ea]; rfl); omega)⟩, HT6.out⟩
  rcases List.mem_append.1 hp with hp | hp
  ·exact ((HALL.out p hp).below HT6.out).weak fun b _ h => .inl h
  ·rw [List.mem_singleton.1 hp]
   exact (HS6.out.slb.weak fun b _ h => .inr (by omega))
end Go.Proofs.YtpjmolnkmlpfeaaGreatDoor

/- The document's Does: plain; what it ends in. -/
namespace Go.Proofs.YtpjmolnkmlpfeaaGreatDoor
set_option maxRecDepth 100000
open Go.RowKit

/-- What a publish does, by what last answers. -/
theorem pubR {X : Mdl} {C : Cal} {R : Rep} {sq la : Nat} {lh : Bool} (h1 : lastS X C.cl X.log.length = sq) (h2 : lastA X C.cl X.log.length = la) (h3 : lastH X C.cl X.log.length = lh) :
  publishM X C R = if R.res = 5 then (if longC C then some X else none) else if R.res = 6 then (if lh = true ∧ C.seq < sq then some X else none) else if R.res ≠ 0 ∨ longC C = true then none
   else if lh = false ∨ sq < C.seq then (if R.at_ = X.log.length then some (withM X C) else none) else if sq = C.seq ∧ R.at_ = la then some X else none := by
 unfold publishM freshM lastOf
 unfold lastS at h1
 unfold lastA at h2
 unfold lastH at h3
 cases hk : lastK X.log C.cl X.log.length with
 | none =>
  rw [hk] at h1 h2 h3
  simp only at h1 h2 h3
  subst h1 h2
  rw [show lh = false from h3.symm]
  simp
 | some k =>
  rw [hk] at h1 h2 h3
  simp only at h1 h2 h3
  subst h1 h2
  rw [show lh = true from h3.symm]
  simp
/-- What is answered: a model, or none. -/
def DoesPostR (B : Nat) (T : Option Mdl) (e : Ending) (w' : World) : Prop := ∃ v', e = .returned (.tuple #[v', .bool T.isSome]) ∧ MdV (fun b => B ≤ b) w' v' (T.getD zMdl)
theorem zero_mdvJ (K : Nat → Prop) (w : World) : MdV K w (.agg (mdL zMdl (.slice none 0 0) (.slice none 0 0)).toArray) zMdl := ⟨_, _, rfl, SlE.nil _ _, SlU.nil _ _⟩
theorem build_mdlJ (w : World) : (Instr.build 45 #[]).run Tryz.prog w = .ok (.agg (mdL zMdl (.slice none 0 0) (.slice none 0 0)).toArray) w := by kernel_rfl
section
variable {P : Program} {ops : Array Oper} {rest : List Oper} {op : Oper} {a : Act} {w : World} {Q : Exit → Act → World → Prop}
theorem wpList_buildJ0 (hgd : op.guard = none) {ty : TypeId} (ho : op.op = .build ty #[]) {v : Value} (hb : (Instr.build ty #[]).run P w = .ok v w) (h : wpList P ops Q rest (a.put op.dst v) w) : wpList P ops Q (op :: rest) a w :=
 wpList_plain hgd fun _ hK => by
  unfold Oper.wp execOp
  simp only [ho, Sem.run_bind, List.map_toArray, List.map_nil, hb, Result.andThen_ok, Sem.run_pure]
  exact hK _ _ h
end
theorem sub_cases (C : Cal) : (decide (1 ≤ C.sub) = true ∧ decide (C.sub ≤ 3) = true ∧ subOk C = true) ∨ (decide (1 ≤ C.sub) = true ∧ decide (C.sub ≤ 3) = false ∧ subOk C = false) ∨ (decide (1 ≤ C.sub) = false ∧ subOk C = false) := by
 unfold subOk
 by_cases h1 : 1 ≤ C.sub
 ·by_cases h2 : C.sub ≤ 3
  ·exact .inl ⟨decide_eq_true h1, decide_eq_true h2, decide_eq_true ⟨h1, h2⟩⟩
  ·exact .inr (.inl ⟨decide_eq_true h1, decide_eq_false h2, decide_eq_false fun h => h2 h.2⟩)
 ·exact .inr (.inr ⟨decide_eq_false h1, decide_eq_false fun h => h1 h.1⟩)
end Go.Proofs.YtpjmolnkmlpfeaaGreatDoor

/- The document's Does: what stands behind 'sub' is walked once for all that sub may be. -/
namespace Go.Proofs.YtpjmolnkmlpfeaaGreatDoor
set_option maxRecDepth 100000
open Go.RowKit

theorem stopR {P : Program} {ops : Array Oper} {rest : List Oper} {o : Oper} {Q : Exit → Act → World → Prop} {a : Act} {w : World} (_hd : o.dst = some 27) (h : Hid (wpList P ops Q (o :: rest) a w)) : wpList P ops Q (o :: rest) a w := h.out
def subA (a : Act) (y0 y1 y2 y3 y4 y5 y6 y7 y8 : Value) : Act :=
 { tmps := ((((((((a.tmps.setIfInBounds 12 y0).setIfInBounds 27 y1).setIfInBounds 28 y2).setIfInBounds 29 y3).setIfInBounds 30 y4).setIfInBounds 31 y5).setIfInBounds 32 y6).setIfInBounds 33 y7).setIfInBounds 34 y8, defers := a.defers }
def subAt (a b : Act) : Act := subA a (b.tmps.getD 12 undef) (b.tmps.getD 27 undef) (b.tmps.getD 28 undef) (b.tmps.getD 29 undef) (b.tmps.getD 30 undef) (b.tmps.getD 31 undef) (b.tmps.getD 32 undef) (b.tmps.getD 33 undef) (b.tmps.getD 34 undef)
theorem sub_share {P : Program} {ops : Array Oper} {l : List Oper} {a : Act} {w : World} {K : Act → World → Prop} {Q : Exit → Act → World → Prop} {C : Act → World → Prop} (h4 : ∀ a w, C a w → K a w)
  (walk : ∀ K' : Act → World → Prop, (∀ b w', b = subAt a b → w' = w → K' b w') → wpList P ops (Exit.then K' Q) l a w)
  (rest : ∀ y0 y1 y2 y3 y4 y5 y6 y7 y8, C (subA a y0 y1 y2 y3 y4 y5 y6 y7 y8) w) : Hid (wpList P ops (Exit.then K Q) l a w) :=
 walk K fun b w' e e' => by
  subst e'
  rw [e]
  exact h4 _ _ (rest _ _ _ _ _ _ _ _ _)
/- The endings. -/
section
variable {w w6 W : World} {g g6 t s : Nat} {N : Mdl} {vl vc : Value} {T : Option Mdl}
theorem mdl_cells (h : Blk w g 45 (mdL N vl vc).toArray) (ht : N.trim = t) : w.cell? ⟨g, 0, none⟩ = some vl ∧ w.cell? ⟨g, 1, none⟩ = some (Value.int .u64 (t : Int)) ∧ w.cell? ⟨g, 2, none⟩ = some vc := by
 subst ht
 exact ⟨(h.cell 0).trans rfl, (h.cell 1).trans rfl, (h.cell 2).trans rfl⟩
theorem mod3 (w : World) (g : Nat) (x y z : Value) : Mod (fun b => b = g) w (((w.setCell ⟨g, 0, none⟩ x).setCell ⟨g, 1, none⟩ y).setCell ⟨g, 2, none⟩ z) :=
 Mod.set (S := fun b => b = g) (Mod.set (S := fun b => b = g) (Mod.set (S := fun b => b = g) (Mod.refl _ _) (p := ⟨g, 0, none⟩) (fun _ => rfl) _) (p := ⟨g, 1, none⟩) (fun _ => rfl) _) (p := ⟨g, 2, none⟩) (fun _ => rfl) _
theorem own_cells (h : Blk w g 45 (mdL zMdl (.slice none 0 0) (.slice none 0 0)).toArray) (ht : N.trim = t) :
  w.cell? ⟨g, 0, none⟩ = some (Value.slice none 0 0) ∧ w.cell? ⟨g, 1, none⟩ = some (Value.int .u64 ((0 : Nat) : Int)) ∧ w.cell? ⟨g, 2, none⟩ = some (Value.slice none 0 0) ∧ w.frozen? ⟨g, 0, none⟩ = false ∧ w.frozen? ⟨g, 1, none⟩ = false ∧ w.frozen? ⟨g, 2, none⟩ = false ∧
   Hid (Blk (((w.setCell ⟨g, 0, none⟩ vl).setCell ⟨g, 1, none⟩ (.int .u64 (t : Int))).setCell ⟨g, 2, none⟩ vc) g 45 (mdL N vl vc).toArray) ∧ Hid (Mod (fun b => b = g) w (((w.setCell ⟨g, 0, none⟩ vl).setCell ⟨g, 1, none⟩ (.int .u64 (t : Int))).setCell ⟨g, 2, none⟩ vc)) := by
 subst ht
 exact ⟨(h.cell 0).trans rfl, (h.cell 1).trans rfl, (h.cell 2).trans rfl, h.free 0, h.free 1, h.free 2, ((h.put 0 vl).put 1 (.int .u64 (N.trim : Int))).put 2 vc, mod3 _ _ _ _ _⟩
theorem zero_cells (h : Blk w g 45 (mdL zMdl (.slice none 0 0) (.slice none 0 0)).toArray) :
  w.cell? ⟨g, 0, none⟩ = some (Value.slice none 0 0) ∧ w.cell? ⟨g, 1, none⟩ = some (Value.int .u64 ((0 : Nat) : Int)) ∧ w.cell? ⟨g, 2, none⟩ = some (Value.slice none 0 0) ∧ w.frozen? ⟨g, 0, none⟩ = false ∧ w.frozen? ⟨g, 1, none⟩ = false ∧ w.frozen? ⟨g, 2, none⟩ = false ∧
   Hid (Blk (((w.setCell ⟨g, 0, none⟩ (.slice none 0 0)).setCell ⟨g, 1, none⟩ (.int .u64 0)).setCell ⟨g, 2, none⟩ (.slice none 0 0)) g 45 (mdL zMdl (.slice none 0 0) (.slice none 0 0)).toArray) ∧ Hid (Mod (fun b => b = g) w (((w.setCell ⟨g, 0, none⟩ (.slice none 0 0)).setCell ⟨g, 1, none⟩ (.int .u64 0)).setCell ⟨g, 2, none⟩ (.slice none 0 0))) :=
 own_cells (N := zMdl) (t := 0) h rfl
theorem doesR_none (hq : T = none) (hT : Below w.heap.size w w6) (hm : Mod (fun b => b = g6) w6 W) (hg : g6 = w.heap.size + 1 + 1 + 1) :
  DoesPostR w.heap.size T (.returned (.tuple #[.agg (mdL zMdl (.slice none 0 0) (.slice none 0 0)).toArray, .bool false])) W ∧ Below w.heap.size w W := by
 subst hq
 exact ⟨⟨_, rfl, zero_mdvJ _ _⟩, hT.trans (hm.to_below hT.size fun b hb e => by omega)⟩
theorem doesR_own (hq : T = some N) (hT : Below w.heap.size w w6) (hm : Mod (fun b => b = g6) w6 W) (hg : g6 = w.heap.size + 1 + 1 + 1) (hn : MdF (fun b => s ≤ b) w6 vl vc N) (hs : g6 < s) :
  DoesPostR w.heap.size T (.returned (.tuple #[.agg (mdL N vl vc).toArray, .bool true])) W ∧ Below w.heap.size w W := by
 subst hq
 exact ⟨⟨_, rfl, _, _, rfl, (hn.mod hm fun b hb e => by have hb : s ≤ b := hb; omega).weak fun b _ hb => by have hb : s ≤ b := hb; show _ ≤ _; omega⟩, hT.trans (hm.to_below hT.size fun b hb e => by omega)⟩
end
end Go.Proofs.YtpjmolnkmlpfeaaGreatDoor
