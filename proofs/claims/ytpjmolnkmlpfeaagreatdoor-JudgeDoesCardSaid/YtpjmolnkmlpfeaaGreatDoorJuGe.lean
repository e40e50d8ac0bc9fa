/- channel: the first round over the notes. -/
import Derived.Test.YtpjmolnkmlpfeaaGreatDoorJBH
import Derived.Test.YtpjmolnkmlpfeaaGreatDoorJuT
namespace Go.Proofs.YtpjmolnkmlpfeaaGreatDoor
set_option linter.unusedVariables false
set_option linter.unusedSimpArgs false
set_option maxRecDepth 100000
open Go.RowKit

set_option maxHeartbeats 2000000 in
theorem known_any (w : World) (r : Int) : Calls Tryz.prog 52 #[.int .i64 r] w fun e w' => e = .returned (.bool (knownR r)) ∧ w' = w := by
 by_cases h3 : r = 3
 ·subst h3
  go_enter Tryz.func52, Tryz.ntmps52
  go_wp2_with fail
  go_ret
  exact ⟨rfl, rfl⟩
 by_cases h4 : r = 4
 ·subst h4
  go_enter Tryz.func52, Tryz.ntmps52
  go_wp2_with fail
  go_ret
  exact ⟨rfl, rfl⟩
 by_cases h1 : r = 1
 ·subst h1
  go_enter Tryz.func52, Tryz.ntmps52
  go_wp2_with fail
  go_ret
  exact ⟨rfl, rfl⟩
 by_cases h2 : r = 2
 ·subst h2
  go_enter Tryz.func52, Tryz.ntmps52
  go_wp2_with fail
  go_ret
  exact ⟨rfl, rfl⟩
 have e : knownR r = true := decide_eq_true ⟨h3, h4, h1, h2⟩
 have H : Hid (r ≠ 3 ∧ r ≠ 4 ∧ r ≠ 1 ∧ r ≠ 2) := ⟨h3, h4, h1, h2⟩
 rw [e]
 clear e h1 h2 h3 h4
 go_enter Tryz.func52, Tryz.ntmps52
 go_wp2_with fail
 all_goals first
  | (exfalso; have H := H.out; omega)
  | (go_ret; refine ⟨?_, rfl⟩; obtain ⟨a, b, c, d⟩ := H.out; show Ending.returned (.bool (r != 3 && r != 4 && r != 1 && r != 2)) = _; simp [a, b, c, d])
theorem wpList_build1 {P : Program} {ops : Array Oper} {rest : List Oper} {op : Oper} {a : Act} {w : World} {Q : Exit → Act → World → Prop} (hgd : op.guard = none) {ty : TypeId} {i : Nat} {p : Operand} (ho : op.op = .build ty #[(i, p)]) {x v : Value} (hx : a.eval p = x)
  (hb : (Instr.build ty #[(i, x)]).run P w = .ok v w) (h : wpList P ops Q rest (a.put op.dst v) w) : wpList P ops Q (op :: rest) a w :=
 wpList_plain hgd fun _ hK => by
  unfold Oper.wp execOp
  simp only [ho, Sem.run_bind, List.map_toArray, List.map_cons, List.map_nil, hx, hb, Result.andThen_ok, Sem.run_pure]
  exact hK _ _ h
theorem wpList_bs1 {P : Program} {ops : Array Oper} {rest : List Oper} {op : Oper} {a : Act} {w w' : World} {Q : Exit → Act → World → Prop} (hgd : op.guard = none) {ty : TypeId} {p : Operand} (ho : op.op = .buildSlice ty 1 #[(0, p)]) {x v : Value} (hx : a.eval p = x)
  (hb : (Instr.buildSlice ty 1 #[(0, x)]).run P w = .ok v w') (h : wpList P ops Q rest (a.put op.dst v) w') : wpList P ops Q (op :: rest) a w :=
 wpList_plain hgd fun _ hK => by
  unfold Oper.wp execOp
  simp only [ho, Sem.run_bind, List.map_toArray, List.map_cons, List.map_nil, hx, hb, Result.andThen_ok, Sem.run_pure]
  exact hK _ _ h
theorem build_op (C : Cal) (v : Value) (w : World) : (Instr.build 95 #[(0, .agg (calL C v).toArray)]).run Tryz.prog w = .ok (.agg (opL { call := C, rep := zRep, known := false } v (.slice none 0 0)).toArray) w := by kernel_rfl
theorem slice_op (C : Cal) (v : Value) (w : World) : (Instr.buildSlice 93 1 #[(0, .agg (opL { call := C, rep := zRep, known := false } v (.slice none 0 0)).toArray)]).run Tryz.prog w = .ok (.slice (some ⟨w.heap.size, 0, none⟩) 1 1) (w.alloc (.cells (opL { call := C, rep := zRep, known := false } v (.slice none 0 0)).toArray 95)) := by kernel_rfl
theorem op_ty : SliceTy Tryz.prog 93 95 19 184 := SliceTy.mk Tryz.underlying93 (z := .agg (opL { call := zCal, rep := zRep, known := false } (.slice none 0 0) (.slice none 0 0)).toArray) (by kernel_rfl) rfl
/-- What a channel's history is told to be. -/
def ChanPost (h : List Nte) (n : Int) (w : World) (e : Ending) (w' : World) : Prop :=
 Below w.heap.size w w' ∧ (e = .returned (.tuple #[.bool (chanP h n), .int .i64 0]) ∨ (e = .returned (.tuple #[.bool false, .int .i64 3]) ∧ fullP h n))
/-- What a channel's second round keeps. -/
structure ChSt (h : List Nte) (n : Int) (k : Nat) (w1 w : World) (va vo : Value) (all allM : List Crs) (op : List Nat) : Prop where
 below : Below w1.heap.size w1 w
 cs : SlC (fun b => vo.ownBlock ≠ some b) w va all
 len : all.length ≤ 3000
 opi : OwI w1.heap.size w vo (nats op)
 mem : ∀ c, c ∈ all ↔ c ∈ allM
 ok : ∀ c ∈ all, OkK k op c
 lt : ∀ j ∈ op, j < (opsOf h n).length
 opl : op.length ≤ k
 go : chanGo (opsOf h n) n (h.drop k) allM op = chanP h n
 full : fullGo (opsOf h n) n (h.drop k) allM op → fullP h n
theorem OkK.late {N N' : Nat} {op : List Nat} {c : Crs} (h : OkK N op c) (hN : N ≤ N') : OkK N' op c := ⟨h.m.more (by omega), h.done, h.nodup, h.sorted⟩
set_option maxHeartbeats 16000000 in
theorem channel_any {K : Nat → Prop} {w : World} {v : Value} {h : List Nte} {n : Nat} (hh : SlH K w v h) (hok : ∀ x ∈ h, NtOk x) (hIs : IsH h) (hn : h.length ≤ 2000) (hn3 : n ≤ 3) :
  Calls Tryz.prog 32 #[v, .int .i64 (n : Int)] w (ChanPost h n w) := by
 have hmm := @run_makeMap Tryz.prog
 obtain ⟨A, c, H, rfl, hH, hr, hall, _⟩ := hh
 have hl : h.length = H.length := by rw [← hH, List.length_map]
 have hn' : H.length ≤ 2000 := by omega
 have HR := Lib.hid hr
 have HALL := Lib.hid hall
 have HH := Lib.hid hH
 have HOK := Lib.hid hok
 have HIS := Lib.hid hIs
 have HL := Lib.hid hl
 have HM1 : Hid (MapW 77 (w.alloc (.map #[] 0)) w.heap.size []) := MapW.made _ w
 have HT0 : Hid (Below w.heap.size w (w.alloc (.map #[] 0))) := (Below.refl _ _).alloc (Nat.le_refl _) _
 clear hr hall hH hok hl hIs hn
 go_enter Tryz.func32, Tryz.ntmps32
 go_wp2_with fail
 go_loopw [6, 21] (fun ov i wr => ∃ (k : Nat) (P : List OpE) (E : Ens), k ≤ H.length ∧ i = .int .i64 k ∧ Below w.heap.size w wr ∧ w.heap.size < wr.heap.size ∧ OpSt K w w.heap.size n (h.take k) wr ov P E) (fun _ i _ => H.length - (intOf i).toNat)
 case atStart => exact ⟨0, [], [], by omega, rfl, HT0.out, by simp, OpSt.nil HM1.out⟩
 case round =>
  obtain ⟨k, P, E, hk, rfl, hb, hsz, hst⟩ := hrel
  clear hmm HM1 HT0
  have HB := Lib.hid hb
  have HSZ := Lib.hid hsz
  have HST := Lib.hid hst
  clear hb hsz hst
  by_cases hlt : k < H.length
  ·obtain ⟨b, o, rfl, hbl, hrg⟩ := rows_range ntL_len (by decide) (HR.out.below (HB.out.mono (Nat.le_refl _))) hlt
   have hkh : k < h.length := by rw [HL.out]; exact hlt
   have hxn : h[k] = H[k].n := by
    have : h[k]? = some H[k].n := by rw [← HH.out, List.getElem?_map, List.getElem?_eq_getElem hlt]; rfl
    rw [List.getElem?_eq_getElem hkh] at this
    injection this
   have htk : h.take (k + 1) = h.take k ++ [H[k].n] := by rw [List.take_succ_eq_append_getElem hkh, hxn]
   have hnt := HOK.out _ (List.getElem_mem hkh)
   have hsb := HALL.out _ (List.getElem_mem hlt)
   have his := HIS.out.take (k + 1)
   have hoks : ∀ y ∈ h.take (k + 1), NtOk y := fun y hy => HOK.out y (List.mem_of_mem_take hy)
   rw [hxn] at hnt
   rw [htk] at his hoks
   have HTK := Lib.hid htk
   have HNT := Lib.hid hnt
   have HSB : Hid (SlB K w H[k].vc H[k].n.call.body ∧ SlB K w H[k].vr H[k].n.rep.body) := hsb
   have HI1 : Hid (IsH (h.take k ++ [H[k].n]) ∧ ∀ y ∈ h.take k ++ [H[k].n], NtOk y) := ⟨his, hoks⟩
   have HRG := Lib.hid hrg
   generalize H[k] = x at HTK HNT HSB HI1 HRG
   have ho1 := HSB.out.1.one
   have ho2 := HSB.out.2.one
   clear hxn htk hnt hsb his hoks hrg
   have HKH := Lib.hid hkh
   clear hkh
   go_wp2_with (first
    | (refine wpList_load_rg rfl (ty := 38) rfl (vs := ntL x) rfl HRG.out Tryz.underlying38 rfl (info_note19 rfl) ?_)
    | (refine wpList_alloc_blk rfl rfl zero_note ?_; intro g9 w6 hgz6 hB6 hb6)
    | (refine wpList_store_blk rfl rfl rfl rfl hB6 rfl (info_note rfl) (nt_one ho1 ho2) ?_; intro w7 hB7 hm7; refine Hid.out ?_))
   refine Lib.hid ?_
   have HZ6 := Lib.hid hgz6
   have HT7 : Hid (Below wr.heap.size wr w7) := hb6.trans (hm7.to_below hb6.size fun b hb e => by omega)
   have HB7 := Lib.hid hB7
   clear hB7 hm7 hB6 hb6 hgz6
   go_wp2_with (refine wpList_load_rg rfl (ty := 25) rfl (vs := calL x.n.call x.vc) rfl (nt_call HB7.out) Tryz.underlying25 rfl (infoj_call9 rfl) ?_)
   refine (of_any ho1).mono ?_
   rintro e w8 ⟨rfl, hb8⟩
   have HT8 : Hid (Below wr.heap.size wr w8) := HT7.out.trans (hb8.mono HT7.out.size)
   have HB8 := Bb HB7 hb8
   have HG68 : Hid (g9 < w8.heap.size) := HB8.out.lt
   clear hb8 HB7 HT7
   rw [show idV (idOf x.n.call) = .agg #[.int .i64 x.n.call.cl, .int .u64 (x.n.call.inc : Int), .int .u64 (x.n.call.n : Int)] from rfl]
   go_wp2_with (first
    | (refine wpList_alloc_blk rfl rfl zero_id ?_; intro g10 w9 hgz7 hB9 hb9)
    | (refine wpList_store_blk (cs := #[.int .i64 x.n.call.cl, .int .u64 (x.n.call.inc : Int), .int .u64 (x.n.call.n : Int)]) rfl rfl rfl rfl hB9 rfl (info_id rfl) (by intro v hv; simp only [List.mem_cons, List.not_mem_nil, or_false] at hv; rcases hv with rfl | rfl | rfl <;> rfl) ?_; intro w10 hB10 hm10; refine Hid.out ?_))
   refine Lib.hid ?_
   have HZ10 : Hid (wr.heap.size = g9 ∧ g9 < g10 ∧ g10 < w10.heap.size ∧ Below wr.heap.size wr w10) := by
    have h1 := HZ6.out
    have h2 := HG68.out
    have h3 := HT8.out.trans (hb9.mono HT8.out.size)
    exact ⟨h1, by omega, hB10.lt, h3.trans (hm10.to_below h3.size fun b hb e => by have := HT8.out.size; omega)⟩
   have HB10 := Lib.hid ((HB8.out.below hb9 HB8.out.lt).mod hm10 fun e => by have := HG68.out; omega)
   have HG10 := Lib.hid hB10
   have HST10 := Lib.hid (HST.out.below HZ10.out.2.2.2)
   have HOB : Hid (∀ b, u6.ownBlock = some b → w.heap.size < b ∧ b < wr.heap.size) := fun b hb => ⟨by have := (HST.out.own.lt b hb).1; omega, (HST.out.own.lt b hb).2⟩
   clear hgz7 hB9 hb9 hB10 hm10 HB8 HT8 HST HZ6 HG68
   have n0 := (HB10.out.cell 0).trans (rfl : _ = some (Value.int .i64 x.n.kind))
   have n5 := (HB10.out.cell 5).trans (rfl : _ = some (Value.int .i64 x.n.call.ch))
   by_cases hc : x.n.call.ch = n
   ·have pc : (x.n.call.ch == (n : Int)) = true := beq_iff_eq.2 hc
    have HC := Lib.hid hc
    clear hc
    by_cases h1 : x.n.kind = 1
    ·have p1 : (x.n.kind == 1) = true := beq_iff_eq.2 h1
     have HK1 := Lib.hid h1
     clear h1
     obtain ⟨Ao, co, rfl, _, _⟩ := own_slice HST10.out.own
     have hkey := id_key HNT.out.id
     have i0 := (HG10.out.cell 0).trans (rfl : _ = some (Value.int .i64 x.n.call.cl))
     have i1 := (HG10.out.cell 1).trans (rfl : _ = some (Value.int .u64 (x.n.call.inc : Int)))
     have i2 := (HG10.out.cell 2).trans (rfl : _ = some (Value.int .u64 (x.n.call.n : Int)))
     have hE1 : E.length < 9223372036854775807 := by have := HST10.out.len; rw [List.length_take] at this; omega
     have HKEY := Lib.hid hkey
     clear hkey
     go_wp2_with (at_mapUpdate; refine mw_update (val := .int .i64 (P.length : Int)) rfl rfl rfl rfl rfl idK Tryz.underlying75 HST10.out.map HKEY.out hE1 ?_; intro w11 hm11 hg11; refine Hid.out ?_)
     refine Lib.hid ?_
     have hmo := mod_ofW hg11
     have HB11 := Lib.hid (HB10.out.mod hmo (by have := HZ10.out; have := HSZ.out; omega))
     have HOW := Lib.hid (own_mod HST10.out.own hmo fun b hb e => by have := own_ge HST10.out.own b hb; omega)
     have HM11 := Lib.hid hm11
     have HT11 := Lib.hid hmo
     have hPl : P.length ≤ 2000 := by have := HST10.out.plen; rw [List.length_take] at this; have := HL.out; omega
     obtain ⟨Dc, dc, edc, _⟩ := id HSB.out.1
     have HCL : Hid (w11.rangeAt g9 1 (calL x.n.call (.slice Dc x.n.call.body.length dc))) := by show w11.rangeAt _ _ _; rw [← edc]; exact nt_call HB11.out
     clear hm11 hg11 hmo i0 i1 i2 hE1 n0 n5
     go_wp2_with (refine wpList_load_rg rfl (ty := 25) rfl (vs := calL x.n.call (.slice Dc x.n.call.body.length dc)) rfl HCL.out Tryz.underlying25 rfl (infoj_call9 rfl) ?_; refine Hid.out ?_)
     refine Lib.hid ?_
     refine wpList_build1 rfl rfl rfl (build_op x.n.call (.slice Dc x.n.call.body.length dc) w11) ?_
     refine wpList_bs1 rfl rfl rfl (slice_op x.n.call (.slice Dc x.n.call.body.length dc) w11) ?_
     refine app_list op_ty rfl (s := .tmp 42) (x := .tmp 46) rfl (own_call HOW.out (below_new _ _)) rfl (reads_blockN _ 95 (opL { call := x.n.call, rep := zRep, known := false } (.slice Dc x.n.call.body.length dc) (.slice none 0 0)) 19 rfl) rfl (by
      intro u hu
      simp only [opL, calL, repL, List.cons_append, List.nil_append, List.mem_cons, List.not_mem_nil, or_false] at hu
      rcases hu with rfl | rfl | rfl | rfl | rfl | rfl | rfl | rfl | rfl | rfl | rfl | rfl | rfl | rfl | rfl | rfl | rfl | rfl | rfl <;> rfl) (by omega) (by rw [alloc_size]; have := HSZ.out; have := HZ10.out.2.2.2.size; have := HT11.out.size; omega) ?_
     intro v12 w12 ho12 hg12 _
     have HOW12 := Lib.hid ho12
     have HG12 := Lib.hid hg12
     clear ho12 hg12
     go_wp2_with fail
     go_roundw
     case rel =>
      have hbn := below_new w11 (.cells (opL { call := x.n.call, rep := zRep, known := false } (.slice Dc x.n.call.body.length dc) (.slice none 0 0)).toArray 95)
      have hs1 := HSZ.out
      obtain ⟨z1, z2, z3, z4⟩ := HZ10.out
      have hz11 := HT11.out.size
      have h0 := HB.out.trans (z4.mono HB.out.size)
      have h1 := h0.trans (HT11.out.to_below h0.size fun b hb e => by omega)
      have h2 := h1.trans (hbn.mono h1.size)
      have hTall : Below w.heap.size w w12 := h2.grown HG12.out h2.size fun b hb => by have := own_ge HOW.out b hb; omega
      refine ⟨k + 1, P ++ [({ call := x.n.call, rep := zRep, known := false }, x.vc, .slice none 0 0)], fput (idKey (idOf x.n.call)) (.int .i64 (P.length : Int)) E, hlt, by go_num, hTall, ?_, ?_⟩
      ·have h3 := HG12.out.size; have h4 := hbn.size; have h5 := z4.size; omega
      ·rw [HTK.out]
       refine HST10.out.beg (vc := x.vc) (HST10.out.map.srt idK) HI1.out.1 HI1.out.2 HC.out HK1.out HSB.out.1 ?_ ?_
       ·rw [edc]; exact HOW12.out
       ·exact (HM11.out.below hbn).mod (mod_grownO HG12.out) fun e => by have := own_ge HOW.out _ e; omega
     case measure => simp [intOf]; omega
    ·have p1 : (x.n.kind == 1) = false := beq_eq_false_iff_ne.2 h1
     have h2 : x.n.kind = 2 := by
      obtain ⟨_, h2, _⟩ := (isFrom_app (h.take k) [] [x.n]).1 HI1.out.1
      rw [List.nil_append] at h2
      rcases h2 with ⟨h, _⟩ | ⟨h, _⟩
      ·exact absurd h h1
      ·exact h
     have HK2 := Lib.hid h2
     clear h1 h2
     have n13 := (HB10.out.cell 13).trans (rfl : _ = some (Value.int .i64 x.n.rep.res))
     go_wp2_with fail
     refine (known_any w10 x.n.rep.res).mono ?_
     rintro e w11 ⟨rfl, rfl⟩
     by_cases hr : knownR x.n.rep.res = true
     ·rw [hr]
      have HKR := Lib.hid hr
      clear hr
      obtain ⟨hix, hget⟩ := HST10.out.ix HI1.out.1 HC.out HK2.out
      obtain ⟨ix, hixe⟩ : ∃ ix, ix = opIx (opsOf (h.take k) n) x.n.call := ⟨_, rfl⟩
      rw [← hixe] at hix hget
      have HIXE := Lib.hid hixe
      have HGET := Lib.hid hget
      have hPl : P.length ≤ 2000 := by have := HST10.out.plen; rw [List.length_take] at this; have := HL.out; omega
      obtain ⟨Ao, co, rfl, _, _⟩ := own_slice HST10.out.own
      obtain ⟨g, hAo⟩ : ∃ g, Ao = some ⟨g, 0, none⟩ := by
       rcases HST10.out.own.2 with ⟨e, e2⟩ | ⟨g', c', cur, e, _⟩
       ·omega
       ·injection e with e
        exact ⟨g', e⟩
      subst hAo
      have hgb := HOB.out g rfl
      have HGB := Lib.hid hgb
      have HKEY := Lib.hid (id_key HNT.out.id)
      have hlk2 : ∀ u, PF.Same w.heap.size w11 u → (Instr.lookup 75 (.map (some w.heap.size)) (.agg #[.int .i64 x.n.call.cl, .int .u64 (x.n.call.inc : Int), .int .u64 (x.n.call.n : Int)]) false).run Tryz.prog u = .ok (.int .i64 (ix : Int)) u := fun u hu => by
       have h1 := (HST10.out.map.same hu).look idK Tryz.underlying75 zero_int HKEY.out
       rw [HGET.out] at h1
       exact h1
      have hii : (ix : Int) < (P.length : Int) := by omega
      have HIX := Lib.hid hix
      have h18 : w11.cell? ⟨g, ix * 19 + 18, none⟩ = some (.bool P[ix].1.known) := by
       rw [HST10.out.own.cellAt _ (by omega), rows_at opE_len P ix 18 hix (by decide)]
       rfl
      obtain ⟨cur, _, hcur, _⟩ := own_unfold HST10.out.own
      have f18 := Blk.free (w := w11) (t := 95) hcur (ix * 19 + 18)
      have HST1 := Lib.hid (HST10.out.own.stored (ix * 19 + 18) (.bool true))
      have hm12 : Mod (fun b => b = g) w11 (w11.setCell ⟨g, ix * 19 + 18, none⟩ (.bool true)) := Mod.set (S := fun b => b = g) (Mod.refl _ _) (p := ⟨g, ix * 19 + 18, none⟩) (fun _ => rfl) _
      have HM12 := Lib.hid hm12
      have HZZ : Hid (g ≠ g9 ∧ g ≠ g10 ∧ g ≠ w.heap.size) := by
       have := HZ10.out
       show _ ∧ _ ∧ _
       omega
      obtain ⟨cur2, _, hcur2, _, _, hcs2, _⟩ := own_unfold HST1.out.1
      have HBK : Hid (Blk (w11.setCell ⟨g, ix * 19 + 18, none⟩ (.bool true)) g 95 cur2) := hcur2
      have HCS : Hid (cur2.size = co * 19 ∧ P.length ≤ co) := ⟨hcs2, by assumption⟩
      have hor : ∀ u ∈ repL x.n.rep x.vr, u.oneCell' = true := by
       intro u hu
       simp only [repL, List.mem_cons, List.not_mem_nil, or_false] at hu
       rcases hu with rfl | rfl | rfl | rfl | rfl | rfl | rfl | rfl | rfl
       all_goals first | rfl | exact ho2
      have HOR := Lib.hid hor
      clear hixe hget hgb hm12 hcur n0 n5 n13 hix hcur2 hcs2 hor
      go_wp2_with fail
      refine PF.b (by kernel_rfl) (fun _ _ _ _ _ h => h) ?_
      refine PF.t 0 (by kernel_rfl) rfl (by go_simp; try rfl) ?_
      try simp only [pz]
      refine PF.t 1 (by kernel_rfl) rfl (by go_simp; try rfl) ?_
      try simp only [pz]
      refine PF.u 2 ((fun u => Blk u g10 77 #[.int .i64 x.n.call.cl, .int .u64 (x.n.call.inc : Int), .int .u64 (x.n.call.n : Int)])) (by kernel_rfl) rfl (HG10.out) (fun u hu => exec_load_blk rfl rfl hu Tryz.underlying77 rfl (info_id rfl)) ?_
      try simp only [pz]
      refine PF.u 3 (PF.Same (w.heap.size) _) (by kernel_rfl) rfl (PF.Same.refl _ _) (fun u hu => by have hcu := hu.cell; have hlu := hlk2 u hu; go_simp; try rfl) ?_
      try simp only [pz]
      refine PF.t 4 (by kernel_rfl) rfl (by go_simp; try rfl) ?_
      try simp only [pz]
      refine PF.t 5 (by kernel_rfl) rfl (by go_simp; try rfl) ?_
      try simp only [pz]
      refine PF.u 6 ((fun u => Blk u g10 77 #[.int .i64 x.n.call.cl, .int .u64 (x.n.call.inc : Int), .int .u64 (x.n.call.n : Int)])) (by kernel_rfl) rfl (HG10.out) (fun u hu => exec_load_blk rfl rfl hu Tryz.underlying77 rfl (info_id rfl)) ?_
      try simp only [pz]
      refine PF.u 7 (PF.Same (w.heap.size) _) (by kernel_rfl) rfl (PF.Same.refl _ _) (fun u hu => by have hcu := hu.cell; have hlu := hlk2 u hu; go_simp; try rfl) ?_
      try simp only [pz]
      refine PF.t 8 (by kernel_rfl) rfl (by go_simp; try rfl) ?_
      try simp only [pz]
      refine PF.u 9 ((fun u => Blk u g9 38 (ntL x).toArray)) (by kernel_rfl) rfl (HB10.out) (fun u hu => exec_load_rg rfl rfl (nt_rep hu) Tryz.underlying32 rfl (infoj_reply9 rfl)) ?_
      try simp only [pz]
      refine PF.t 10 (by kernel_rfl) rfl (by go_simp; try rfl) ?_
      try simp only [pz]
      refine PF.t 11 (by kernel_rfl) rfl (by go_simp; try rfl) ?_
      try simp only [pz]
      refine PF.e 12 (by kernel_rfl) rfl fun K hK => ?_
      go_simp
      refine hK (by repeat (first | exact PF.n | refine PF.l ?_ | refine PF.o (by decide +kernel) ?_ | refine PF.y (by first | exact HB10.out.mod HM12.out.drew (fun e => HZZ.out.1 e.symm) | exact HG10.out.mod HM12.out.drew (fun e => HZZ.out.2.1 e.symm) | exact HM12.out.drew.block _ HST10.out.map.lt (fun e => HZZ.out.2.2 e.symm)) ?_)) ?_
      clear hK K
      try simp only [pz]
      refine PF.t 13 (by kernel_rfl) rfl (by go_simp; try rfl) ?_
      try simp only [pz]
      refine PF.t 14 (by kernel_rfl) rfl (by go_simp; try rfl) ?_
      try simp only [pz]
      refine PF.e 15 (by kernel_rfl) rfl fun K hK => ?_
      refine wp_store_rgB (g := g) (o := ix * 19 + 9) (t := 95) (c0 := cur2) (vs := repL x.n.rep x.vr) rfl rfl rfl HBK.out (by have h1 := HCS.out; have h2 := HIX.out; simp only [repL, List.length_cons, List.length_nil]; omega) (infoj_reply9 rfl) HOR.out ?_
      intro w13 hB13 hm13
      refine hK (by repeat (first | exact PF.n | refine PF.l ?_ | refine PF.o (by decide +kernel) ?_ | refine PF.y (by first | rfl | assumption | go_simp) ?_)) ?_
      clear hK K
      try simp only [pz]
      refine PF.d (by kernel_rfl) ?_
      clear h18 f18 hlk2
      have HB13 := Lib.hid hB13
      have HM13 : Hid (Mod (fun b => b = g) w11 w13) := HM12.out.drew.trans hm13
      clear hB13 hm13
      go_wp2_with fail
      go_roundw
      case rel =>
       obtain ⟨z1, z2, z3, z4⟩ := HZ10.out
       have h0 := HB.out.trans (z4.mono HB.out.size)
       refine ⟨k + 1, P.set ix (finOp x.n x.vr P[ix]), E, hlt, by go_num, h0.trans (HM13.out.to_below h0.size fun b hb e => by have := HGB.out; omega), ?_, ?_⟩
       ·have := h0.size; have := HM13.out.size; have := HSZ.out; have := z4.size; omega
       ·rw [HTK.out]
        refine HST10.out.fin HI1.out.1 HC.out HK2.out HKR.out HSB.out.2 HIX.out HIXE.out ?_ (HST10.out.map.mod HM13.out (fun e => HZZ.out.2.2 e.symm))
        have o1 := HST1.out.1
        have hix := HIX.out
        rw [flat_set opE_len P ix 18 hix (.bool true) ({ P[ix].1 with known := true }, P[ix].2.1, P[ix].2.2) (by decide) rfl] at o1
        have o2 := own_puts o1 HBK.out HB13.out (by have := opE_len; simp only [repL, List.length_cons, List.length_nil]; omega)
        rw [flat_setL opE_len _ ix 9 (by rw [List.length_set]; exact hix) _ (finOp x.n x.vr P[ix]) (by simp [repL]) (by rw [List.getElem_set_self]; rfl), List.set_set] at o2
        exact o2
      case measure => simp [intOf]; omega
     ·have hr' : knownR x.n.rep.res = false := by cases hx : knownR x.n.rep.res with | false => rfl | true => exact absurd hx hr
      rw [hr']
      have HKR := Lib.hid hr'
      clear hr hr'
      go_wp2_with fail
      go_roundw
      case rel =>
       refine ⟨k + 1, P, E, hlt, by go_num, HB.out.trans (HZ10.out.2.2.2.mono HB.out.size), Nat.lt_of_lt_of_le HSZ.out HZ10.out.2.2.2.size, ?_⟩
       rw [HTK.out]
       exact HST10.out.skip HI1.out.1 (.inr ⟨HK2.out, HKR.out⟩)
      case measure => simp [intOf]; omega
   ·have pc : (x.n.call.ch == (n : Int)) = false := beq_eq_false_iff_ne.2 hc
    have HC := Lib.hid hc
    clear hc
    go_wp2_with fail
    go_roundw
    case rel =>
     refine ⟨k + 1, P, E, hlt, by go_num, HB.out.trans (HZ10.out.2.2.2.mono HB.out.size), Nat.lt_of_lt_of_le HSZ.out HZ10.out.2.2.2.size, ?_⟩
     rw [HTK.out]
     exact HST10.out.skip HI1.out.1 (.inl HC.out)
    case measure => simp [intOf]; omega
  ·obtain rfl : k = H.length := by omega
   have htl : h.take H.length = h := by rw [← HL.out]; exact List.take_length
   have hst0 := HST.out
   rw [htl] at hst0
   have HST := Lib.hid hst0
   clear htl hst0
   have hown := mown_any (X := fun _ => False) (K := fun _ => True) (w := wr) (M := zMdl) (vl := .slice none 0 0) (vc := .slice none 0 0) ⟨SlE.nil _ _, SlU.nil _ _⟩ (by decide) (fun _ h => by cases h) (fun _ h => h.elim)
   have HOWN := Lib.hid hown
   clear hown
   go_wp2_with fail
   refine HOWN.out.mono ?_
   rintro e w2 ⟨⟨v2, rfl, vl2, g2, rfl, how⟩, hb2⟩
   have hmd := how.mdf
   obtain ⟨A2, c2, E2, e2, e3, _⟩ := id hmd.1
   obtain rfl : E2 = [] := List.map_eq_nil_iff.1 e3
   simp only [List.length_nil] at e2
   subst e2
   clear e3
   have HMD := Lib.hid hmd
   have HB2 := Lib.hid hb2
   have HST2 := Lib.hid (HST.out.below hb2)
   clear how hmd hb2
   unfold mdL
   go_wp2_with fail
   have HB3 : Hid (Below w2.heap.size w2 (w2.alloc (.cells #[(.slice A2 0 c2), .int .u64 ((ownM zMdl).trim : Int), .slice (some ⟨g2, 0, none⟩) 3 3, .slice none 0 0] 99))) := below_new _ _
   have hS3 : SlC (fun _ => True) (w2.alloc (.cells #[(.slice A2 0 c2), .int .u64 ((ownM zMdl).trim : Int), .slice (some ⟨g2, 0, none⟩) 3 3, .slice none 0 0] 99)) (.slice (some ⟨w2.heap.size, 0, none⟩) 1 1) [c0] :=
    ⟨_, 1, [{ c := c0, vl := (.slice A2 0 c2), vc := .slice (some ⟨g2, 0, none⟩) 3 3, vd := .slice none 0 0 }], rfl, rfl, reads_blockN w2 99 [(.slice A2 0 c2), .int .u64 ((ownM zMdl).trim : Int), .slice (some ⟨g2, 0, none⟩) 3 3, .slice none 0 0] 4 rfl, fun p hp => by
     rw [List.mem_singleton] at hp
     subst hp
     exact ⟨(HMD.out.weak fun _ _ _ => trivial).below HB3.out, SlI.nil _ _⟩, Nat.le_refl _, by decide, fun _ _ _ => trivial⟩
   have HS3 := Lib.hid hS3
   have HBW : Hid (Below w.heap.size w (w2.alloc (.cells #[(.slice A2 0 c2), .int .u64 ((ownM zMdl).trim : Int), .slice (some ⟨g2, 0, none⟩) 3 3, .slice none 0 0] 99))) := (HB.out.trans (HB2.out.mono HB.out.size)).trans (HB3.out.mono (Nat.le_trans HB.out.size HB2.out.size))
   have HSW := Lib.hid (Nat.lt_of_lt_of_le HSZ.out (Nat.le_trans HB2.out.size HB3.out.size))
   have HST3 := Lib.hid (HST2.out.below HB3.out)
   clear hS3 HMD HB HB2 HB3 HST HST2 HSZ HOWN
   generalize w2.alloc (.cells #[(.slice A2 0 c2), .int .u64 ((ownM zMdl).trim : Int), .slice (some ⟨g2, 0, none⟩) 3 3, .slice none 0 0] 99) = w3 at HS3 HBW HSW HST3 ⊢
   clear hk
   have hops : (P.map (·.1)) = opsOf h n := HST3.out.ops
   have HOPS := Lib.hid hops
   clear hops
   go_loopw [11, 12, 74] (fun va vo i wq => ∃ (k : Nat) (all allM : List Crs) (op : List Nat), k ≤ H.length ∧ i = .int .i64 k ∧ ChSt h n k w3 wq va vo all allM op) (fun _ _ i _ => H.length - (intOf i).toNat)
   case atStart =>
    refine ⟨0, [c0], [c0], [], by omega, rfl, ⟨Below.refl _ _, HS3.out.weak (fun _ _ _ h => (by cases h)), by decide, World.ownsRow_nil _ _ _ _, fun _ => Iff.rfl, fun c hc => ?_, fun _ h => (by cases h), Nat.le_refl _, rfl, fun h => h⟩⟩
    rw [List.mem_singleton.1 hc]
    exact OkK.start []
   case round =>
    obtain ⟨k, all, allM, op, hk, rfl, hcs⟩ := hrel
    obtain ⟨wq, rfl⟩ : ∃ wo : World, wo = wr := ⟨_, rfl⟩
    have HCS := Lib.hid hcs
    have hbq := HBW.out.trans (hcs.below.mono HBW.out.size)
    have HBQ := Lib.hid hbq
    have HSTQ := Lib.hid (HST3.out.below hcs.below)
    clear hcs hbq HS3
    by_cases hlt : k < H.length
    ·obtain ⟨b, o, rfl, hbl, hrg⟩ := rows_range ntL_len (by decide) (HR.out.below (HBQ.out.mono (Nat.le_refl _))) hlt
     have hkh : k < h.length := by rw [HL.out]; exact hlt
     have hxn : h[k] = H[k].n := by
      have : h[k]? = some H[k].n := by rw [← HH.out, List.getElem?_map, List.getElem?_eq_getElem hlt]; rfl
      rw [List.getElem?_eq_getElem hkh] at this
      injection this
     have hdk : h.drop k = H[k].n :: h.drop (k + 1) := by rw [List.drop_eq_getElem_cons hkh, hxn]
     have hxm : H[k].n ∈ h := by rw [← hxn]; exact List.getElem_mem hkh
     have hsb := HALL.out _ (List.getElem_mem hlt)
     have HDK := Lib.hid hdk
     have HXM := Lib.hid hxm
     have HSB : Hid (SlB K w H[k].vc H[k].n.call.body ∧ SlB K w H[k].vr H[k].n.rep.body) := hsb
     have HRG := Lib.hid hrg
     generalize H[k] = x at HDK HXM HSB HRG
     have ho1 := HSB.out.1.one
     have ho2 := HSB.out.2.one
     clear hxn hdk hxm hsb hrg hkh
     go_wp2_with (first
      | (refine wpList_load_rg rfl (ty := 38) rfl (vs := ntL x) rfl HRG.out Tryz.underlying38 rfl (info_note19 rfl) ?_)
      | (refine wpList_alloc_blk rfl rfl zero_note ?_; intro g9 w6 hgz6 hB6 hb6)
      | (refine wpList_store_blk rfl rfl rfl rfl hB6 rfl (info_note rfl) (nt_one ho1 ho2) ?_; intro w7 hB7 hm7; refine Hid.out ?_))
     refine Lib.hid ?_
     have HZ6 := Lib.hid hgz6
     have HT7 : Hid (Below wq.heap.size wq w7) := hb6.trans (hm7.to_below hb6.size fun b hb e => by omega)
     have HB7 := Lib.hid hB7
     clear hB7 hm7 hB6 hb6 hgz6
     have n0 := (HB7.out.cell 0).trans (rfl : _ = some (Value.int .i64 x.n.kind))
     have n5 := (HB7.out.cell 5).trans (rfl : _ = some (Value.int .i64 x.n.call.ch))
     by_cases hc : x.n.call.ch = n
     ·have pc : (x.n.call.ch == (n : Int)) = true := beq_iff_eq.2 hc
      have HC := Lib.hid hc
      clear hc
      have hget := HSTQ.out.get x.n HXM.out HC.out
      obtain ⟨ix, hixe⟩ : ∃ ix, ix = opIx (opsOf h n) x.n.call := ⟨_, rfl⟩
      have hixl : ix < (opsOf h n).length := by
       have h1 : IsH (h ++ []) := by rw [List.append_nil]; exact HIS.out
       rw [hixe]
       exact (ix_ext h1 HXM.out HC.out).1
      rw [← hixe] at hget
      have HIX : Hid (ix = opIx (opsOf h n) x.n.call ∧ ix < (opsOf h n).length) := ⟨hixe, hixl⟩
      have HKEY := Lib.hid (id_key (HOK.out _ HXM.out).id)
      have HM7 := Lib.hid (HSTQ.out.map.below HT7.out)
      have HGET := Lib.hid hget
      clear hixe hixl hget
      go_wp2_with (refine wpList_load_rg rfl (ty := 25) rfl (vs := calL x.n.call x.vc) rfl (nt_call HB7.out) Tryz.underlying25 rfl (infoj_call9 rfl) ?_)
      refine (of_any ho1).mono ?_
      rintro e w8 ⟨rfl, hb8⟩
      have hlk := (HM7.out.below hb8).look idK Tryz.underlying75 zero_int HKEY.out
      rw [HGET.out] at hlk
      simp only [Option.getD_some] at hlk
      have HT8 : Hid (Below wq.heap.size wq w8) := HT7.out.trans (hb8.mono HT7.out.size)
      have HB8 := Bb HB7 hb8
      clear hb8 HB7 HT7 HM7 n0 n5
      have n0 := ((HB8.out.alloc (.cells #[.int .i64 (ix : Int)] 3)).cell 0).trans (rfl : _ = some (Value.int .i64 x.n.kind))
      have HBX : Hid (Blk (w8.alloc (.cells #[.int .i64 (ix : Int)] 3)) w8.heap.size 3 #[.int .i64 (ix : Int)] ∧ Below wq.heap.size wq (w8.alloc (.cells #[.int .i64 (ix : Int)] 3)) ∧ g9 < w8.heap.size) := ⟨Blk.new _ _ _, HT8.out.trans ((below_new _ _).mono HT8.out.size), HB8.out.lt⟩
      by_cases h1 : x.n.kind = 1
      ·have p1 : (x.n.kind == 1) = true := beq_iff_eq.2 h1
       have HK1 := Lib.hid h1
       clear h1
       obtain ⟨Av, cv, rfl, hcv, hcv'⟩ := own_slice HCS.out.opi
       have i15 := (HBX.out.1.cell 0).trans (rfl : _ = some (Value.int .i64 (ix : Int)))
       have hol : (nats op).length ≤ 2000 := by have := HCS.out.opl; unfold nats; rw [List.length_map]; omega
       have hsz3 : w3.heap.size ≤ (w8.alloc (.cells #[.int .i64 (ix : Int)] 3)).heap.size := Nat.le_trans HCS.out.below.size HBX.out.2.1.size
       have hrd : Reads ((w8.alloc (.cells #[.int .i64 (ix : Int)] 3)).alloc (.cells #[.int .i64 (ix : Int)] 3)) 1 (some ⟨w8.heap.size + 1, 0, none⟩) 1 [.int .i64 (ix : Int)] := by
        have := reads_blockN (w8.alloc (.cells #[.int .i64 (ix : Int)] 3)) 3 [.int .i64 (ix : Int)] 1 rfl
        rw [alloc_size] at this
        exact this
       have HRD := Lib.hid hrd
       clear hrd
       go_wp2_with (first | (at_builtin; refine app_list int_ty rfl (s := .tmp 91) (x := .tmp 93) rfl (own_call (own_call HCS.out.opi HBX.out.2.1) (below_new _ _)) rfl HRD.out rfl (by intro u hu; simp only [List.mem_cons, List.not_mem_nil, or_false] at hu; subst hu; rfl) (by omega) (by rw [alloc_size]; omega) ?_; intro v9 w9 ho9 hg9 hv9; have HOW9 := Lib.hid ho9; have HG9 := Lib.hid hg9; have HV9 := Lib.hid hv9; clear ho9 hg9 hv9))
       go_roundw
       case rel =>
        have hcs := HCS.out
        have hb1 := HBX.out.2.1
        have hb2 := hb1.trans ((below_new (w8.alloc (.cells #[.int .i64 (ix : Int)] 3)) (.cells [Value.int .i64 (ix : Int)].toArray 3)).mono hb1.size)
        have hb3 := hcs.below.trans (hb2.mono hcs.below.size)
        have hms : (nats op).length = op.length := by unfold nats; rw [List.length_map]
        have hsc := ((hcs.cs.weak (K' := fun b => (Value.slice Av (nats op).length cv).ownBlock ≠ some b ∧ b < wq.heap.size) fun b hb h => ⟨h, hb⟩).below hb2).mod (mod_grownO HG9.out) fun b hb e => hb.1 e
        have hblk : ∀ b, b < wq.heap.size → (Value.slice Av (nats op).length cv).ownBlock ≠ some b → v9.ownBlock ≠ some b := fun b hb hne e => by
         rcases HV9.out with h | h
         ·exact hne (h ▸ e)
         ·rw [h] at e
          injection e with e
          have := hb2.size
          omega
        refine ⟨k + 1, all, allM, op ++ [ix], hlt, by go_num, ⟨hb3.grown HG9.out hb3.size (own_ge hcs.opi), ?_, hcs.len, ?_, hcs.mem, fun c hc => ((hcs.ok c hc).late (Nat.le_succ _)).grow ix, fun j hj => ?_, by rw [List.length_append]; have := hcs.opl; simp only [List.length_cons, List.length_nil]; omega, ?_, fun hf => hcs.full ?_⟩⟩
        ·exact hsc.weak fun b _ hb => hblk b hb.2 hb.1
        ·show World.ownsRow _ _ _ _ _ _ _
         have e1 : nats (op ++ [ix]) = nats op ++ [(ix : Int)] := by unfold nats; rw [List.map_append]; rfl
         rw [e1, List.length_append, List.map_append]
         exact HOW9.out
        ·rcases List.mem_append.1 hj with hj | hj
         ·exact hcs.lt j hj
         ·rw [List.mem_singleton.1 hj]; exact HIX.out.2
        ·rw [← hcs.go, HDK.out, chanGo, if_neg (fun h => h HC.out), if_pos HK1.out, ← HIX.out.1]
        ·rw [HDK.out, fullGo, if_neg (fun h => h HC.out), if_pos HK1.out, ← HIX.out.1]; exact hf
       case measure => simp [intOf]; omega
      ·have p1 : (x.n.kind == 1) = false := beq_eq_false_iff_ne.2 h1
       have h2 : x.n.kind = 2 := by
        obtain ⟨j, hj, e⟩ := List.mem_iff_getElem.1 HXM.out
        have := HIS.out.at_ hj
        rw [e] at this
        rcases this with ⟨k, _⟩ | ⟨k, _⟩
        ·exact absurd k h1
        ·exact k
       have HK2 := Lib.hid h2
       have HK1 := Lib.hid h1
       clear h1 h2
       have hPl : (opsOf h n).length = P.length := by rw [← HOPS.out, List.length_map]
       have hixP : ix < P.length := by have := HIX.out.2; omega
       obtain ⟨Ao, co, rfl, hco1, hco2⟩ := own_slice HSTQ.out.own
       have HCO : Hid (P.length ≤ co ∧ co ≤ 9223372036854775807) := ⟨hco1, by unfold maxLen at hco2; omega⟩
       clear hco1 hco2
       obtain ⟨g, hAo⟩ : ∃ g, Ao = some ⟨g, 0, none⟩ := by
        rcases HSTQ.out.own.2 with ⟨e, e2⟩ | ⟨g', c', cur, e, _⟩
        ·omega
        ·injection e with e
         exact ⟨g', e⟩
       subst hAo
       have hpk : P[ix].1.known = knownR x.n.rep.res := by
        have h1 := known_iff (n := n) HIS.out HXM.out HK2.out HC.out
        rw [← HIX.out.1] at h1
        have h2 := HSTQ.out.pop hixP
        rw [known_of h2] at h1
        exact h1
       have h18 : (w8.alloc (.cells #[.int .i64 (ix : Int)] 3)).cell? ⟨g, ix * 19 + 18, none⟩ = some (.bool (knownR x.n.rep.res)) := by
        rw [(own_call HSTQ.out.own HBX.out.2.1).cellAt _ (by omega), rows_at opE_len P ix 18 hixP (by decide), ← hpk]
        rfl
       have i15 := (HBX.out.1.cell 0).trans (rfl : _ = some (Value.int .i64 (ix : Int)))
       have hii : (ix : Int) < (P.length : Int) := by omega
       have HIP : Hid (ix < P.length ∧ (opsOf h n).length = P.length) := ⟨hixP, hPl⟩
       clear hPl hixP hpk
       by_cases hr : knownR x.n.rep.res = true
       ·rw [hr] at h18
        have HKR := Lib.hid hr
        clear hr
        have hcs := HCS.out
        have hb1 := HBX.out.2.1
        have hPn : P.length ≤ 2000 := by have h1 := HIP.out.2; have h2 := ops_len n h; have h3 := HL.out; omega
        have hoks : ∀ d, (∃ c ∈ all, Rch (P.map (·.1)) op ix c d) → OkC d := fun d ⟨c, hc, hr⟩ => by
         rw [HOPS.out] at hr
         exact ((hcs.ok c hc).reach hr (fun o ho => (ops_ok HIS.out HOK.out o ho).1)).ok (fun j hj => by have h1 := hcs.lt j hj; have h2 := HIP.out.2; omega) (by have := hcs.opl; omega) (by omega)
        have hslo : SlO (fun _ => True) (w8.alloc (.cells #[.int .i64 (ix : Int)] 3)) (.slice (some ⟨g, 0, none⟩) P.length co) P :=
         ⟨_, co, rfl, Reads.of_own (own_call HSTQ.out.own hb1), fun p hp => ⟨((((HSTQ.out.bod p hp).1.weak fun _ _ _ => trivial).below HBQ.out).below hb1), ((((HSTQ.out.bod p hp).2.weak fun _ _ _ => trivial).below HBQ.out).below hb1)⟩, HCO.out.1, HCO.out.2, fun _ _ _ => trivial⟩
        have hbody : ∀ p ∈ P, p.1.call.body.length ≤ 1000000 ∧ p.1.rep.body.length ≤ 1000000 ∧ p.1.call.at_ < 18446744073709551616 := fun p hp => by
         have := ops_ok HIS.out HOK.out (n := n) p.1 (by rw [← HOPS.out]; exact List.mem_map.2 ⟨p, hp, rfl⟩)
         exact ⟨this.2.1, this.2.2, this.1.at_⟩
        have hends := ends_any (x := ix) (hcs.cs.below hb1) hslo (((OwI.sli hcs.opi).weak fun _ _ _ => trivial).below hb1) hoks hbody (fun j hj => by have := hcs.lt j hj; have h2 := HIP.out.2; omega) (by have := hcs.opl; omega) (by omega) (by have := hcs.len; omega)
        have HENDS := Lib.hid hends
        clear hcs hb1 hPn hoks hslo hbody hends
        go_wp2_with fail
        refine HENDS.out.mono ?_
        rintro e w10 ⟨hb10, (⟨v10, out, rfl, hsc, hlen, hmem⟩ | ⟨v10, rfl, S', hn', hr', hl'⟩)⟩
        ·obtain ⟨Av, cv, rfl, hcv, hcv'⟩ := own_slice HCS.out.opi
         obtain ⟨A10, c10, E10, rfl, hE10, hsr⟩ := hsc
         have HSC : Hid (SlC (fun b => (Value.slice Av (nats op).length cv).ownBlock ≠ some b ∨ (w8.alloc (.cells #[.int .i64 (ix : Int)] 3)).heap.size ≤ b) w10 (.slice A10 E10.length c10) out) := ⟨A10, c10, E10, rfl, hE10, hsr⟩
         have hEl : out.length = E10.length := by rw [← hE10, List.length_map]
         have HEL : Hid (out.length = E10.length ∧ out.length ≤ 3000 ∧ ∀ l, l ∈ out ↔ l ∈ leftL (P.map (·.1)) op ix all) := ⟨hEl, hlen, hmem⟩
         have HB10 := Lib.hid hb10
         have hdel := delete_any (eqcl_chan w8.heap.size (ix : Int)) (enters_of Tryz.func55 (by kernel_rfl) rfl) (own_call (own_call HCS.out.opi HBX.out.2.1) hb10) ((HBX.out.1.below hb10 HBX.out.1.lt).cell 0) (fun e => by
          have h1 := (HCS.out.opi.lt _ e).2
          have h2 := HT8.out.size
          omega) (by have := HCS.out.opl; unfold nats; rw [List.length_map]; omega)
         rw [nats_filter] at hdel
         have HDEL := Lib.hid hdel
         clear hE10 hsr hEl hlen hmem hb10 hdel hcv hcv' h18 i15
         go_wp2_with fail
         refine HDEL.out.mono ?_
         rintro e w11 ⟨⟨v11, rfl, ho11, hv11⟩, hg11⟩
         have HO11 := Lib.hid ho11
         have HV11 := Lib.hid hv11
         have HG11 := Lib.hid hg11
         clear ho11 hv11 hg11
         by_cases he : E10.length = 0
         ·have e1 : ((E10.length : Int) == 0) = true := beq_iff_eq.2 (by omega)
          have e2 : (E10.length == 0) = true := beq_iff_eq.2 he
          have HE0 := Lib.hid he
          clear he
          go_wp2_with fail
          go_ret2
          have hcs := HCS.out
          have hbb := HBX.out.2.1
          have hb3 := hcs.below.trans (hbb.mono hcs.below.size)
          have hb4 := hb3.trans (HB10.out.mono hb3.size)
          have hb5 : Below w3.heap.size w3 w11 := hb4.grown HG11.out hb4.size (own_ge hcs.opi)
          have hkn := known_iff (n := n) HIS.out HXM.out HK2.out HC.out
          unfold knownAt at hkn
          obtain ⟨el1, el2, el3⟩ := HEL.out
          rw [HOPS.out] at el3
          have hmm : ∀ l, l ∈ out ↔ l ∈ leftL (opsOf h n) op ix allM := fun l => (el3 l).trans (leftL_congr hcs.mem l)
          have hz : (leftL (opsOf h n) op ix allM).length = 0 := by
           rcases Nat.eq_zero_or_pos (leftL (opsOf h n) op ix allM).length with h0 | h0
           ·exact h0
           ·obtain ⟨l, hl⟩ := List.exists_mem_of_length_pos h0
            have h2 := List.length_pos_of_mem ((hmm l).2 hl)
            have h3 := HE0.out
            omega
          have hp : chanP h n = false := by
           rw [← hcs.go, HDK.out, chanGo, if_neg (fun h => h HC.out), if_neg HK1.out, hkn, if_neg (by rw [HKR.out]; decide), ← HIX.out.1, if_pos hz]
          refine ⟨HBW.out.trans (hb5.mono HBW.out.size), .inl ?_⟩
          rw [hp]
          rfl
         ·have e1 : ((E10.length : Int) == 0) = false := beq_eq_false_iff_ne.2 (by omega)
          have e2 : (E10.length == 0) = false := beq_eq_false_iff_ne.2 he
          have HE0 := Lib.hid he
          clear he
          go_wp2_with fail
          go_roundw
          case rel =>
           have hcs := HCS.out
           have hbb := HBX.out.2.1
           have hb3 := hcs.below.trans (hbb.mono hcs.below.size)
           have hb4 := hb3.trans (HB10.out.mono hb3.size)
           have hb5 : Below w3.heap.size w3 w11 := hb4.grown HG11.out hb4.size (own_ge hcs.opi)
           have hkn := known_iff (n := n) HIS.out HXM.out HK2.out HC.out
           unfold knownAt at hkn
           obtain ⟨el1, el2, el3⟩ := HEL.out
           rw [HOPS.out] at el3
           have hmm : ∀ l, l ∈ out ↔ l ∈ leftL (opsOf h n) op ix allM := fun l => (el3 l).trans (leftL_congr hcs.mem l)
           have hz : ¬ (leftL (opsOf h n) op ix allM).length = 0 := fun h0 => by
            have h2 := HE0.out
            obtain ⟨l, hl⟩ := List.exists_mem_of_length_pos (l := out) (by omega)
            have h3 := List.length_pos_of_mem ((hmm l).1 hl)
            omega
           refine ⟨k + 1, out, leftL (opsOf h n) op ix allM, op.filter fun i => !decide (i = ix), hlt, by go_num, ⟨hb5, ?_, el2, HO11.out, hmm, fun c hc => OkK.left hcs.ok (fun o ho => (ops_ok HIS.out HOK.out o ho).1) ((el3 c).1 hc), fun j hj => hcs.lt j (List.mem_filter.1 hj).1, Nat.le_trans (List.length_filter_le _ _) (Nat.le_succ_of_le hcs.opl), ?_, fun hf => hcs.full ?_⟩⟩
           ·rw [HV11.out]
            refine SlC.mod (HSC.out.weak fun b _ hb => ?_) (mod_grownO HG11.out) fun b hb e => hb e
            rcases hb with hb | hb
            ·exact hb
            ·intro e
             have h1 := (hcs.opi.lt _ e).2
             have h2 := hbb.size
             omega
           ·rw [← hcs.go, HDK.out, chanGo, if_neg (fun h => h HC.out), if_neg HK1.out, hkn, if_neg (by rw [HKR.out]; decide), ← HIX.out.1, if_neg hz]
           ·rw [HDK.out, fullGo, if_neg (fun h => h HC.out), if_neg HK1.out, hkn, if_neg (by rw [HKR.out]; decide), ← HIX.out.1, if_neg hz]
            exact .inr hf
          case measure => simp [intOf]; omega
        ·have HBAD : Hid (S'.Nodup ∧ (∀ d ∈ S', ∃ c ∈ all, Rch (P.map (·.1)) op ix c d) ∧ 3000 < S'.length) := ⟨hn', hr', hl'⟩
         have HB10 := Lib.hid hb10
         clear hn' hr' hl' hb10
         go_wp2_with fail
         go_ret2
         have hcs := HCS.out
         obtain ⟨hn', hr', hl'⟩ := HBAD.out
         rw [HOPS.out] at hr'
         have hkn := known_iff (n := n) HIS.out HXM.out HK2.out HC.out
         unfold knownAt at hkn
         have hlen := nodup_le (m := allL (opsOf h n) op ix allM) hn' fun d hd => by
          obtain ⟨c, hc, hr⟩ := hr' d hd
          exact mem_allL.2 ⟨c, (hcs.mem c).1 hc, hr⟩
         have hbb := HBX.out.2.1
         have hb2 := HBQ.out.trans (hbb.mono HBQ.out.size)
         refine ⟨hb2.trans (HB10.out.mono hb2.size), .inr ⟨rfl, hcs.full ?_⟩⟩
         rw [HDK.out, fullGo, if_neg (fun h => h HC.out), if_neg HK1.out, hkn, if_neg (by rw [HKR.out]; decide), ← HIX.out.1]
         exact .inl (by omega)
       ·have hr' : knownR x.n.rep.res = false := by cases hx : knownR x.n.rep.res with | false => rfl | true => exact absurd hx hr
        rw [hr'] at h18
        have HKR := Lib.hid hr'
        clear hr hr'
        go_wp2_with fail
        go_roundw
        case rel =>
         have hcs := HCS.out
         have hb1 := HBX.out.2.1
         have hkn := known_iff (n := n) HIS.out HXM.out HK2.out HC.out
         unfold knownAt at hkn
         refine ⟨k + 1, all, allM, op, hlt, by go_num, ⟨hcs.below.trans (hb1.mono hcs.below.size), hcs.cs.below hb1, hcs.len, own_call hcs.opi hb1, hcs.mem, fun c hc => (hcs.ok c hc).late (Nat.le_succ _), hcs.lt, Nat.le_succ_of_le hcs.opl, ?_, fun hf => hcs.full ?_⟩⟩
         ·rw [← hcs.go, HDK.out, chanGo, if_neg (fun h => h HC.out), if_neg HK1.out, hkn, if_pos HKR.out]
         ·rw [HDK.out, fullGo, if_neg (fun h => h HC.out), if_neg HK1.out, hkn, if_pos HKR.out]; exact hf
        case measure => simp [intOf]; omega
     ·have pc : (x.n.call.ch == (n : Int)) = false := beq_eq_false_iff_ne.2 hc
      have HC := Lib.hid hc
      clear hc
      go_wp2_with fail
      go_roundw
      case rel =>
       have hcs := HCS.out
       refine ⟨k + 1, all, allM, op, hlt, by go_num, ⟨hcs.below.trans (HT7.out.mono hcs.below.size), hcs.cs.below HT7.out, hcs.len, own_call hcs.opi HT7.out, hcs.mem, fun c hc => (hcs.ok c hc).late (Nat.le_succ _), hcs.lt, Nat.le_succ_of_le hcs.opl, ?_, fun hf => hcs.full ?_⟩⟩
       ·rw [← hcs.go, HDK.out, chanGo, if_pos HC.out]
       ·rw [HDK.out, fullGo, if_pos HC.out]; exact hf
      case measure => simp [intOf]; omega
    ·obtain rfl : k = H.length := by omega
     go_wp2_with fail
     go_ret2
     have hcs := HCS.out
     have hgo := hcs.go
     rw [← HL.out, List.drop_length] at hgo
     refine ⟨HBQ.out, .inl ?_⟩
     rw [← hgo]
     rfl
end Go.Proofs.YtpjmolnkmlpfeaaGreatDoor
