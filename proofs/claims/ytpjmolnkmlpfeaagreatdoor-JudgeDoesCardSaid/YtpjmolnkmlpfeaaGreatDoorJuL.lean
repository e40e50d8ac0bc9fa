/- What a call does to a model. -/
import Derived.Test.YtpjmolnkmlpfeaaGreatDoorJuJ
import Derived.Test.YtpjmolnkmlpfeaaGreatDoorJuK
import Derived.Lib.MinMax
namespace Go.Proofs.YtpjmolnkmlpfeaaGreatDoor
set_option linter.unusedVariables false
set_option linter.unusedSimpArgs false
set_option maxRecDepth 100000
open Go.RowKit

theorem ownM_log (M : Mdl) : (ownM M).log = M.log := rfl
theorem cur_cell {w : World} {g : Nat} {l : List Nat} (h : Blk w g 22 (l.map u64v).toArray) {k : Nat} (hk : k < l.length) : w.cell? ⟨g, k, none⟩ = some (.int .u64 ((l.getD k 0 : Nat) : Int)) := by
 rw [h.cell, List.getElem?_toArray, List.getElem?_map, List.getElem?_eq_getElem hk, List.getD_eq_getElem?_getD, List.getElem?_eq_getElem hk]
 rfl
theorem cur_put {w : World} {g : Nat} {l : List Nat} (h : Blk w g 22 (l.map u64v).toArray) (k x : Nat) : Blk (w.setCell ⟨g, k, none⟩ (.int .u64 (x : Int))) g 22 ((l.set k x).map u64v).toArray := by
 have := h.put k (.int .u64 (x : Int))
 rw [pz0] at this
 rw [List.map_set]
 exact this
theorem OwF.putC {X : Nat → Prop} {B : Nat} {w : World} {vl : Value} {g : Nat} {M : Mdl} (h : OwF X B w vl g M) (k y : Nat) : OwF X B (w.setCell ⟨g, k, none⟩ (.int .u64 (y : Int))) vl g { M with cur := M.cur.set k y } ∧ Mod (fun b => b = g) w (w.setCell ⟨g, k, none⟩ (.int .u64 (y : Int))) := by
 have hm : Mod (fun b => b = g) w (w.setCell ⟨g, k, none⟩ (.int .u64 (y : Int))) := Mod.set (S := fun b => b = g) (Mod.refl _ _) (p := ⟨g, k, none⟩) (fun _ => rfl) _
 obtain ⟨⟨E, e1, e2, e3⟩, h2, h3, h4, h5, h6, h7⟩ := h
 exact ⟨⟨⟨E, own_mod e1 hm fun b hb e => h5 (e ▸ hb), e2, fun p hp => (e3 p hp).mod hm fun b hb e => hb.2.2.1 e⟩, cur_put h2 k y, by simpa using h3, h4, h5, h6, h7⟩, hm⟩
theorem set_same (l : List Nat) (k : Nat) : l.set k (l.getD k 0) = l := by
 apply List.ext_getElem?
 intro i
 rw [List.getElem?_set, List.getD_eq_getElem?_getD]
 by_cases h : k = i
 ·subst h
  rw [if_pos rfl]
  by_cases h2 : k < l.length
  ·rw [if_pos h2, List.getElem?_eq_getElem h2]
   rfl
  ·rw [if_neg h2, List.getElem?_eq_none (by omega)]
 ·rw [if_neg h]
/-- What is answered: a model, or none. -/
def DoesPostW (B : Nat) (T : Option Mdl) (e : Ending) (w' : World) : Prop := ∃ v', e = .returned (.tuple #[v', .bool T.isSome]) ∧ MdVW (fun b => B ≤ b) w' v' (T.getD zMdl)
set_option maxHeartbeats 32000000 in
theorem does_wideW {K K1 K' : Nat → Prop} {w : World} {vl0 vc0 v vr : Value} {M : Mdl} {C : Cal} {R : Rep} (h : MdF K w vl0 vc0 M) (hv : SlB K1 w v C.body) (hvr : SlB K' w vr R.body) (hn : M.log.length ≤ 100000) (hbl : ∀ e ∈ M.log, e.body.length ≤ 1000000) (hnb : C.body.length ≤ 140737488351232) (hnr : R.body.length ≤ 140737488351232) :
  Calls Tryz.prog 17 #[.agg (mdL M vl0 vc0).toArray, .agg (calL C v).toArray, .agg (repL R vr).toArray] w fun e w' => DoesPostW w.heap.size (doesM M C R) e w' ∧ Below w.heap.size w w' := by
 have ho1 := h.1.one
 have ho2 := h.2.one
 obtain ⟨Db, cb, eb, _⟩ := id hv
 subst eb
 obtain ⟨Dr, cr, er, _⟩ := id hvr
 subst er
 obtain ⟨W0, hW0⟩ : ∃ W0, W0 = ((w.alloc (.cells (mdL M vl0 vc0).toArray 45)).alloc (.cells (calL C (.slice Db C.body.length cb)).toArray 25)).alloc (.cells (repL R (.slice Dr R.body.length cr)).toArray 32) := ⟨_, rfl⟩
 have hX1 : Blk W0 w.heap.size 45 (mdL M vl0 vc0).toArray := by rw [hW0]; exact ((Blk.new _ _ _).alloc _).alloc _
 have hX2 : Blk W0 (w.heap.size + 1) 25 (calL C (.slice Db C.body.length cb)).toArray := by
  have := (Blk.new (w.alloc (.cells (mdL M vl0 vc0).toArray 45)) 25 (calL C (.slice Db C.body.length cb)).toArray).alloc (.cells (repL R (.slice Dr R.body.length cr)).toArray 32)
  rw [alloc_size] at this
  rw [hW0]
  exact this
 have hX3 : Blk W0 (w.heap.size + 1 + 1) 32 (repL R (.slice Dr R.body.length cr)).toArray := by
  have := Blk.new ((w.alloc (.cells (mdL M vl0 vc0).toArray 45)).alloc (.cells (calL C (.slice Db C.body.length cb)).toArray 25)) 32 (repL R (.slice Dr R.body.length cr)).toArray
  rw [alloc_size, alloc_size] at this
  rw [hW0]
  exact this
 have hT : Below w.heap.size w W0 := by rw [hW0]; exact (((Below.refl _ _).alloc (Nat.le_refl _) _).alloc (by simp) _).alloc (by simp; omega) _
 have hsz : W0.heap.size = w.heap.size + 1 + 1 + 1 := by rw [hW0]; simp
 have HX1 := Lib.hid hX1
 have HX2 := Lib.hid hX2
 have HX3 := Lib.hid hX3
 have HT := Lib.hid hT
 have HSZ := Lib.hid hsz
 have HM0 := Lib.hid h
 have HV := Lib.hid hv
 have HVR := Lib.hid hvr
 have HHH : Hid (M.log.length ≤ 100000 ∧ (∀ e ∈ M.log, e.body.length ≤ 1000000) ∧ C.body.length ≤ 140737488351232 ∧ R.body.length ≤ 140737488351232) := ⟨hn, hbl, hnb, hnr⟩
 have HW0 := Lib.hid hW0
 clear hX1 hX2 hX3 hT hsz h hv hvr hn hbl hnb hnr hW0
 go_enter Tryz.func17, Tryz.ntmps17
 go_wp2_with (refine wpList_alloc_blk rfl rfl zero_model ?_; rw [← HW0.out]; rintro g6 w3 hgz hB3 hb3; refine Hid.out ?_)
 refine Lib.hid ?_
 have HG6 : Hid (g6 = w.heap.size + 1 + 1 + 1) := by
  show _ = _
  rw [← hgz]
  exact HSZ.out
 have HT3 := Lib.hid (below_call HT.out HT.out.size hb3)
 have HB1 := Bb HX1 hb3
 have HB2 := Bb HX2 hb3
 have HB3 := Bb HX3 hb3
 have HBG := Lib.hid hB3
 clear hgz hb3 hB3 HX1 HX2 HX3 HT HSZ HW0
 have hown := mown_any (X := fun _ => False) (HM0.out.below HT3.out) HHH.out.1 HHH.out.2.1 (fun _ h => h.elim)
 go_wp2_with (refine wpList_load_blk rfl (ty := 45) rfl rfl HB1.out Tryz.underlying45 rfl (info_model rfl) ?_; refine Hid.out ?_)
 refine Lib.hid ?_
 go_wp2_with fail
 refine hown.mono ?_
 rintro e w4 ⟨⟨v4, rfl, vl, g, rfl, hof⟩, hb4⟩
 have HL3 : Hid (w.heap.size < w3.heap.size ∧ w.heap.size + 1 < w3.heap.size ∧ w.heap.size + 1 + 1 < w3.heap.size ∧ g6 < w3.heap.size) := ⟨HB1.out.lt, HB2.out.lt, HB3.out.lt, HBG.out.lt⟩
 have HT4 := Tt HT3 hb4
 have HB14 := Bb HB1 hb4
 have HB24 := Bb HB2 hb4
 have HB34 := Bb HB3 hb4
 have HBG4 := Bb HBG hb4
 have hov : vl.oneCell' = true := hof.mdf.1.one
 have HOF4 := Lib.hid hof
 clear hown hb4 hof HB1 HB2 HB3 HBG
 go_wp2_with (refine wpList_store_blk rfl rfl rfl rfl HB14.out rfl (info_model rfl) (mdL_one hov rfl) ?_; rintro w5 hB5 hm5; refine Hid.out ?_)
 refine Lib.hid ?_
 have HL5 : Hid (w3.heap.size ≤ w5.heap.size ∧ w.heap.size ≤ w3.heap.size) := ⟨by have := HL3.out; have := hm5.size; have := (HOF4.out).2.1.lt; have h1 := HOF4.out.2.2.2.1; omega, HT3.out.size⟩
 have HT5 := Lib.hid (HT4.out.trans (hm5.to_below HT4.out.size fun b hb e => by omega))
 have HB15 := Lib.hid hB5
 have HB25 := Lib.hid (HB24.out.mod hm5 fun e => by omega)
 have HB35 := Lib.hid (HB34.out.mod hm5 fun e => by omega)
 have HBG5 := Lib.hid (HBG4.out.mod hm5 fun e => by have := HG6.out; omega)
 have HOF5 := Lib.hid (HOF4.out.mod hm5 fun b hb _ e => by have := HL3.out; omega)
 clear hB5 hm5 HB14 HB24 HB34 HBG4 HOF4 HT4
 go_wp2_with (refine wpList_load_blk rfl (ty := 45) rfl rfl HB15.out Tryz.underlying45 rfl (info_model rfl) ?_; refine Hid.out ?_)
 refine Lib.hid ?_
 go_wp2_with (refine wpList_load_blk rfl (ty := 25) rfl rfl HB25.out Tryz.underlying25 rfl (info_call rfl) ?_; refine Hid.out ?_)
 refine Lib.hid ?_
 go_wp2_with fail
 refine (cursor_any (M := ownM M) (g := g) (C := C) hov (HV.out.below HT5.out)).mono ?_
 rintro e w6 ⟨rfl, hb6⟩
 have HT6 := Tt HT5 hb6
 have HL6 : Hid (w.heap.size < w3.heap.size ∧ w.heap.size + 1 < w3.heap.size ∧ w.heap.size + 1 + 1 < w3.heap.size ∧ g6 < w3.heap.size ∧ w3.heap.size ≤ w6.heap.size) := by have := HL3.out; have := HL5.out; have := hb6.size; show _ ∧ _; omega
 have HB16 := Bb HB15 hb6
 have HB26 := Bb HB25 hb6
 have HB36 := Bb HB35 hb6
 have HBG6 := Bb HBG5 hb6
 have HOF6 := Lib.hid (HOF5.out.below hb6)
 clear hb6 HB15 HB25 HB35 HBG5 HOF5 HT5
 have k3 := (HB26.out.cell 3).trans (rfl : _ = some (Value.int .i64 C.kind))
 have HD : Hid (doesM M C R = doesO (ownM M) C R) := rfl
 have hk : C.kind = 1 ∨ C.kind = 2 ∨ C.kind = 3 ∨ C.kind = 4 ∨ C.kind = 5 ∨ C.kind = 6 ∨ (C.kind ≠ 1 ∧ C.kind ≠ 2 ∧ C.kind ≠ 3 ∧ C.kind ≠ 4 ∧ C.kind ≠ 5 ∧ C.kind ≠ 6) := by omega
 rcases hk with hk | hk | hk | hk | hk | hk | ⟨n1, n2, n3, n4, n5, n6⟩
 ·have HP : Hid (doesM M C R = publishM (ownM M) C R) := by show _ = _; rw [HD.out]; unfold doesO; rw [if_pos hk]
  have p1 : (C.kind == 1) = true := beq_iff_eq.2 hk
  clear hk
  go_wp2_with (refine wpList_load_blk rfl (ty := 45) rfl rfl HB16.out Tryz.underlying45 rfl (info_model rfl) ?_; refine Hid.out ?_)
  refine Lib.hid ?_
  go_wp2_with (refine wpList_load_blk rfl (ty := 25) rfl rfl HB26.out Tryz.underlying25 rfl (info_call rfl) ?_; refine Hid.out ?_)
  refine Lib.hid ?_
  go_wp2_with (refine wpList_load_blk rfl (ty := 32) rfl rfl HB36.out Tryz.underlying32 rfl (info_reply rfl) ?_; refine Hid.out ?_)
  refine Lib.hid ?_
  go_wp2_with fail
  refine (publish_any HOF6.out (HV.out.below HT6.out) (HVR.out.below HT6.out) HL6.out.2.2.2.2 HHH.out.1 HHH.out.2.2.1 (fun _ h => h.elim)).mono ?_
  rintro e w7 ⟨⟨v7, N, rfl, ⟨vlN, vcN, rfl, hN⟩, hsome⟩, hb7⟩
  have HB17 := Lib.hid (HB16.out.below hb7 HL6.out.1)
  have HBG7 := Lib.hid (HBG6.out.below hb7 HL6.out.2.2.2.1)
  have HN7 := Lib.hid hN
  have HO7 : Hid (vlN.oneCell' = true ∧ vcN.oneCell' = true) := ⟨hN.1.one, hN.2.one⟩
  have HS7 := Lib.hid hsome
  have HSZ7 := Lib.hid hb7
  generalize hT : publishM (ownM M) C R = T at *
  have HT := Lib.hid hT
  clear hb7 hN hsome hT
  cases T with
  | none =>
   have hI : (none : Option Mdl).isSome = false := rfl
   rw [hI]
   go_wp2_with (refine wpList_store_blk rfl rfl rfl rfl HB17.out rfl (info_model rfl) (mdL_one HO7.out.1 HO7.out.2) ?_; rintro w8 hB8 hm8; refine Hid.out ?_)
   refine Lib.hid ?_
   have HBG8 := Lib.hid (HBG7.out.mod hm8 fun e => by have := HG6.out; omega)
   have HT8 : Hid (Below w.heap.size w w8) := by
    have h1 : Below w.heap.size w w7 := HT6.out.trans (HSZ7.out.mono HL5.out.2)
    exact h1.trans (hm8.to_below h1.size fun b hb e => by omega)
   clear hB8 hm8
   have z0 := (HBG8.out.cell 0).trans (rfl : _ = some (Value.slice none 0 0))
   have z1 := (HBG8.out.cell 1).trans (rfl : _ = some (Value.int .u64 ((0 : Nat) : Int)))
   have z2 := (HBG8.out.cell 2).trans (rfl : _ = some (Value.slice none 0 0))
   have y0 := HBG8.out.free 0
   have y1 := HBG8.out.free 1
   have y2 := HBG8.out.free 2
   have HB9 : Hid (Blk (((w8.setCell ⟨g6, 0, none⟩ (.slice none 0 0)).setCell ⟨g6, 1, none⟩ (.int .u64 0)).setCell ⟨g6, 2, none⟩ (.slice none 0 0)) g6 45 (mdL zMdl (.slice none 0 0) (.slice none 0 0)).toArray) := ((HBG8.out.put 0 (.slice none 0 0)).put 1 (.int .u64 0)).put 2 (.slice none 0 0)
   have HM9 : Hid (Mod (fun b => b = g6) w8 (((w8.setCell ⟨g6, 0, none⟩ (.slice none 0 0)).setCell ⟨g6, 1, none⟩ (.int .u64 0)).setCell ⟨g6, 2, none⟩ (.slice none 0 0))) := Mod.set (S := fun b => b = g6) (Mod.set (S := fun b => b = g6) (Mod.set (S := fun b => b = g6) (Mod.refl _ _) (p := ⟨g6, 0, none⟩) (fun _ => rfl) _) (p := ⟨g6, 1, none⟩) (fun _ => rfl) _) (p := ⟨g6, 2, none⟩) (fun _ => rfl) _
   go_wp2_with fail
   refine bodyPost_ret (results_ct Tryz.results17 _ HB9.out rfl Tryz.underlying45 rfl (info_model rfl)) rfl ?_
   have hg6 := HG6.out
   have hl6 := HL6.out
   refine ⟨⟨_, by rw [HP.out]; rfl, ?_⟩, HT8.out.trans (HM9.out.to_below HT8.out.size fun b hb e => by omega)⟩
   rw [HP.out]
   exact zero_mdw _ _
  | some N' =>
   obtain rfl := HS7.out N' rfl
   have hI : (some N').isSome = true := rfl
   rw [hI]
   go_wp2_with (refine wpList_store_blk rfl rfl rfl rfl HB17.out rfl (info_model rfl) (mdL_one HO7.out.1 HO7.out.2) ?_; rintro w8 hB8 hm8; refine Hid.out ?_)
   refine Lib.hid ?_
   have HB18 := Lib.hid hB8
   have HN8 : Hid (MdW (fun b => w3.heap.size ≤ b) w8 vlN vcN N') := HN7.out.mod hm8 fun b hb e => by have hb : w3.heap.size ≤ b := hb; have := HL6.out; omega
   have HBG8 := Lib.hid (HBG7.out.mod hm8 fun e => by have := HG6.out; omega)
   have HT8 : Hid (Below w.heap.size w w8) := by
    have h1 : Below w.heap.size w w7 := HT6.out.trans (HSZ7.out.mono HL5.out.2)
    exact h1.trans (hm8.to_below h1.size fun b hb e => by omega)
   clear hB8 hm8
   go_wp2_with (refine wpList_load_blk rfl (ty := 45) rfl rfl HB18.out Tryz.underlying45 rfl (info_model rfl) ?_; refine Hid.out ?_)
   refine Lib.hid ?_
   go_wp2_with (refine wpList_store_blk rfl rfl rfl rfl HBG8.out rfl (info_model rfl) (mdL_one HO7.out.1 HO7.out.2) ?_; rintro w9 hB9 hm9; refine Hid.out ?_)
   refine Lib.hid ?_
   have HB9 := Lib.hid hB9
   have HM9 := Lib.hid hm9
   clear hB9 hm9
   go_wp2_with fail
   refine bodyPost_ret (results_ct Tryz.results17 _ HB9.out rfl Tryz.underlying45 rfl (info_model rfl)) rfl ?_
   have hg6 := HG6.out
   have hl6 := HL6.out
   refine ⟨⟨_, by rw [HP.out]; rfl, ?_⟩, HT8.out.trans (HM9.out.to_below HT8.out.size fun b hb e => by omega)⟩
   rw [HP.out]
   exact ⟨_, _, rfl, (HN8.out.mod HM9.out fun b hb e => by have hb : w3.heap.size ≤ b := hb; omega).weak fun b _ hb => by have hb : w3.heap.size ≤ b := hb; show _ ≤ _; omega⟩
 ·have HP : Hid (doesM M C R = if readM (ownM M) C R then some (ownM M) else none) := by show _ = _; rw [HD.out]; unfold doesO; rw [if_neg (by omega), if_pos hk]
  have p1 : (C.kind == 1) = false := beq_eq_false_iff_ne.2 (by omega)
  have p2 : (C.kind == 2) = true := beq_iff_eq.2 hk
  clear hk
  go_wp2_with (refine wpList_load_blk rfl (ty := 45) rfl rfl HB16.out Tryz.underlying45 rfl (info_model rfl) ?_; refine Hid.out ?_)
  refine Lib.hid ?_
  go_wp2_with (refine wpList_load_blk rfl (ty := 25) rfl rfl HB26.out Tryz.underlying25 rfl (info_call rfl) ?_; refine Hid.out ?_)
  refine Lib.hid ?_
  go_wp2_with (refine wpList_load_blk rfl (ty := 32) rfl rfl HB36.out Tryz.underlying32 rfl (info_reply rfl) ?_; refine Hid.out ?_)
  refine Lib.hid ?_
  go_wp2_with fail
  refine (read_any (M := ownM M) HOF6.out.mdf.1 rfl (HV.out.below HT6.out) (HVR.out.below HT6.out) HHH.out.1 HHH.out.2.1 HHH.out.2.2.2).mono ?_
  rintro e w7 ⟨rfl, hb7⟩
  have HB17 := Bb HB16 hb7
  have HBG7 := Bb HBG6 hb7
  have HN7 : Hid (MdW (fun b => w3.heap.size ≤ b) w7 vl (.slice (some ⟨g, 0, none⟩) 3 3) (ownM M)) := (HOF6.out.mdw.below hb7).weak fun b _ h => h.1
  have HT7 := Tt HT6 hb7
  clear hb7
  cases hq : readM (ownM M) C R with
  | true =>
   have HP2 : Hid (doesM M C R = some (ownM M)) := by show _ = _; rw [HP.out, hq]; rfl
   clear hq
   go_wp2_with (refine wpList_load_blk rfl (ty := 45) rfl rfl HB17.out Tryz.underlying45 rfl (info_model rfl) ?_; refine Hid.out ?_)
   refine Lib.hid ?_
   go_wp2_with (refine wpList_store_blk rfl rfl rfl rfl HBG7.out rfl (info_model rfl) (mdL_one hov rfl) ?_; rintro w9 hB9 hm9; refine Hid.out ?_)
   refine Lib.hid ?_
   have HB9 := Lib.hid hB9
   have HM9 := Lib.hid hm9
   clear hB9 hm9
   go_wp2_with fail
   refine bodyPost_ret (results_ct Tryz.results17 _ HB9.out rfl Tryz.underlying45 rfl (info_model rfl)) rfl ?_
   have hg6 := HG6.out
   have hl6 := HL6.out
   refine ⟨⟨_, by rw [HP2.out]; rfl, ?_⟩, HT7.out.trans (HM9.out.to_below HT7.out.size fun b hb e => by omega)⟩
   rw [HP2.out]
   exact ⟨_, _, rfl, (HN7.out.mod HM9.out fun b hb e => by have hb : w3.heap.size ≤ b := hb; omega).weak fun b _ hb => by have hb : w3.heap.size ≤ b := hb; show _ ≤ _; omega⟩
  | false =>
   have HP2 : Hid (doesM M C R = none) := by show _ = _; rw [HP.out, hq]; rfl
   clear hq
   have z0 := (HBG7.out.cell 0).trans (rfl : _ = some (Value.slice none 0 0))
   have z1 := (HBG7.out.cell 1).trans (rfl : _ = some (Value.int .u64 ((0 : Nat) : Int)))
   have z2 := (HBG7.out.cell 2).trans (rfl : _ = some (Value.slice none 0 0))
   have y0 := HBG7.out.free 0
   have y1 := HBG7.out.free 1
   have y2 := HBG7.out.free 2
   have HB9 : Hid (Blk (((w7.setCell ⟨g6, 0, none⟩ (.slice none 0 0)).setCell ⟨g6, 1, none⟩ (.int .u64 0)).setCell ⟨g6, 2, none⟩ (.slice none 0 0)) g6 45 (mdL zMdl (.slice none 0 0) (.slice none 0 0)).toArray) := ((HBG7.out.put 0 (.slice none 0 0)).put 1 (.int .u64 0)).put 2 (.slice none 0 0)
   have HM9 : Hid (Mod (fun b => b = g6) w7 (((w7.setCell ⟨g6, 0, none⟩ (.slice none 0 0)).setCell ⟨g6, 1, none⟩ (.int .u64 0)).setCell ⟨g6, 2, none⟩ (.slice none 0 0))) := Mod.set (S := fun b => b = g6) (Mod.set (S := fun b => b = g6) (Mod.set (S := fun b => b = g6) (Mod.refl _ _) (p := ⟨g6, 0, none⟩) (fun _ => rfl) _) (p := ⟨g6, 1, none⟩) (fun _ => rfl) _) (p := ⟨g6, 2, none⟩) (fun _ => rfl) _
   go_wp2_with fail
   refine bodyPost_ret (results_ct Tryz.results17 _ HB9.out rfl Tryz.underlying45 rfl (info_model rfl)) rfl ?_
   have hg6 := HG6.out
   have hl6 := HL6.out
   refine ⟨⟨_, by rw [HP2.out]; rfl, ?_⟩, HT7.out.trans (HM9.out.to_below HT7.out.size fun b hb e => by omega)⟩
   rw [HP2.out]
   exact zero_mdw _ _
 ·have HP : Hid (doesM M C R = if R.res = 0 ∧ M.trim ≤ R.at_ ∧ (R.at_ = M.trim ∨ R.at_ ≤ min C.at_ M.log.length) then some { ownM M with trim := R.at_ } else none) := by show _ = _; rw [HD.out]; unfold doesO; rw [if_neg (by omega), if_neg (by omega), if_pos hk]; rfl
  have p1 : (C.kind == 1) = false := beq_eq_false_iff_ne.2 (by omega)
  have p2 : (C.kind == 2) = false := beq_eq_false_iff_ne.2 (by omega)
  have p3 : (C.kind == 3) = true := beq_iff_eq.2 hk
  clear hk
  obtain ⟨⟨E, how, hE, hall⟩, _⟩ := id HOF6.out
  have hl : M.log.length = E.length := by rw [← ownM_log M, ← hE, List.length_map]
  obtain ⟨A, c, rfl, hcc, hcc'⟩ := own_slice how
  rw [hl] at HP
  have hl5 : E.length ≤ 100000 := by rw [← hl]; exact HHH.out.1
  have hw : IntKind.u64.wrap (E.length : Int) = (E.length : Int) := by rw [IntKind.wrap_u64]; omega
  have m0 := (HB16.out.cell 0).trans (rfl : _ = some (Value.slice A E.length c))
  have m1 := (HB16.out.cell 1).trans (rfl : _ = some (Value.int .u64 (M.trim : Int)))
  have f1 := HB16.out.free 1
  have r3 := (HB36.out.cell 3).trans (rfl : _ = some (Value.int .i64 R.res))
  have r4 := (HB36.out.cell 4).trans (rfl : _ = some (Value.int .u64 (R.at_ : Int)))
  have k7 := (HB26.out.cell 7).trans (rfl : _ = some (Value.int .u64 (C.at_ : Int)))
  have hB8 : Blk (w6.setCell ⟨w.heap.size, 1, none⟩ (.int .u64 (R.at_ : Int))) w.heap.size 45 (mdL { ownM M with trim := R.at_ } (.slice A E.length c) (.slice (some ⟨g, 0, none⟩) 3 3)).toArray := HB16.out.put 1 _
  have hm8 : Mod (fun b => b = w.heap.size) w6 (w6.setCell ⟨w.heap.size, 1, none⟩ (.int .u64 (R.at_ : Int))) := Mod.set (S := fun b => b = w.heap.size) (Mod.refl _ _) (p := ⟨w.heap.size, 1, none⟩) (fun _ => rfl) _
  have HB18 := Lib.hid hB8
  have HN8 : Hid (MdW (fun b => w3.heap.size ≤ b) (w6.setCell ⟨w.heap.size, 1, none⟩ (.int .u64 (R.at_ : Int))) (.slice A E.length c) (.slice (some ⟨g, 0, none⟩) 3 3) { ownM M with trim := R.at_ }) := (HOF6.out.mdw.weak fun b _ h => h.1).mod hm8 fun b hb e => by have hb : w3.heap.size ≤ b := hb; have := HL6.out; omega
  have HBG8 := Lib.hid (HBG6.out.mod hm8 fun e => by have := HG6.out; omega)
  have HT8 : Hid (Below w.heap.size w (w6.setCell ⟨w.heap.size, 1, none⟩ (.int .u64 (R.at_ : Int)))) := HT6.out.trans (hm8.to_below HT6.out.size fun b hb e => by omega)
  clear hB8 hm8 how hE hall hl5 hl hcc hcc'
  by_cases h0 : R.res = 0
  ·skip
   have rr : (R.res == 0) = true := beq_iff_eq.2 h0
   have rn : (R.res != 0) = false := by rw [bne, rr]; rfl
   by_cases hs : M.trim ≤ R.at_
   ·skip
    have s0 : decide (M.trim ≤ R.at_) = true := decide_eq_true hs
    have s1 : decide ((M.trim : Int) ≤ (R.at_ : Int)) = true := decide_eq_true (by omega)
    by_cases he : R.at_ = M.trim
    ·skip
     have e0 : (R.at_ == M.trim) = true := beq_iff_eq.2 he
     have e1 : ((R.at_ : Int) == (M.trim : Int)) = true := beq_iff_eq.2 (by omega)
     have HQ : Hid (doesM M C R = some { ownM M with trim := R.at_ }) := by show _ = _; rw [HP.out, if_pos ⟨h0, hs, .inl he⟩]
     clear h0 hs he
     have b0 := (HB18.out.cell 0).trans (rfl : _ = some (Value.slice A E.length c))
     have b1 := (HB18.out.cell 1).trans (rfl : _ = some (Value.int .u64 (R.at_ : Int)))
     have b2 := (HB18.out.cell 2).trans (rfl : _ = some (Value.slice (some ⟨g, 0, none⟩) 3 3))
     have z0 := (HBG8.out.cell 0).trans (rfl : _ = some (Value.slice none 0 0))
     have z1 := (HBG8.out.cell 1).trans (rfl : _ = some (Value.int .u64 ((0 : Nat) : Int)))
     have z2 := (HBG8.out.cell 2).trans (rfl : _ = some (Value.slice none 0 0))
     have y0 := HBG8.out.free 0
     have y1 := HBG8.out.free 1
     have y2 := HBG8.out.free 2
     have HB9 : Hid (Blk ((((w6.setCell ⟨w.heap.size, 1, none⟩ (.int .u64 (R.at_ : Int))).setCell ⟨g6, 0, none⟩ (Value.slice A E.length c)).setCell ⟨g6, 1, none⟩ (.int .u64 (R.at_ : Int))).setCell ⟨g6, 2, none⟩ (Value.slice (some ⟨g, 0, none⟩) 3 3)) g6 45 (mdL ({ ownM M with trim := R.at_ }) (Value.slice A E.length c) (Value.slice (some ⟨g, 0, none⟩) 3 3)).toArray) := ((HBG8.out.put 0 (Value.slice A E.length c)).put 1 (.int .u64 (R.at_ : Int))).put 2 (Value.slice (some ⟨g, 0, none⟩) 3 3)
     have HM9 : Hid (Mod (fun b => b = g6) (w6.setCell ⟨w.heap.size, 1, none⟩ (.int .u64 (R.at_ : Int))) ((((w6.setCell ⟨w.heap.size, 1, none⟩ (.int .u64 (R.at_ : Int))).setCell ⟨g6, 0, none⟩ (Value.slice A E.length c)).setCell ⟨g6, 1, none⟩ (.int .u64 (R.at_ : Int))).setCell ⟨g6, 2, none⟩ (Value.slice (some ⟨g, 0, none⟩) 3 3))) := Mod.set (S := fun b => b = g6) (Mod.set (S := fun b => b = g6) (Mod.set (S := fun b => b = g6) (Mod.refl _ _) (p := ⟨g6, 0, none⟩) (fun _ => rfl) _) (p := ⟨g6, 1, none⟩) (fun _ => rfl) _) (p := ⟨g6, 2, none⟩) (fun _ => rfl) _
     go_wp2_with fail
     refine bodyPost_ret (results_ct Tryz.results17 _ HB9.out rfl Tryz.underlying45 rfl (info_model rfl)) rfl ?_
     have hg6 := HG6.out
     have hl6 := HL6.out
     refine ⟨⟨_, by rw [HQ.out]; rfl, ?_⟩, HT8.out.trans (HM9.out.to_below HT8.out.size fun b hb e => by omega)⟩
     rw [HQ.out]
     exact ⟨_, _, rfl, (HN8.out.mod HM9.out fun b hb e => by have hb : w3.heap.size ≤ b := hb; omega).weak fun b _ hb => by have hb : w3.heap.size ≤ b := hb; show _ ≤ _; omega⟩
    ·skip
     have e0 : (R.at_ == M.trim) = false := beq_eq_false_iff_ne.2 he
     have e1 : ((R.at_ : Int) == (M.trim : Int)) = false := beq_eq_false_iff_ne.2 (by omega)
     by_cases hm : R.at_ ≤ min C.at_ E.length
     ·have g0 : decide (R.at_ ≤ min C.at_ E.length) = true := decide_eq_true hm
      have g1 : decide ((R.at_ : Int) ≤ min (C.at_ : Int) (E.length : Int)) = true := decide_eq_true (by omega)
      have HQ : Hid (doesM M C R = some { ownM M with trim := R.at_ }) := by show _ = _; rw [HP.out, if_pos ⟨h0, hs, .inr hm⟩]
      clear h0 hs he hm
      have b0 := (HB18.out.cell 0).trans (rfl : _ = some (Value.slice A E.length c))
      have b1 := (HB18.out.cell 1).trans (rfl : _ = some (Value.int .u64 (R.at_ : Int)))
      have b2 := (HB18.out.cell 2).trans (rfl : _ = some (Value.slice (some ⟨g, 0, none⟩) 3 3))
      have z0 := (HBG8.out.cell 0).trans (rfl : _ = some (Value.slice none 0 0))
      have z1 := (HBG8.out.cell 1).trans (rfl : _ = some (Value.int .u64 ((0 : Nat) : Int)))
      have z2 := (HBG8.out.cell 2).trans (rfl : _ = some (Value.slice none 0 0))
      have y0 := HBG8.out.free 0
      have y1 := HBG8.out.free 1
      have y2 := HBG8.out.free 2
      have HB9 : Hid (Blk ((((w6.setCell ⟨w.heap.size, 1, none⟩ (.int .u64 (R.at_ : Int))).setCell ⟨g6, 0, none⟩ (Value.slice A E.length c)).setCell ⟨g6, 1, none⟩ (.int .u64 (R.at_ : Int))).setCell ⟨g6, 2, none⟩ (Value.slice (some ⟨g, 0, none⟩) 3 3)) g6 45 (mdL ({ ownM M with trim := R.at_ }) (Value.slice A E.length c) (Value.slice (some ⟨g, 0, none⟩) 3 3)).toArray) := ((HBG8.out.put 0 (Value.slice A E.length c)).put 1 (.int .u64 (R.at_ : Int))).put 2 (Value.slice (some ⟨g, 0, none⟩) 3 3)
      have HM9 : Hid (Mod (fun b => b = g6) (w6.setCell ⟨w.heap.size, 1, none⟩ (.int .u64 (R.at_ : Int))) ((((w6.setCell ⟨w.heap.size, 1, none⟩ (.int .u64 (R.at_ : Int))).setCell ⟨g6, 0, none⟩ (Value.slice A E.length c)).setCell ⟨g6, 1, none⟩ (.int .u64 (R.at_ : Int))).setCell ⟨g6, 2, none⟩ (Value.slice (some ⟨g, 0, none⟩) 3 3))) := Mod.set (S := fun b => b = g6) (Mod.set (S := fun b => b = g6) (Mod.set (S := fun b => b = g6) (Mod.refl _ _) (p := ⟨g6, 0, none⟩) (fun _ => rfl) _) (p := ⟨g6, 1, none⟩) (fun _ => rfl) _) (p := ⟨g6, 2, none⟩) (fun _ => rfl) _
      go_wp2_with fail
      refine bodyPost_ret (results_ct Tryz.results17 _ HB9.out rfl Tryz.underlying45 rfl (info_model rfl)) rfl ?_
      have hg6 := HG6.out
      have hl6 := HL6.out
      refine ⟨⟨_, by rw [HQ.out]; rfl, ?_⟩, HT8.out.trans (HM9.out.to_below HT8.out.size fun b hb e => by omega)⟩
      rw [HQ.out]
      exact ⟨_, _, rfl, (HN8.out.mod HM9.out fun b hb e => by have hb : w3.heap.size ≤ b := hb; omega).weak fun b _ hb => by have hb : w3.heap.size ≤ b := hb; show _ ≤ _; omega⟩
     ·have g0 : decide (R.at_ ≤ min C.at_ E.length) = false := decide_eq_false hm
      have g1 : decide ((R.at_ : Int) ≤ min (C.at_ : Int) (E.length : Int)) = false := decide_eq_false (by omega)
      have HQ : Hid (doesM M C R = none) := by show _ = _; rw [HP.out, if_neg (fun h => h.2.2.elim he hm)]
      clear h0 hs he hm
      have z0 := (HBG8.out.cell 0).trans (rfl : _ = some (Value.slice none 0 0))
      have z1 := (HBG8.out.cell 1).trans (rfl : _ = some (Value.int .u64 ((0 : Nat) : Int)))
      have z2 := (HBG8.out.cell 2).trans (rfl : _ = some (Value.slice none 0 0))
      have y0 := HBG8.out.free 0
      have y1 := HBG8.out.free 1
      have y2 := HBG8.out.free 2
      have HB9 : Hid (Blk ((((w6.setCell ⟨w.heap.size, 1, none⟩ (.int .u64 (R.at_ : Int))).setCell ⟨g6, 0, none⟩ (.slice none 0 0)).setCell ⟨g6, 1, none⟩ (.int .u64 0)).setCell ⟨g6, 2, none⟩ (.slice none 0 0)) g6 45 (mdL zMdl (.slice none 0 0) (.slice none 0 0)).toArray) := ((HBG8.out.put 0 (.slice none 0 0)).put 1 (.int .u64 0)).put 2 (.slice none 0 0)
      have HM9 : Hid (Mod (fun b => b = g6) (w6.setCell ⟨w.heap.size, 1, none⟩ (.int .u64 (R.at_ : Int))) ((((w6.setCell ⟨w.heap.size, 1, none⟩ (.int .u64 (R.at_ : Int))).setCell ⟨g6, 0, none⟩ (.slice none 0 0)).setCell ⟨g6, 1, none⟩ (.int .u64 0)).setCell ⟨g6, 2, none⟩ (.slice none 0 0))) := Mod.set (S := fun b => b = g6) (Mod.set (S := fun b => b = g6) (Mod.set (S := fun b => b = g6) (Mod.refl _ _) (p := ⟨g6, 0, none⟩) (fun _ => rfl) _) (p := ⟨g6, 1, none⟩) (fun _ => rfl) _) (p := ⟨g6, 2, none⟩) (fun _ => rfl) _
      go_wp2_with fail
      refine bodyPost_ret (results_ct Tryz.results17 _ HB9.out rfl Tryz.underlying45 rfl (info_model rfl)) rfl ?_
      have hg6 := HG6.out
      have hl6 := HL6.out
      refine ⟨⟨_, by rw [HQ.out]; rfl, ?_⟩, HT8.out.trans (HM9.out.to_below HT8.out.size fun b hb e => by omega)⟩
      rw [HQ.out]
      exact zero_mdw _ _
   ·skip
    have s0 : decide (M.trim ≤ R.at_) = false := decide_eq_false hs
    have s1 : decide ((M.trim : Int) ≤ (R.at_ : Int)) = false := decide_eq_false (by omega)
    have HQ : Hid (doesM M C R = none) := by show _ = _; rw [HP.out, if_neg (fun h => hs h.2.1)]
    clear h0 hs
    have z0 := (HBG8.out.cell 0).trans (rfl : _ = some (Value.slice none 0 0))
    have z1 := (HBG8.out.cell 1).trans (rfl : _ = some (Value.int .u64 ((0 : Nat) : Int)))
    have z2 := (HBG8.out.cell 2).trans (rfl : _ = some (Value.slice none 0 0))
    have y0 := HBG8.out.free 0
    have y1 := HBG8.out.free 1
    have y2 := HBG8.out.free 2
    have HB9 : Hid (Blk ((((w6.setCell ⟨w.heap.size, 1, none⟩ (.int .u64 (R.at_ : Int))).setCell ⟨g6, 0, none⟩ (.slice none 0 0)).setCell ⟨g6, 1, none⟩ (.int .u64 0)).setCell ⟨g6, 2, none⟩ (.slice none 0 0)) g6 45 (mdL zMdl (.slice none 0 0) (.slice none 0 0)).toArray) := ((HBG8.out.put 0 (.slice none 0 0)).put 1 (.int .u64 0)).put 2 (.slice none 0 0)
    have HM9 : Hid (Mod (fun b => b = g6) (w6.setCell ⟨w.heap.size, 1, none⟩ (.int .u64 (R.at_ : Int))) ((((w6.setCell ⟨w.heap.size, 1, none⟩ (.int .u64 (R.at_ : Int))).setCell ⟨g6, 0, none⟩ (.slice none 0 0)).setCell ⟨g6, 1, none⟩ (.int .u64 0)).setCell ⟨g6, 2, none⟩ (.slice none 0 0))) := Mod.set (S := fun b => b = g6) (Mod.set (S := fun b => b = g6) (Mod.set (S := fun b => b = g6) (Mod.refl _ _) (p := ⟨g6, 0, none⟩) (fun _ => rfl) _) (p := ⟨g6, 1, none⟩) (fun _ => rfl) _) (p := ⟨g6, 2, none⟩) (fun _ => rfl) _
    go_wp2_with fail
    refine bodyPost_ret (results_ct Tryz.results17 _ HB9.out rfl Tryz.underlying45 rfl (info_model rfl)) rfl ?_
    have hg6 := HG6.out
    have hl6 := HL6.out
    refine ⟨⟨_, by rw [HQ.out]; rfl, ?_⟩, HT8.out.trans (HM9.out.to_below HT8.out.size fun b hb e => by omega)⟩
    rw [HQ.out]
    exact zero_mdw _ _
  ·skip
   have rr : (R.res == 0) = false := beq_eq_false_iff_ne.2 h0
   have rn : (R.res != 0) = true := by rw [bne, rr]; rfl
   have HQ : Hid (doesM M C R = none) := by show _ = _; rw [HP.out, if_neg (fun h => h0 h.1)]
   clear h0
   have z0 := (HBG8.out.cell 0).trans (rfl : _ = some (Value.slice none 0 0))
   have z1 := (HBG8.out.cell 1).trans (rfl : _ = some (Value.int .u64 ((0 : Nat) : Int)))
   have z2 := (HBG8.out.cell 2).trans (rfl : _ = some (Value.slice none 0 0))
   have y0 := HBG8.out.free 0
   have y1 := HBG8.out.free 1
   have y2 := HBG8.out.free 2
   have HB9 : Hid (Blk ((((w6.setCell ⟨w.heap.size, 1, none⟩ (.int .u64 (R.at_ : Int))).setCell ⟨g6, 0, none⟩ (.slice none 0 0)).setCell ⟨g6, 1, none⟩ (.int .u64 0)).setCell ⟨g6, 2, none⟩ (.slice none 0 0)) g6 45 (mdL zMdl (.slice none 0 0) (.slice none 0 0)).toArray) := ((HBG8.out.put 0 (.slice none 0 0)).put 1 (.int .u64 0)).put 2 (.slice none 0 0)
   have HM9 : Hid (Mod (fun b => b = g6) (w6.setCell ⟨w.heap.size, 1, none⟩ (.int .u64 (R.at_ : Int))) ((((w6.setCell ⟨w.heap.size, 1, none⟩ (.int .u64 (R.at_ : Int))).setCell ⟨g6, 0, none⟩ (.slice none 0 0)).setCell ⟨g6, 1, none⟩ (.int .u64 0)).setCell ⟨g6, 2, none⟩ (.slice none 0 0))) := Mod.set (S := fun b => b = g6) (Mod.set (S := fun b => b = g6) (Mod.set (S := fun b => b = g6) (Mod.refl _ _) (p := ⟨g6, 0, none⟩) (fun _ => rfl) _) (p := ⟨g6, 1, none⟩) (fun _ => rfl) _) (p := ⟨g6, 2, none⟩) (fun _ => rfl) _
   go_wp2_with fail
   refine bodyPost_ret (results_ct Tryz.results17 _ HB9.out rfl Tryz.underlying45 rfl (info_model rfl)) rfl ?_
   have hg6 := HG6.out
   have hl6 := HL6.out
   refine ⟨⟨_, by rw [HQ.out]; rfl, ?_⟩, HT8.out.trans (HM9.out.to_below HT8.out.size fun b hb e => by omega)⟩
   rw [HQ.out]
   exact zero_mdw _ _
 ·have HP : Hid (doesM M C R = if subOk C = true ∧ R.res = 0 then (if R.at_ = curTo (ownM M) C then some (setC (ownM M) C (curTo (ownM M) C)) else none) else none) := by show _ = _; rw [HD.out]; unfold doesO; rw [if_neg (by omega), if_neg (by omega), if_neg (by omega), if_pos (by omega)]
  have p1 : (C.kind == 1) = false := beq_eq_false_iff_ne.2 (by omega)
  have p2 : (C.kind == 2) = false := beq_eq_false_iff_ne.2 (by omega)
  have p3 : (C.kind == 3) = false := beq_eq_false_iff_ne.2 (by omega)
  have p4 : (C.kind == 4) = true := beq_iff_eq.2 hk
  have HCT : Hid (curTo (ownM M) C = max (getC (ownM M) C) C.at_) := by show _ = _; unfold curTo; rw [if_pos hk]
  clear hk
  obtain ⟨⟨E, how, hE, hall⟩, hgB, hg3, hgb, _⟩ := id HOF6.out
  obtain ⟨A, c, rfl, hcc, hcc'⟩ := own_slice how
  have r3 := (HB36.out.cell 3).trans (rfl : _ = some (Value.int .i64 R.res))
  have r4 := (HB36.out.cell 4).trans (rfl : _ = some (Value.int .u64 (R.at_ : Int)))
  have k7 := (HB26.out.cell 7).trans (rfl : _ = some (Value.int .u64 (C.at_ : Int)))
  have HGB : Hid (w3.heap.size ≤ g) := hgb
  have HGC : Hid (Blk w6 g 22 ((ownM M).cur.map u64v).toArray) := hgB
  clear how hE hall hcc hcc' hg3 hgb
  cases hso : subOk C with
  | false =>
   have hcv : curV C g = .pointer none := by unfold curV; rw [hso]; rfl
   have HQ : Hid (doesM M C R = none) := by show _ = _; rw [HP.out, if_neg (by rw [hso]; simp)]
   rw [hcv]
   clear hso hcv hgB
   have z0 := (HBG6.out.cell 0).trans (rfl : _ = some (Value.slice none 0 0))
   have z1 := (HBG6.out.cell 1).trans (rfl : _ = some (Value.int .u64 ((0 : Nat) : Int)))
   have z2 := (HBG6.out.cell 2).trans (rfl : _ = some (Value.slice none 0 0))
   have y0 := HBG6.out.free 0
   have y1 := HBG6.out.free 1
   have y2 := HBG6.out.free 2
   have HB9 : Hid (Blk (((w6.setCell ⟨g6, 0, none⟩ (.slice none 0 0)).setCell ⟨g6, 1, none⟩ (.int .u64 0)).setCell ⟨g6, 2, none⟩ (.slice none 0 0)) g6 45 (mdL zMdl (.slice none 0 0) (.slice none 0 0)).toArray) := ((HBG6.out.put 0 (.slice none 0 0)).put 1 (.int .u64 0)).put 2 (.slice none 0 0)
   have HM9 : Hid (Mod (fun b => b = g6) w6 (((w6.setCell ⟨g6, 0, none⟩ (.slice none 0 0)).setCell ⟨g6, 1, none⟩ (.int .u64 0)).setCell ⟨g6, 2, none⟩ (.slice none 0 0))) := Mod.set (S := fun b => b = g6) (Mod.set (S := fun b => b = g6) (Mod.set (S := fun b => b = g6) (Mod.refl _ _) (p := ⟨g6, 0, none⟩) (fun _ => rfl) _) (p := ⟨g6, 1, none⟩) (fun _ => rfl) _) (p := ⟨g6, 2, none⟩) (fun _ => rfl) _
   go_wp2_with fail
   refine bodyPost_ret (results_ct Tryz.results17 _ HB9.out rfl Tryz.underlying45 rfl (info_model rfl)) rfl ?_
   have hg6 := HG6.out
   have hl6 := HL6.out
   refine ⟨⟨_, by rw [HQ.out]; rfl, ?_⟩, HT6.out.trans (HM9.out.to_below HT6.out.size fun b hb e => by omega)⟩
   rw [HQ.out]
   exact zero_mdw _ _
  | true =>
   obtain ⟨k, hk3, hkx⟩ : ∃ k, k < 3 ∧ (C.sub - 1).toNat = k := ⟨(C.sub - 1).toNat, by unfold subOk at hso; simp at hso; omega, rfl⟩
   have hcv : curV C g = .pointer (some ⟨g, k, none⟩) := by unfold curV; rw [hso, hkx]; rfl
   rw [hcv]
   clear hcv
   by_cases h0 : R.res = 0
   ·skip
    have rr : (R.res == 0) = true := beq_iff_eq.2 h0
    have rn : (R.res != 0) = false := by rw [bne, rr]; rfl
    obtain ⟨x, hx⟩ : ∃ x, getC (ownM M) C = x := ⟨_, rfl⟩
    have hxc : (ownM M).cur.getD k 0 = x := by rw [← hx]; unfold getC; rw [hkx]
    have ck := cur_cell HGC.out (k := k) hk3
    rw [hxc] at ck
    have fk := HGC.out.free k
    try rw [hx] at HCT
    obtain ⟨y, hy⟩ : ∃ y, curTo (ownM M) C = y := ⟨_, rfl⟩
    rw [hy] at HCT HP
    have HN : Hid (setC (ownM M) C y = { ownM M with cur := (ownM M).cur.set k y }) := by show _ = _; unfold setC; rw [hkx]
    rw [HN.out] at HP
    have hmx : max (x : Int) (C.at_ : Int) = (y : Int) := by rw [HCT.out]; omega
    have hmx2 : ((max x C.at_ : Nat) : Int) = (y : Int) := by rw [HCT.out]
    have hp7 := HOF6.out.putC k y
    have HOF7 := Lib.hid hp7.1
    have HM7 := Lib.hid hp7.2
    have ck7 := cur_cell HOF7.out.2.1 (k := k) (by rw [HOF7.out.2.2.1]; exact hk3)
    rw [show ({ ownM M with cur := (ownM M).cur.set k y } : Mdl).cur.getD k 0 = y from by simp [List.getElem?_set, ownM, own3, hk3]] at ck7
    clear hp7
    have r47 : (w6.setCell ⟨g, k, none⟩ (.int .u64 (y : Int))).cell? ⟨w.heap.size + 1 + 1, 4, none⟩ = some (.int .u64 (R.at_ : Int)) := ((HB36.out.mod HM7.out fun e => by have := HL6.out; have := HGB.out; omega).cell 4).trans rfl
    have HB1D : Hid (Blk (w6.setCell ⟨g, k, none⟩ (.int .u64 (y : Int))) w.heap.size 45 (mdL ({ ownM M with cur := (ownM M).cur.set k y }) (.slice A E.length c) (.slice (some ⟨g, 0, none⟩) 3 3)).toArray) := HB16.out.mod HM7.out fun e => by have := HL6.out; have := HGB.out; omega
    have HBGD : Hid (Blk (w6.setCell ⟨g, k, none⟩ (.int .u64 (y : Int))) g6 45 (mdL zMdl (.slice none 0 0) (.slice none 0 0)).toArray) := HBG6.out.mod HM7.out fun e => by have := HL6.out; have := HGB.out; omega
    have HTD : Hid (Below w.heap.size w (w6.setCell ⟨g, k, none⟩ (.int .u64 (y : Int)))) := (HT6.out.trans (HM7.out.to_below HT6.out.size fun b hb e => by have := HL6.out; have := HGB.out; omega))
    have HND : Hid (MdW (fun b => w3.heap.size ≤ b) (w6.setCell ⟨g, k, none⟩ (.int .u64 (y : Int))) (.slice A E.length c) (.slice (some ⟨g, 0, none⟩) 3 3) ({ ownM M with cur := (ownM M).cur.set k y })) := HOF7.out.mdw.weak fun b _ h => h.1
    by_cases ha : R.at_ = y
    ·skip
     have a0 : (R.at_ == y) = true := beq_iff_eq.2 ha
     have a1 : ((R.at_ : Int) == (y : Int)) = true := beq_iff_eq.2 (by omega)
     have HQ : Hid (doesM M C R = some ({ ownM M with cur := (ownM M).cur.set k y })) := by show _ = _; rw [HP.out, if_pos ⟨hso, h0⟩, if_pos ha]
     clear ha h0 hso hgB hx hy hxc hk3 hkx
     go_wp2_with fail
     refine PF.b (by kernel_rfl) (fun _ _ _ _ _ h => h) ?_
     refine PF.t 0 (by kernel_rfl) rfl (by go_simp; try rfl) ?_
     try simp only [pz]
     refine PF.t 1 (by kernel_rfl) rfl (by go_simp; try rfl) ?_
     try simp only [pz]
     refine PF.t 2 (by kernel_rfl) rfl (by go_simp; try rfl) ?_
     try simp only [pz]
     refine PF.m 3 (g) (by kernel_rfl) rfl (fun hcu => by go_simp; try rfl) ?_
     try simp only [pz]
     refine PF.t 4 (by kernel_rfl) rfl (by go_simp; try rfl) ?_
     try simp only [pz]
     refine PF.m 5 ((w.heap.size+1)) (by kernel_rfl) rfl (fun hcu => by go_simp; try rfl) ?_
     try simp only [pz]
     refine PF.t 6 (by kernel_rfl) rfl (by go_simp; try rfl) ?_
     try simp only [pz]
     refine PF.t 7 (by kernel_rfl) rfl (by go_simp; try rfl) ?_
     try simp only [pz]
     refine PF.e 8 (by kernel_rfl) rfl fun K hK => ?_
     go_simp
     refine hK (by repeat (first | exact PF.n | refine PF.l ?_ | refine PF.o (by decide +kernel) ?_ | refine PF.y (by first | rfl | assumption | go_simp) ?_)) ?_
     clear hK K
     try simp only [pz]
     refine PF.d (by kernel_rfl) ?_
     go_wp2_with fail
     refine PF.b (by kernel_rfl) (fun _ _ _ _ _ h => h) ?_
     refine PF.t 0 (by kernel_rfl) rfl (by go_simp; try rfl) ?_
     try simp only [pz]
     refine PF.m 1 ((w.heap.size+1+1)) (by kernel_rfl) rfl (fun hcu => by go_simp; try rfl) ?_
     try simp only [pz]
     refine PF.t 2 (by kernel_rfl) rfl (by go_simp; try rfl) ?_
     try simp only [pz]
     refine PF.t 3 (by kernel_rfl) rfl (by go_simp; try rfl) ?_
     try simp only [pz]
     refine PF.m 4 (g) (by kernel_rfl) rfl (fun hcu => by go_simp; try rfl) ?_
     try simp only [pz]
     refine PF.t 5 (by kernel_rfl) rfl (by go_simp; try rfl) ?_
     try simp only [pz]
     refine PF.t 6 (by kernel_rfl) rfl (by go_simp; try rfl) ?_
     try simp only [pz]
     refine PF.d (by kernel_rfl) ?_
     have b0 := (HB1D.out.cell 0).trans (rfl : _ = some (Value.slice A E.length c))
     have b1 := (HB1D.out.cell 1).trans (rfl : _ = some (Value.int .u64 (M.trim : Int)))
     have b2 := (HB1D.out.cell 2).trans (rfl : _ = some (Value.slice (some ⟨g, 0, none⟩) 3 3))
     have z0 := (HBGD.out.cell 0).trans (rfl : _ = some (Value.slice none 0 0))
     have z1 := (HBGD.out.cell 1).trans (rfl : _ = some (Value.int .u64 ((0 : Nat) : Int)))
     have z2 := (HBGD.out.cell 2).trans (rfl : _ = some (Value.slice none 0 0))
     have y0 := HBGD.out.free 0
     have y1 := HBGD.out.free 1
     have y2 := HBGD.out.free 2
     have HB9 : Hid (Blk ((((w6.setCell ⟨g, k, none⟩ (.int .u64 (y : Int))).setCell ⟨g6, 0, none⟩ (Value.slice A E.length c)).setCell ⟨g6, 1, none⟩ (.int .u64 (M.trim : Int))).setCell ⟨g6, 2, none⟩ (Value.slice (some ⟨g, 0, none⟩) 3 3)) g6 45 (mdL ({ ownM M with cur := (ownM M).cur.set k y }) (Value.slice A E.length c) (Value.slice (some ⟨g, 0, none⟩) 3 3)).toArray) := ((HBGD.out.put 0 (Value.slice A E.length c)).put 1 (.int .u64 (M.trim : Int))).put 2 (Value.slice (some ⟨g, 0, none⟩) 3 3)
     have HM9 : Hid (Mod (fun b => b = g6) (w6.setCell ⟨g, k, none⟩ (.int .u64 (y : Int))) ((((w6.setCell ⟨g, k, none⟩ (.int .u64 (y : Int))).setCell ⟨g6, 0, none⟩ (Value.slice A E.length c)).setCell ⟨g6, 1, none⟩ (.int .u64 (M.trim : Int))).setCell ⟨g6, 2, none⟩ (Value.slice (some ⟨g, 0, none⟩) 3 3))) := Mod.set (S := fun b => b = g6) (Mod.set (S := fun b => b = g6) (Mod.set (S := fun b => b = g6) (Mod.refl _ _) (p := ⟨g6, 0, none⟩) (fun _ => rfl) _) (p := ⟨g6, 1, none⟩) (fun _ => rfl) _) (p := ⟨g6, 2, none⟩) (fun _ => rfl) _
     go_wp2_with fail
     refine bodyPost_ret (results_ct Tryz.results17 _ HB9.out.drew.drew rfl Tryz.underlying45 rfl (info_model rfl)) rfl ?_
     have hg6 := HG6.out
     have hl6 := HL6.out
     refine ⟨⟨_, by rw [HQ.out]; rfl, ?_⟩, HTD.out.trans (HM9.out.drew.drew.to_below HTD.out.size fun b hb e => by omega)⟩
     rw [HQ.out]
     exact ⟨_, _, rfl, (HND.out.mod HM9.out.drew.drew fun b hb e => by have hb : w3.heap.size ≤ b := hb; omega).weak fun b _ hb => by have hb : w3.heap.size ≤ b := hb; show _ ≤ _; omega⟩
    ·skip
     have a0 : (R.at_ == y) = false := beq_eq_false_iff_ne.2 ha
     have a1 : ((R.at_ : Int) == (y : Int)) = false := beq_eq_false_iff_ne.2 (by omega)
     have HQ : Hid (doesM M C R = none) := by show _ = _; rw [HP.out, if_pos ⟨hso, h0⟩, if_neg ha]
     clear ha h0 hso hgB hx hy hxc hk3 hkx
     go_wp2_with fail
     refine PF.b (by kernel_rfl) (fun _ _ _ _ _ h => h) ?_
     refine PF.t 0 (by kernel_rfl) rfl (by go_simp; try rfl) ?_
     try simp only [pz]
     refine PF.t 1 (by kernel_rfl) rfl (by go_simp; try rfl) ?_
     try simp only [pz]
     refine PF.t 2 (by kernel_rfl) rfl (by go_simp; try rfl) ?_
     try simp only [pz]
     refine PF.m 3 (g) (by kernel_rfl) rfl (fun hcu => by go_simp; try rfl) ?_
     try simp only [pz]
     refine PF.t 4 (by kernel_rfl) rfl (by go_simp; try rfl) ?_
     try simp only [pz]
     refine PF.m 5 ((w.heap.size+1)) (by kernel_rfl) rfl (fun hcu => by go_simp; try rfl) ?_
     try simp only [pz]
     refine PF.t 6 (by kernel_rfl) rfl (by go_simp; try rfl) ?_
     try simp only [pz]
     refine PF.t 7 (by kernel_rfl) rfl (by go_simp; try rfl) ?_
     try simp only [pz]
     refine PF.e 8 (by kernel_rfl) rfl fun K hK => ?_
     go_simp
     refine hK (by repeat (first | exact PF.n | refine PF.l ?_ | refine PF.o (by decide +kernel) ?_ | refine PF.y (by first | rfl | assumption | go_simp) ?_)) ?_
     clear hK K
     try simp only [pz]
     refine PF.d (by kernel_rfl) ?_
     go_wp2_with fail
     refine PF.b (by kernel_rfl) (fun _ _ _ _ _ h => h) ?_
     refine PF.t 0 (by kernel_rfl) rfl (by go_simp; try rfl) ?_
     try simp only [pz]
     refine PF.m 1 ((w.heap.size+1+1)) (by kernel_rfl) rfl (fun hcu => by go_simp; try rfl) ?_
     try simp only [pz]
     refine PF.t 2 (by kernel_rfl) rfl (by go_simp; try rfl) ?_
     try simp only [pz]
     refine PF.t 3 (by kernel_rfl) rfl (by go_simp; try rfl) ?_
     try simp only [pz]
     refine PF.m 4 (g) (by kernel_rfl) rfl (fun hcu => by go_simp; try rfl) ?_
     try simp only [pz]
     refine PF.t 5 (by kernel_rfl) rfl (by go_simp; try rfl) ?_
     try simp only [pz]
     refine PF.t 6 (by kernel_rfl) rfl (by go_simp; try rfl) ?_
     try simp only [pz]
     refine PF.d (by kernel_rfl) ?_
     have z0 := (HBGD.out.cell 0).trans (rfl : _ = some (Value.slice none 0 0))
     have z1 := (HBGD.out.cell 1).trans (rfl : _ = some (Value.int .u64 ((0 : Nat) : Int)))
     have z2 := (HBGD.out.cell 2).trans (rfl : _ = some (Value.slice none 0 0))
     have y0 := HBGD.out.free 0
     have y1 := HBGD.out.free 1
     have y2 := HBGD.out.free 2
     have HB9 : Hid (Blk ((((w6.setCell ⟨g, k, none⟩ (.int .u64 (y : Int))).setCell ⟨g6, 0, none⟩ (.slice none 0 0)).setCell ⟨g6, 1, none⟩ (.int .u64 0)).setCell ⟨g6, 2, none⟩ (.slice none 0 0)) g6 45 (mdL zMdl (.slice none 0 0) (.slice none 0 0)).toArray) := ((HBGD.out.put 0 (.slice none 0 0)).put 1 (.int .u64 0)).put 2 (.slice none 0 0)
     have HM9 : Hid (Mod (fun b => b = g6) (w6.setCell ⟨g, k, none⟩ (.int .u64 (y : Int))) ((((w6.setCell ⟨g, k, none⟩ (.int .u64 (y : Int))).setCell ⟨g6, 0, none⟩ (.slice none 0 0)).setCell ⟨g6, 1, none⟩ (.int .u64 0)).setCell ⟨g6, 2, none⟩ (.slice none 0 0))) := Mod.set (S := fun b => b = g6) (Mod.set (S := fun b => b = g6) (Mod.set (S := fun b => b = g6) (Mod.refl _ _) (p := ⟨g6, 0, none⟩) (fun _ => rfl) _) (p := ⟨g6, 1, none⟩) (fun _ => rfl) _) (p := ⟨g6, 2, none⟩) (fun _ => rfl) _
     go_wp2_with fail
     refine bodyPost_ret (results_ct Tryz.results17 _ HB9.out.drew.drew rfl Tryz.underlying45 rfl (info_model rfl)) rfl ?_
     have hg6 := HG6.out
     have hl6 := HL6.out
     refine ⟨⟨_, by rw [HQ.out]; rfl, ?_⟩, HTD.out.trans (HM9.out.drew.drew.to_below HTD.out.size fun b hb e => by omega)⟩
     rw [HQ.out]
     exact zero_mdw _ _
   ·skip
    have rr : (R.res == 0) = false := beq_eq_false_iff_ne.2 h0
    have rn : (R.res != 0) = true := by rw [bne, rr]; rfl
    have HQ : Hid (doesM M C R = none) := by show _ = _; rw [HP.out, if_neg (fun h => h0 h.2)]
    clear h0 hso hgB hk3 hkx
    have z0 := (HBG6.out.cell 0).trans (rfl : _ = some (Value.slice none 0 0))
    have z1 := (HBG6.out.cell 1).trans (rfl : _ = some (Value.int .u64 ((0 : Nat) : Int)))
    have z2 := (HBG6.out.cell 2).trans (rfl : _ = some (Value.slice none 0 0))
    have y0 := HBG6.out.free 0
    have y1 := HBG6.out.free 1
    have y2 := HBG6.out.free 2
    have HB9 : Hid (Blk (((w6.setCell ⟨g6, 0, none⟩ (.slice none 0 0)).setCell ⟨g6, 1, none⟩ (.int .u64 0)).setCell ⟨g6, 2, none⟩ (.slice none 0 0)) g6 45 (mdL zMdl (.slice none 0 0) (.slice none 0 0)).toArray) := ((HBG6.out.put 0 (.slice none 0 0)).put 1 (.int .u64 0)).put 2 (.slice none 0 0)
    have HM9 : Hid (Mod (fun b => b = g6) w6 (((w6.setCell ⟨g6, 0, none⟩ (.slice none 0 0)).setCell ⟨g6, 1, none⟩ (.int .u64 0)).setCell ⟨g6, 2, none⟩ (.slice none 0 0))) := Mod.set (S := fun b => b = g6) (Mod.set (S := fun b => b = g6) (Mod.set (S := fun b => b = g6) (Mod.refl _ _) (p := ⟨g6, 0, none⟩) (fun _ => rfl) _) (p := ⟨g6, 1, none⟩) (fun _ => rfl) _) (p := ⟨g6, 2, none⟩) (fun _ => rfl) _
    go_wp2_with fail
    refine bodyPost_ret (results_ct Tryz.results17 _ HB9.out rfl Tryz.underlying45 rfl (info_model rfl)) rfl ?_
    have hg6 := HG6.out
    have hl6 := HL6.out
    refine ⟨⟨_, by rw [HQ.out]; rfl, ?_⟩, HT6.out.trans (HM9.out.to_below HT6.out.size fun b hb e => by omega)⟩
    rw [HQ.out]
    exact zero_mdw _ _
 ·have HP : Hid (doesM M C R = if subOk C = true ∧ R.res = 0 then (if R.at_ = curTo (ownM M) C then some (setC (ownM M) C (curTo (ownM M) C)) else none) else none) := by show _ = _; rw [HD.out]; unfold doesO; rw [if_neg (by omega), if_neg (by omega), if_neg (by omega), if_pos (by omega)]
  have p1 : (C.kind == 1) = false := beq_eq_false_iff_ne.2 (by omega)
  have p2 : (C.kind == 2) = false := beq_eq_false_iff_ne.2 (by omega)
  have p3 : (C.kind == 3) = false := beq_eq_false_iff_ne.2 (by omega)
  have p4 : (C.kind == 4) = false := beq_eq_false_iff_ne.2 (by omega)
  have p5 : (C.kind == 5) = true := beq_iff_eq.2 hk
  have HCT : Hid (curTo (ownM M) C = C.at_) := by show _ = _; unfold curTo; rw [if_neg (by omega), if_pos hk]
  clear hk
  obtain ⟨⟨E, how, hE, hall⟩, hgB, hg3, hgb, _⟩ := id HOF6.out
  obtain ⟨A, c, rfl, hcc, hcc'⟩ := own_slice how
  have r3 := (HB36.out.cell 3).trans (rfl : _ = some (Value.int .i64 R.res))
  have r4 := (HB36.out.cell 4).trans (rfl : _ = some (Value.int .u64 (R.at_ : Int)))
  have k7 := (HB26.out.cell 7).trans (rfl : _ = some (Value.int .u64 (C.at_ : Int)))
  have HGB : Hid (w3.heap.size ≤ g) := hgb
  have HGC : Hid (Blk w6 g 22 ((ownM M).cur.map u64v).toArray) := hgB
  clear how hE hall hcc hcc' hg3 hgb
  cases hso : subOk C with
  | false =>
   have hcv : curV C g = .pointer none := by unfold curV; rw [hso]; rfl
   have HQ : Hid (doesM M C R = none) := by show _ = _; rw [HP.out, if_neg (by rw [hso]; simp)]
   rw [hcv]
   clear hso hcv hgB
   have z0 := (HBG6.out.cell 0).trans (rfl : _ = some (Value.slice none 0 0))
   have z1 := (HBG6.out.cell 1).trans (rfl : _ = some (Value.int .u64 ((0 : Nat) : Int)))
   have z2 := (HBG6.out.cell 2).trans (rfl : _ = some (Value.slice none 0 0))
   have y0 := HBG6.out.free 0
   have y1 := HBG6.out.free 1
   have y2 := HBG6.out.free 2
   have HB9 : Hid (Blk (((w6.setCell ⟨g6, 0, none⟩ (.slice none 0 0)).setCell ⟨g6, 1, none⟩ (.int .u64 0)).setCell ⟨g6, 2, none⟩ (.slice none 0 0)) g6 45 (mdL zMdl (.slice none 0 0) (.slice none 0 0)).toArray) := ((HBG6.out.put 0 (.slice none 0 0)).put 1 (.int .u64 0)).put 2 (.slice none 0 0)
   have HM9 : Hid (Mod (fun b => b = g6) w6 (((w6.setCell ⟨g6, 0, none⟩ (.slice none 0 0)).setCell ⟨g6, 1, none⟩ (.int .u64 0)).setCell ⟨g6, 2, none⟩ (.slice none 0 0))) := Mod.set (S := fun b => b = g6) (Mod.set (S := fun b => b = g6) (Mod.set (S := fun b => b = g6) (Mod.refl _ _) (p := ⟨g6, 0, none⟩) (fun _ => rfl) _) (p := ⟨g6, 1, none⟩) (fun _ => rfl) _) (p := ⟨g6, 2, none⟩) (fun _ => rfl) _
   go_wp2_with fail
   refine bodyPost_ret (results_ct Tryz.results17 _ HB9.out rfl Tryz.underlying45 rfl (info_model rfl)) rfl ?_
   have hg6 := HG6.out
   have hl6 := HL6.out
   refine ⟨⟨_, by rw [HQ.out]; rfl, ?_⟩, HT6.out.trans (HM9.out.to_below HT6.out.size fun b hb e => by omega)⟩
   rw [HQ.out]
   exact zero_mdw _ _
  | true =>
   obtain ⟨k, hk3, hkx⟩ : ∃ k, k < 3 ∧ (C.sub - 1).toNat = k := ⟨(C.sub - 1).toNat, by unfold subOk at hso; simp at hso; omega, rfl⟩
   have hcv : curV C g = .pointer (some ⟨g, k, none⟩) := by unfold curV; rw [hso, hkx]; rfl
   rw [hcv]
   clear hcv
   by_cases h0 : R.res = 0
   ·skip
    have rr : (R.res == 0) = true := beq_iff_eq.2 h0
    have rn : (R.res != 0) = false := by rw [bne, rr]; rfl
    obtain ⟨x, hx⟩ : ∃ x, getC (ownM M) C = x := ⟨_, rfl⟩
    have hxc : (ownM M).cur.getD k 0 = x := by rw [← hx]; unfold getC; rw [hkx]
    have ck := cur_cell HGC.out (k := k) hk3
    rw [hxc] at ck
    have fk := HGC.out.free k
    try rw [hx] at HCT
    obtain ⟨y, hy⟩ : ∃ y, curTo (ownM M) C = y := ⟨_, rfl⟩
    rw [hy] at HCT HP
    have HN : Hid (setC (ownM M) C y = { ownM M with cur := (ownM M).cur.set k y }) := by show _ = _; unfold setC; rw [hkx]
    rw [HN.out] at HP
    obtain rfl : y = C.at_ := HCT.out
    have hp7 := HOF6.out.putC k C.at_
    have HOF7 := Lib.hid hp7.1
    have HM7 := Lib.hid hp7.2
    have ck7 := cur_cell HOF7.out.2.1 (k := k) (by rw [HOF7.out.2.2.1]; exact hk3)
    rw [show ({ ownM M with cur := (ownM M).cur.set k C.at_ } : Mdl).cur.getD k 0 = C.at_ from by simp [List.getElem?_set, ownM, own3, hk3]] at ck7
    clear hp7
    have r47 : (w6.setCell ⟨g, k, none⟩ (.int .u64 (C.at_ : Int))).cell? ⟨w.heap.size + 1 + 1, 4, none⟩ = some (.int .u64 (R.at_ : Int)) := ((HB36.out.mod HM7.out fun e => by have := HL6.out; have := HGB.out; omega).cell 4).trans rfl
    have HB1D : Hid (Blk (w6.setCell ⟨g, k, none⟩ (.int .u64 (C.at_ : Int))) w.heap.size 45 (mdL ({ ownM M with cur := (ownM M).cur.set k C.at_ }) (.slice A E.length c) (.slice (some ⟨g, 0, none⟩) 3 3)).toArray) := HB16.out.mod HM7.out fun e => by have := HL6.out; have := HGB.out; omega
    have HBGD : Hid (Blk (w6.setCell ⟨g, k, none⟩ (.int .u64 (C.at_ : Int))) g6 45 (mdL zMdl (.slice none 0 0) (.slice none 0 0)).toArray) := HBG6.out.mod HM7.out fun e => by have := HL6.out; have := HGB.out; omega
    have HTD : Hid (Below w.heap.size w (w6.setCell ⟨g, k, none⟩ (.int .u64 (C.at_ : Int)))) := (HT6.out.trans (HM7.out.to_below HT6.out.size fun b hb e => by have := HL6.out; have := HGB.out; omega))
    have HND : Hid (MdW (fun b => w3.heap.size ≤ b) (w6.setCell ⟨g, k, none⟩ (.int .u64 (C.at_ : Int))) (.slice A E.length c) (.slice (some ⟨g, 0, none⟩) 3 3) ({ ownM M with cur := (ownM M).cur.set k C.at_ })) := HOF7.out.mdw.weak fun b _ h => h.1
    by_cases ha : R.at_ = C.at_
    ·skip
     have a0 : (R.at_ == C.at_) = true := beq_iff_eq.2 ha
     have a1 : ((R.at_ : Int) == (C.at_ : Int)) = true := beq_iff_eq.2 (by omega)
     have HQ : Hid (doesM M C R = some ({ ownM M with cur := (ownM M).cur.set k C.at_ })) := by show _ = _; rw [HP.out, if_pos ⟨hso, h0⟩, if_pos ha]
     clear ha h0 hso hgB hx hy hxc hk3 hkx
     go_wp2_with fail
     refine PF.b (by kernel_rfl) (fun _ _ _ _ _ h => h) ?_
     refine PF.t 0 (by kernel_rfl) rfl (by go_simp; try rfl) ?_
     try simp only [pz]
     refine PF.m 1 ((w.heap.size+1+1)) (by kernel_rfl) rfl (fun hcu => by go_simp; try rfl) ?_
     try simp only [pz]
     refine PF.t 2 (by kernel_rfl) rfl (by go_simp; try rfl) ?_
     try simp only [pz]
     refine PF.t 3 (by kernel_rfl) rfl (by go_simp; try rfl) ?_
     try simp only [pz]
     refine PF.m 4 (g) (by kernel_rfl) rfl (fun hcu => by go_simp; try rfl) ?_
     try simp only [pz]
     refine PF.t 5 (by kernel_rfl) rfl (by go_simp; try rfl) ?_
     try simp only [pz]
     refine PF.t 6 (by kernel_rfl) rfl (by go_simp; try rfl) ?_
     try simp only [pz]
     refine PF.d (by kernel_rfl) ?_
     have b0 := (HB1D.out.cell 0).trans (rfl : _ = some (Value.slice A E.length c))
     have b1 := (HB1D.out.cell 1).trans (rfl : _ = some (Value.int .u64 (M.trim : Int)))
     have b2 := (HB1D.out.cell 2).trans (rfl : _ = some (Value.slice (some ⟨g, 0, none⟩) 3 3))
     have z0 := (HBGD.out.cell 0).trans (rfl : _ = some (Value.slice none 0 0))
     have z1 := (HBGD.out.cell 1).trans (rfl : _ = some (Value.int .u64 ((0 : Nat) : Int)))
     have z2 := (HBGD.out.cell 2).trans (rfl : _ = some (Value.slice none 0 0))
     have y0 := HBGD.out.free 0
     have y1 := HBGD.out.free 1
     have y2 := HBGD.out.free 2
     have HB9 : Hid (Blk ((((w6.setCell ⟨g, k, none⟩ (.int .u64 (C.at_ : Int))).setCell ⟨g6, 0, none⟩ (Value.slice A E.length c)).setCell ⟨g6, 1, none⟩ (.int .u64 (M.trim : Int))).setCell ⟨g6, 2, none⟩ (Value.slice (some ⟨g, 0, none⟩) 3 3)) g6 45 (mdL ({ ownM M with cur := (ownM M).cur.set k C.at_ }) (Value.slice A E.length c) (Value.slice (some ⟨g, 0, none⟩) 3 3)).toArray) := ((HBGD.out.put 0 (Value.slice A E.length c)).put 1 (.int .u64 (M.trim : Int))).put 2 (Value.slice (some ⟨g, 0, none⟩) 3 3)
     have HM9 : Hid (Mod (fun b => b = g6) (w6.setCell ⟨g, k, none⟩ (.int .u64 (C.at_ : Int))) ((((w6.setCell ⟨g, k, none⟩ (.int .u64 (C.at_ : Int))).setCell ⟨g6, 0, none⟩ (Value.slice A E.length c)).setCell ⟨g6, 1, none⟩ (.int .u64 (M.trim : Int))).setCell ⟨g6, 2, none⟩ (Value.slice (some ⟨g, 0, none⟩) 3 3))) := Mod.set (S := fun b => b = g6) (Mod.set (S := fun b => b = g6) (Mod.set (S := fun b => b = g6) (Mod.refl _ _) (p := ⟨g6, 0, none⟩) (fun _ => rfl) _) (p := ⟨g6, 1, none⟩) (fun _ => rfl) _) (p := ⟨g6, 2, none⟩) (fun _ => rfl) _
     go_wp2_with fail
     refine bodyPost_ret (results_ct Tryz.results17 _ HB9.out.drew rfl Tryz.underlying45 rfl (info_model rfl)) rfl ?_
     have hg6 := HG6.out
     have hl6 := HL6.out
     refine ⟨⟨_, by rw [HQ.out]; rfl, ?_⟩, HTD.out.trans (HM9.out.drew.to_below HTD.out.size fun b hb e => by omega)⟩
     rw [HQ.out]
     exact ⟨_, _, rfl, (HND.out.mod HM9.out.drew fun b hb e => by have hb : w3.heap.size ≤ b := hb; omega).weak fun b _ hb => by have hb : w3.heap.size ≤ b := hb; show _ ≤ _; omega⟩
    ·skip
     have a0 : (R.at_ == C.at_) = false := beq_eq_false_iff_ne.2 ha
     have a1 : ((R.at_ : Int) == (C.at_ : Int)) = false := beq_eq_false_iff_ne.2 (by omega)
     have HQ : Hid (doesM M C R = none) := by show _ = _; rw [HP.out, if_pos ⟨hso, h0⟩, if_neg ha]
     clear ha h0 hso hgB hx hy hxc hk3 hkx
     go_wp2_with fail
     refine PF.b (by kernel_rfl) (fun _ _ _ _ _ h => h) ?_
     refine PF.t 0 (by kernel_rfl) rfl (by go_simp; try rfl) ?_
     try simp only [pz]
     refine PF.m 1 ((w.heap.size+1+1)) (by kernel_rfl) rfl (fun hcu => by go_simp; try rfl) ?_
     try simp only [pz]
     refine PF.t 2 (by kernel_rfl) rfl (by go_simp; try rfl) ?_
     try simp only [pz]
     refine PF.t 3 (by kernel_rfl) rfl (by go_simp; try rfl) ?_
     try simp only [pz]
     refine PF.m 4 (g) (by kernel_rfl) rfl (fun hcu => by go_simp; try rfl) ?_
     try simp only [pz]
     refine PF.t 5 (by kernel_rfl) rfl (by go_simp; try rfl) ?_
     try simp only [pz]
     refine PF.t 6 (by kernel_rfl) rfl (by go_simp; try rfl) ?_
     try simp only [pz]
     refine PF.d (by kernel_rfl) ?_
     have z0 := (HBGD.out.cell 0).trans (rfl : _ = some (Value.slice none 0 0))
     have z1 := (HBGD.out.cell 1).trans (rfl : _ = some (Value.int .u64 ((0 : Nat) : Int)))
     have z2 := (HBGD.out.cell 2).trans (rfl : _ = some (Value.slice none 0 0))
     have y0 := HBGD.out.free 0
     have y1 := HBGD.out.free 1
     have y2 := HBGD.out.free 2
     have HB9 : Hid (Blk ((((w6.setCell ⟨g, k, none⟩ (.int .u64 (C.at_ : Int))).setCell ⟨g6, 0, none⟩ (.slice none 0 0)).setCell ⟨g6, 1, none⟩ (.int .u64 0)).setCell ⟨g6, 2, none⟩ (.slice none 0 0)) g6 45 (mdL zMdl (.slice none 0 0) (.slice none 0 0)).toArray) := ((HBGD.out.put 0 (.slice none 0 0)).put 1 (.int .u64 0)).put 2 (.slice none 0 0)
     have HM9 : Hid (Mod (fun b => b = g6) (w6.setCell ⟨g, k, none⟩ (.int .u64 (C.at_ : Int))) ((((w6.setCell ⟨g, k, none⟩ (.int .u64 (C.at_ : Int))).setCell ⟨g6, 0, none⟩ (.slice none 0 0)).setCell ⟨g6, 1, none⟩ (.int .u64 0)).setCell ⟨g6, 2, none⟩ (.slice none 0 0))) := Mod.set (S := fun b => b = g6) (Mod.set (S := fun b => b = g6) (Mod.set (S := fun b => b = g6) (Mod.refl _ _) (p := ⟨g6, 0, none⟩) (fun _ => rfl) _) (p := ⟨g6, 1, none⟩) (fun _ => rfl) _) (p := ⟨g6, 2, none⟩) (fun _ => rfl) _
     go_wp2_with fail
     refine bodyPost_ret (results_ct Tryz.results17 _ HB9.out.drew rfl Tryz.underlying45 rfl (info_model rfl)) rfl ?_
     have hg6 := HG6.out
     have hl6 := HL6.out
     refine ⟨⟨_, by rw [HQ.out]; rfl, ?_⟩, HTD.out.trans (HM9.out.drew.to_below HTD.out.size fun b hb e => by omega)⟩
     rw [HQ.out]
     exact zero_mdw _ _
   ·skip
    have rr : (R.res == 0) = false := beq_eq_false_iff_ne.2 h0
    have rn : (R.res != 0) = true := by rw [bne, rr]; rfl
    have HQ : Hid (doesM M C R = none) := by show _ = _; rw [HP.out, if_neg (fun h => h0 h.2)]
    clear h0 hso hgB hk3 hkx
    have z0 := (HBG6.out.cell 0).trans (rfl : _ = some (Value.slice none 0 0))
    have z1 := (HBG6.out.cell 1).trans (rfl : _ = some (Value.int .u64 ((0 : Nat) : Int)))
    have z2 := (HBG6.out.cell 2).trans (rfl : _ = some (Value.slice none 0 0))
    have y0 := HBG6.out.free 0
    have y1 := HBG6.out.free 1
    have y2 := HBG6.out.free 2
    have HB9 : Hid (Blk (((w6.setCell ⟨g6, 0, none⟩ (.slice none 0 0)).setCell ⟨g6, 1, none⟩ (.int .u64 0)).setCell ⟨g6, 2, none⟩ (.slice none 0 0)) g6 45 (mdL zMdl (.slice none 0 0) (.slice none 0 0)).toArray) := ((HBG6.out.put 0 (.slice none 0 0)).put 1 (.int .u64 0)).put 2 (.slice none 0 0)
    have HM9 : Hid (Mod (fun b => b = g6) w6 (((w6.setCell ⟨g6, 0, none⟩ (.slice none 0 0)).setCell ⟨g6, 1, none⟩ (.int .u64 0)).setCell ⟨g6, 2, none⟩ (.slice none 0 0))) := Mod.set (S := fun b => b = g6) (Mod.set (S := fun b => b = g6) (Mod.set (S := fun b => b = g6) (Mod.refl _ _) (p := ⟨g6, 0, none⟩) (fun _ => rfl) _) (p := ⟨g6, 1, none⟩) (fun _ => rfl) _) (p := ⟨g6, 2, none⟩) (fun _ => rfl) _
    go_wp2_with fail
    refine bodyPost_ret (results_ct Tryz.results17 _ HB9.out rfl Tryz.underlying45 rfl (info_model rfl)) rfl ?_
    have hg6 := HG6.out
    have hl6 := HL6.out
    refine ⟨⟨_, by rw [HQ.out]; rfl, ?_⟩, HT6.out.trans (HM9.out.to_below HT6.out.size fun b hb e => by omega)⟩
    rw [HQ.out]
    exact zero_mdw _ _
 ·have HP : Hid (doesM M C R = if subOk C = true ∧ R.res = 0 then (if R.at_ = curTo (ownM M) C then some (setC (ownM M) C (curTo (ownM M) C)) else none) else none) := by show _ = _; rw [HD.out]; unfold doesO; rw [if_neg (by omega), if_neg (by omega), if_neg (by omega), if_pos (by omega)]
  have p1 : (C.kind == 1) = false := beq_eq_false_iff_ne.2 (by omega)
  have p2 : (C.kind == 2) = false := beq_eq_false_iff_ne.2 (by omega)
  have p3 : (C.kind == 3) = false := beq_eq_false_iff_ne.2 (by omega)
  have p4 : (C.kind == 4) = false := beq_eq_false_iff_ne.2 (by omega)
  have p5 : (C.kind == 5) = false := beq_eq_false_iff_ne.2 (by omega)
  have p6 : (C.kind == 6) = true := beq_iff_eq.2 hk
  have HCT : Hid (curTo (ownM M) C = getC (ownM M) C) := by show _ = _; unfold curTo; rw [if_neg (by omega), if_neg (by omega)]
  clear hk
  obtain ⟨⟨E, how, hE, hall⟩, hgB, hg3, hgb, _⟩ := id HOF6.out
  obtain ⟨A, c, rfl, hcc, hcc'⟩ := own_slice how
  have r3 := (HB36.out.cell 3).trans (rfl : _ = some (Value.int .i64 R.res))
  have r4 := (HB36.out.cell 4).trans (rfl : _ = some (Value.int .u64 (R.at_ : Int)))
  have k7 := (HB26.out.cell 7).trans (rfl : _ = some (Value.int .u64 (C.at_ : Int)))
  have HGB : Hid (w3.heap.size ≤ g) := hgb
  have HGC : Hid (Blk w6 g 22 ((ownM M).cur.map u64v).toArray) := hgB
  clear how hE hall hcc hcc' hg3 hgb
  cases hso : subOk C with
  | false =>
   have hcv : curV C g = .pointer none := by unfold curV; rw [hso]; rfl
   have HQ : Hid (doesM M C R = none) := by show _ = _; rw [HP.out, if_neg (by rw [hso]; simp)]
   rw [hcv]
   clear hso hcv hgB
   have z0 := (HBG6.out.cell 0).trans (rfl : _ = some (Value.slice none 0 0))
   have z1 := (HBG6.out.cell 1).trans (rfl : _ = some (Value.int .u64 ((0 : Nat) : Int)))
   have z2 := (HBG6.out.cell 2).trans (rfl : _ = some (Value.slice none 0 0))
   have y0 := HBG6.out.free 0
   have y1 := HBG6.out.free 1
   have y2 := HBG6.out.free 2
   have HB9 : Hid (Blk (((w6.setCell ⟨g6, 0, none⟩ (.slice none 0 0)).setCell ⟨g6, 1, none⟩ (.int .u64 0)).setCell ⟨g6, 2, none⟩ (.slice none 0 0)) g6 45 (mdL zMdl (.slice none 0 0) (.slice none 0 0)).toArray) := ((HBG6.out.put 0 (.slice none 0 0)).put 1 (.int .u64 0)).put 2 (.slice none 0 0)
   have HM9 : Hid (Mod (fun b => b = g6) w6 (((w6.setCell ⟨g6, 0, none⟩ (.slice none 0 0)).setCell ⟨g6, 1, none⟩ (.int .u64 0)).setCell ⟨g6, 2, none⟩ (.slice none 0 0))) := Mod.set (S := fun b => b = g6) (Mod.set (S := fun b => b = g6) (Mod.set (S := fun b => b = g6) (Mod.refl _ _) (p := ⟨g6, 0, none⟩) (fun _ => rfl) _) (p := ⟨g6, 1, none⟩) (fun _ => rfl) _) (p := ⟨g6, 2, none⟩) (fun _ => rfl) _
   go_wp2_with fail
   refine bodyPost_ret (results_ct Tryz.results17 _ HB9.out rfl Tryz.underlying45 rfl (info_model rfl)) rfl ?_
   have hg6 := HG6.out
   have hl6 := HL6.out
   refine ⟨⟨_, by rw [HQ.out]; rfl, ?_⟩, HT6.out.trans (HM9.out.to_below HT6.out.size fun b hb e => by omega)⟩
   rw [HQ.out]
   exact zero_mdw _ _
  | true =>
   obtain ⟨k, hk3, hkx⟩ : ∃ k, k < 3 ∧ (C.sub - 1).toNat = k := ⟨(C.sub - 1).toNat, by unfold subOk at hso; simp at hso; omega, rfl⟩
   have hcv : curV C g = .pointer (some ⟨g, k, none⟩) := by unfold curV; rw [hso, hkx]; rfl
   rw [hcv]
   clear hcv
   by_cases h0 : R.res = 0
   ·skip
    have rr : (R.res == 0) = true := beq_iff_eq.2 h0
    have rn : (R.res != 0) = false := by rw [bne, rr]; rfl
    obtain ⟨x, hx⟩ : ∃ x, getC (ownM M) C = x := ⟨_, rfl⟩
    have hxc : (ownM M).cur.getD k 0 = x := by rw [← hx]; unfold getC; rw [hkx]
    have ck := cur_cell HGC.out (k := k) hk3
    rw [hxc] at ck
    have fk := HGC.out.free k
    try rw [hx] at HCT
    obtain ⟨y, hy⟩ : ∃ y, curTo (ownM M) C = y := ⟨_, rfl⟩
    rw [hy] at HCT HP
    have HN : Hid (setC (ownM M) C y = { ownM M with cur := (ownM M).cur.set k y }) := by show _ = _; unfold setC; rw [hkx]
    rw [HN.out] at HP
    obtain rfl : y = x := HCT.out
    have hset : ({ ownM M with cur := (ownM M).cur.set k y } : Mdl) = ownM M := by rw [← hxc, set_same]
    rw [hset] at HP
    have HOF7 := HOF6
    have HM7 : Hid (Mod (fun b => b = g) w6 w6) := Mod.refl _ _
    have r47 : w6.cell? ⟨w.heap.size + 1 + 1, 4, none⟩ = some (.int .u64 (R.at_ : Int)) := ((HB36.out.mod HM7.out fun e => by have := HL6.out; have := HGB.out; omega).cell 4).trans rfl
    have HB1D : Hid (Blk w6 w.heap.size 45 (mdL (ownM M) (.slice A E.length c) (.slice (some ⟨g, 0, none⟩) 3 3)).toArray) := HB16.out.mod HM7.out fun e => by have := HL6.out; have := HGB.out; omega
    have HBGD : Hid (Blk w6 g6 45 (mdL zMdl (.slice none 0 0) (.slice none 0 0)).toArray) := HBG6.out.mod HM7.out fun e => by have := HL6.out; have := HGB.out; omega
    have HTD : Hid (Below w.heap.size w w6) := (HT6.out.trans (HM7.out.to_below HT6.out.size fun b hb e => by have := HL6.out; have := HGB.out; omega))
    have HND : Hid (MdW (fun b => w3.heap.size ≤ b) w6 (.slice A E.length c) (.slice (some ⟨g, 0, none⟩) 3 3) (ownM M)) := HOF7.out.mdw.weak fun b _ h => h.1
    by_cases ha : R.at_ = y
    ·skip
     have a0 : (R.at_ == y) = true := beq_iff_eq.2 ha
     have a1 : ((R.at_ : Int) == (y : Int)) = true := beq_iff_eq.2 (by omega)
     have HQ : Hid (doesM M C R = some (ownM M)) := by show _ = _; rw [HP.out, if_pos ⟨hso, h0⟩, if_pos ha]
     clear ha h0 hso hgB hx hy hxc hset hk3 hkx
     go_wp2_with fail
     refine PF.b (by kernel_rfl) (fun _ _ _ _ _ h => h) ?_
     refine PF.t 0 (by kernel_rfl) rfl (by go_simp; try rfl) ?_
     try simp only [pz]
     refine PF.m 1 ((w.heap.size+1+1)) (by kernel_rfl) rfl (fun hcu => by go_simp; try rfl) ?_
     try simp only [pz]
     refine PF.t 2 (by kernel_rfl) rfl (by go_simp; try rfl) ?_
     try simp only [pz]
     refine PF.t 3 (by kernel_rfl) rfl (by go_simp; try rfl) ?_
     try simp only [pz]
     refine PF.m 4 (g) (by kernel_rfl) rfl (fun hcu => by go_simp; try rfl) ?_
     try simp only [pz]
     refine PF.t 5 (by kernel_rfl) rfl (by go_simp; try rfl) ?_
     try simp only [pz]
     refine PF.t 6 (by kernel_rfl) rfl (by go_simp; try rfl) ?_
     try simp only [pz]
     refine PF.d (by kernel_rfl) ?_
     have b0 := (HB1D.out.cell 0).trans (rfl : _ = some (Value.slice A E.length c))
     have b1 := (HB1D.out.cell 1).trans (rfl : _ = some (Value.int .u64 (M.trim : Int)))
     have b2 := (HB1D.out.cell 2).trans (rfl : _ = some (Value.slice (some ⟨g, 0, none⟩) 3 3))
     have z0 := (HBGD.out.cell 0).trans (rfl : _ = some (Value.slice none 0 0))
     have z1 := (HBGD.out.cell 1).trans (rfl : _ = some (Value.int .u64 ((0 : Nat) : Int)))
     have z2 := (HBGD.out.cell 2).trans (rfl : _ = some (Value.slice none 0 0))
     have y0 := HBGD.out.free 0
     have y1 := HBGD.out.free 1
     have y2 := HBGD.out.free 2
     have HB9 : Hid (Blk (((w6.setCell ⟨g6, 0, none⟩ (Value.slice A E.length c)).setCell ⟨g6, 1, none⟩ (.int .u64 (M.trim : Int))).setCell ⟨g6, 2, none⟩ (Value.slice (some ⟨g, 0, none⟩) 3 3)) g6 45 (mdL (ownM M) (Value.slice A E.length c) (Value.slice (some ⟨g, 0, none⟩) 3 3)).toArray) := ((HBGD.out.put 0 (Value.slice A E.length c)).put 1 (.int .u64 (M.trim : Int))).put 2 (Value.slice (some ⟨g, 0, none⟩) 3 3)
     have HM9 : Hid (Mod (fun b => b = g6) w6 (((w6.setCell ⟨g6, 0, none⟩ (Value.slice A E.length c)).setCell ⟨g6, 1, none⟩ (.int .u64 (M.trim : Int))).setCell ⟨g6, 2, none⟩ (Value.slice (some ⟨g, 0, none⟩) 3 3))) := Mod.set (S := fun b => b = g6) (Mod.set (S := fun b => b = g6) (Mod.set (S := fun b => b = g6) (Mod.refl _ _) (p := ⟨g6, 0, none⟩) (fun _ => rfl) _) (p := ⟨g6, 1, none⟩) (fun _ => rfl) _) (p := ⟨g6, 2, none⟩) (fun _ => rfl) _
     go_wp2_with fail
     refine bodyPost_ret (results_ct Tryz.results17 _ HB9.out.drew rfl Tryz.underlying45 rfl (info_model rfl)) rfl ?_
     have hg6 := HG6.out
     have hl6 := HL6.out
     refine ⟨⟨_, by rw [HQ.out]; rfl, ?_⟩, HTD.out.trans (HM9.out.drew.to_below HTD.out.size fun b hb e => by omega)⟩
     rw [HQ.out]
     exact ⟨_, _, rfl, (HND.out.mod HM9.out.drew fun b hb e => by have hb : w3.heap.size ≤ b := hb; omega).weak fun b _ hb => by have hb : w3.heap.size ≤ b := hb; show _ ≤ _; omega⟩
    ·skip
     have a0 : (R.at_ == y) = false := beq_eq_false_iff_ne.2 ha
     have a1 : ((R.at_ : Int) == (y : Int)) = false := beq_eq_false_iff_ne.2 (by omega)
     have HQ : Hid (doesM M C R = none) := by show _ = _; rw [HP.out, if_pos ⟨hso, h0⟩, if_neg ha]
     clear ha h0 hso hgB hx hy hxc hset hk3 hkx
     go_wp2_with fail
     refine PF.b (by kernel_rfl) (fun _ _ _ _ _ h => h) ?_
     refine PF.t 0 (by kernel_rfl) rfl (by go_simp; try rfl) ?_
     try simp only [pz]
     refine PF.m 1 ((w.heap.size+1+1)) (by kernel_rfl) rfl (fun hcu => by go_simp; try rfl) ?_
     try simp only [pz]
     refine PF.t 2 (by kernel_rfl) rfl (by go_simp; try rfl) ?_
     try simp only [pz]
     refine PF.t 3 (by kernel_rfl) rfl (by go_simp; try rfl) ?_
     try simp only [pz]
     refine PF.m 4 (g) (by kernel_rfl) rfl (fun hcu => by go_simp; try rfl) ?_
     try simp only [pz]
     refine PF.t 5 (by kernel_rfl) rfl (by go_simp; try rfl) ?_
     try simp only [pz]
     refine PF.t 6 (by kernel_rfl) rfl (by go_simp; try rfl) ?_
     try simp only [pz]
     refine PF.d (by kernel_rfl) ?_
     have z0 := (HBGD.out.cell 0).trans (rfl : _ = some (Value.slice none 0 0))
     have z1 := (HBGD.out.cell 1).trans (rfl : _ = some (Value.int .u64 ((0 : Nat) : Int)))
     have z2 := (HBGD.out.cell 2).trans (rfl : _ = some (Value.slice none 0 0))
     have y0 := HBGD.out.free 0
     have y1 := HBGD.out.free 1
     have y2 := HBGD.out.free 2
     have HB9 : Hid (Blk (((w6.setCell ⟨g6, 0, none⟩ (.slice none 0 0)).setCell ⟨g6, 1, none⟩ (.int .u64 0)).setCell ⟨g6, 2, none⟩ (.slice none 0 0)) g6 45 (mdL zMdl (.slice none 0 0) (.slice none 0 0)).toArray) := ((HBGD.out.put 0 (.slice none 0 0)).put 1 (.int .u64 0)).put 2 (.slice none 0 0)
     have HM9 : Hid (Mod (fun b => b = g6) w6 (((w6.setCell ⟨g6, 0, none⟩ (.slice none 0 0)).setCell ⟨g6, 1, none⟩ (.int .u64 0)).setCell ⟨g6, 2, none⟩ (.slice none 0 0))) := Mod.set (S := fun b => b = g6) (Mod.set (S := fun b => b = g6) (Mod.set (S := fun b => b = g6) (Mod.refl _ _) (p := ⟨g6, 0, none⟩) (fun _ => rfl) _) (p := ⟨g6, 1, none⟩) (fun _ => rfl) _) (p := ⟨g6, 2, none⟩) (fun _ => rfl) _
     go_wp2_with fail
     refine bodyPost_ret (results_ct Tryz.results17 _ HB9.out.drew rfl Tryz.underlying45 rfl (info_model rfl)) rfl ?_
     have hg6 := HG6.out
     have hl6 := HL6.out
     refine ⟨⟨_, by rw [HQ.out]; rfl, ?_⟩, HTD.out.trans (HM9.out.drew.to_below HTD.out.size fun b hb e => by omega)⟩
     rw [HQ.out]
     exact zero_mdw _ _
   ·skip
    have rr : (R.res == 0) = false := beq_eq_false_iff_ne.2 h0
    have rn : (R.res != 0) = true := by rw [bne, rr]; rfl
    have HQ : Hid (doesM M C R = none) := by show _ = _; rw [HP.out, if_neg (fun h => h0 h.2)]
    clear h0 hso hgB hk3 hkx
    have z0 := (HBG6.out.cell 0).trans (rfl : _ = some (Value.slice none 0 0))
    have z1 := (HBG6.out.cell 1).trans (rfl : _ = some (Value.int .u64 ((0 : Nat) : Int)))
    have z2 := (HBG6.out.cell 2).trans (rfl : _ = some (Value.slice none 0 0))
    have y0 := HBG6.out.free 0
    have y1 := HBG6.out.free 1
    have y2 := HBG6.out.free 2
    have HB9 : Hid (Blk (((w6.setCell ⟨g6, 0, none⟩ (.slice none 0 0)).setCell ⟨g6, 1, none⟩ (.int .u64 0)).setCell ⟨g6, 2, none⟩ (.slice none 0 0)) g6 45 (mdL zMdl (.slice none 0 0) (.slice none 0 0)).toArray) := ((HBG6.out.put 0 (.slice none 0 0)).put 1 (.int .u64 0)).put 2 (.slice none 0 0)
    have HM9 : Hid (Mod (fun b => b = g6) w6 (((w6.setCell ⟨g6, 0, none⟩ (.slice none 0 0)).setCell ⟨g6, 1, none⟩ (.int .u64 0)).setCell ⟨g6, 2, none⟩ (.slice none 0 0))) := Mod.set (S := fun b => b = g6) (Mod.set (S := fun b => b = g6) (Mod.set (S := fun b => b = g6) (Mod.refl _ _) (p := ⟨g6, 0, none⟩) (fun _ => rfl) _) (p := ⟨g6, 1, none⟩) (fun _ => rfl) _) (p := ⟨g6, 2, none⟩) (fun _ => rfl) _
    go_wp2_with fail
    refine bodyPost_ret (results_ct Tryz.results17 _ HB9.out rfl Tryz.underlying45 rfl (info_model rfl)) rfl ?_
    have hg6 := HG6.out
    have hl6 := HL6.out
    refine ⟨⟨_, by rw [HQ.out]; rfl, ?_⟩, HT6.out.trans (HM9.out.to_below HT6.out.size fun b hb e => by omega)⟩
    rw [HQ.out]
    exact zero_mdw _ _
 ·have HQ : Hid (doesM M C R = none) := by show _ = _; rw [HD.out]; unfold doesO; rw [if_neg n1, if_neg n2, if_neg n3, if_neg (fun h => h.elim n4 fun h => h.elim n5 n6)]
  have p1 : (C.kind == 1) = false := beq_eq_false_iff_ne.2 n1
  have p2 : (C.kind == 2) = false := beq_eq_false_iff_ne.2 n2
  have p3 : (C.kind == 3) = false := beq_eq_false_iff_ne.2 n3
  have p4 : (C.kind == 4) = false := beq_eq_false_iff_ne.2 n4
  have p5 : (C.kind == 5) = false := beq_eq_false_iff_ne.2 n5
  have p6 : (C.kind == 6) = false := beq_eq_false_iff_ne.2 n6
  clear n1 n2 n3 n4 n5 n6
  have z0 := (HBG6.out.cell 0).trans (rfl : _ = some (Value.slice none 0 0))
  have z1 := (HBG6.out.cell 1).trans (rfl : _ = some (Value.int .u64 ((0 : Nat) : Int)))
  have z2 := (HBG6.out.cell 2).trans (rfl : _ = some (Value.slice none 0 0))
  have y0 := HBG6.out.free 0
  have y1 := HBG6.out.free 1
  have y2 := HBG6.out.free 2
  have HB9 : Hid (Blk (((w6.setCell ⟨g6, 0, none⟩ (.slice none 0 0)).setCell ⟨g6, 1, none⟩ (.int .u64 0)).setCell ⟨g6, 2, none⟩ (.slice none 0 0)) g6 45 (mdL zMdl (.slice none 0 0) (.slice none 0 0)).toArray) := ((HBG6.out.put 0 (.slice none 0 0)).put 1 (.int .u64 0)).put 2 (.slice none 0 0)
  have HM9 : Hid (Mod (fun b => b = g6) w6 (((w6.setCell ⟨g6, 0, none⟩ (.slice none 0 0)).setCell ⟨g6, 1, none⟩ (.int .u64 0)).setCell ⟨g6, 2, none⟩ (.slice none 0 0))) := Mod.set (S := fun b => b = g6) (Mod.set (S := fun b => b = g6) (Mod.set (S := fun b => b = g6) (Mod.refl _ _) (p := ⟨g6, 0, none⟩) (fun _ => rfl) _) (p := ⟨g6, 1, none⟩) (fun _ => rfl) _) (p := ⟨g6, 2, none⟩) (fun _ => rfl) _
  go_wp2_with fail
  refine bodyPost_ret (results_ct Tryz.results17 _ HB9.out rfl Tryz.underlying45 rfl (info_model rfl)) rfl ?_
  have hg6 := HG6.out
  have hl6 := HL6.out
  refine ⟨⟨_, by rw [HQ.out]; rfl, ?_⟩, HT6.out.trans (HM9.out.to_below HT6.out.size fun b hb e => by omega)⟩
  rw [HQ.out]
  exact zero_mdw _ _
/-- What is answered: a model, or none. -/
def DoesPost (B : Nat) (T : Option Mdl) (e : Ending) (w' : World) : Prop := ∃ v', e = .returned (.tuple #[v', .bool T.isSome]) ∧ MdV (fun b => B ≤ b) w' v' (T.getD zMdl)
theorem does_wide {K K1 K' : Nat → Prop} {w : World} {vl0 vc0 v vr : Value} {M : Mdl} {C : Cal} {R : Rep} (h : MdF K w vl0 vc0 M) (hv : SlB K1 w v C.body) (hvr : SlB K' w vr R.body) (hn : M.log.length ≤ 100000) (hbl : ∀ e ∈ M.log, e.body.length ≤ 1000000) (hnb : C.body.length ≤ 140737488351232) (hnr : R.body.length ≤ 140737488351232) :
  Calls Tryz.prog 17 #[.agg (mdL M vl0 vc0).toArray, .agg (calL C v).toArray, .agg (repL R vr).toArray] w fun e w' => DoesPost w.heap.size (doesM M C R) e w' ∧ Below w.heap.size w w' :=
 (does_wideW h hv hvr hn hbl hnb hnr).mono fun e w' ⟨⟨v', e1, h1⟩, hb⟩ => ⟨⟨v', e1, h1.mdv⟩, hb⟩
theorem does_any {K K1 K' : Nat → Prop} {w : World} {vl0 vc0 v vr : Value} {M : Mdl} {C : Cal} {R : Rep} (h : MdF K w vl0 vc0 M) (hv : SlB K1 w v C.body) (hvr : SlB K' w vr R.body) (hn : M.log.length ≤ 100000) (hbl : ∀ e ∈ M.log, e.body.length ≤ 1000000) (hnb : C.body.length ≤ 1000000) (hnr : R.body.length ≤ 1000000) :
  Calls Tryz.prog 17 #[.agg (mdL M vl0 vc0).toArray, .agg (calL C v).toArray, .agg (repL R vr).toArray] w fun e w' => DoesPost w.heap.size (doesM M C R) e w' ∧ Below w.heap.size w w' :=
 does_wide h hv hvr hn hbl (Nat.le_trans hnb (by decide)) (Nat.le_trans hnr (by decide))
end Go.Proofs.YtpjmolnkmlpfeaaGreatDoor
