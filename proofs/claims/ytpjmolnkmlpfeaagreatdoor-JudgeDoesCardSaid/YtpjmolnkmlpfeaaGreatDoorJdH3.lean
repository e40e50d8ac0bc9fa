/- The document's Does, of a trim. -/
import Derived.Test.YtpjmolnkmlpfeaaGreatDoorJBA
namespace Go.Proofs.YtpjmolnkmlpfeaaGreatDoor
set_option linter.unusedVariables false
set_option linter.unusedSimpArgs false
set_option maxRecDepth 100000
open Go.RowKit

set_option maxHeartbeats 32000000 in
theorem rdoes3 {K K1 K' : Nat → Prop} {w : World} {vl0 vc0 v vr : Value} {M : Mdl} {C : Cal} {R : Rep} (hk : C.kind = 3) (h : MdF K w vl0 vc0 M) (hv : SlB K1 w v C.body) (hvr : SlB K' w vr R.body) (hn : M.log.length ≤ 100000) (hbl : ∀ e ∈ M.log, e.body.length ≤ 1000000) (hnb : C.body.length ≤ 100000) :
  Calls Tryz.prog 24 #[.agg (mdL M vl0 vc0).toArray, .agg (calL C v).toArray, .agg (repL R vr).toArray] w fun e w' => DoesPostR w.heap.size (doesM M C R) e w' ∧ Below w.heap.size w w' := by
 have ho1 := h.1.one
 have ho2 := h.2.one
 obtain ⟨Db, cb, eb, _⟩ := id hv
 subst eb
 obtain ⟨Dr, cr, er, _⟩ := id hvr
 subst er
 obtain ⟨W0, hW0⟩ : ∃ W0, W0 = ((w.alloc (.cells (mdL M vl0 vc0).toArray 45)).alloc (.cells (calL C (.slice Db C.body.length cb)).toArray 25)).alloc (.cells (repL R (.slice Dr R.body.length cr)).toArray 32) := ⟨_, rfl⟩
 have hX1 : Blk W0 w.heap.size 45 (mdL M vl0 vc0).toArray := by rw [hW0]; exact ((Blk.new _ _ _).alloc _).alloc _
 have hX2 : Blk W0 (w.heap.size + 1) 25 (calL C (.slice Db C.body.length cb)).toArray := by
  have := (Blk.new (w.alloc (.cells (mdL M vl0 vc0).toArray 45)) 25 (calL C (.slice Db C.body.length cb)).toArray).alloc (.cells (repL R (.slice Dr R.body.length cr)).toArray 32)
  rw [alloc_size] at this
  rw [hW0]
  exact this
 have hX3 : Blk W0 (w.heap.size + 1 + 1) 32 (repL R (.slice Dr R.body.length cr)).toArray := by
  have := Blk.new ((w.alloc (.cells (mdL M vl0 vc0).toArray 45)).alloc (.cells (calL C (.slice Db C.body.length cb)).toArray 25)) 32 (repL R (.slice Dr R.body.length cr)).toArray
  rw [alloc_size, alloc_size] at this
  rw [hW0]
  exact this
 have hT : Below w.heap.size w W0 := by rw [hW0]; exact (((Below.refl _ _).alloc (Nat.le_refl _) _).alloc (by simp) _).alloc (by simp; omega) _
 have hsz : W0.heap.size = w.heap.size + 1 + 1 + 1 := by rw [hW0]; simp
 have HX1 := Lib.hid hX1
 have HX2 := Lib.hid hX2
 have HX3 := Lib.hid hX3
 have HTa := Lib.hid hT
 have HSZ := Lib.hid hsz
 have HM0 := Lib.hid h
 have HV := Lib.hid hv
 have HVR := Lib.hid hvr
 have HHH : Hid (M.log.length ≤ 100000 ∧ (∀ e ∈ M.log, e.body.length ≤ 1000000) ∧ C.body.length ≤ 100000) := ⟨hn, hbl, hnb⟩
 have HW0 := Lib.hid hW0
 have HKK := Lib.hid hk
 clear hX1 hX2 hX3 hT hsz h hv hvr hn hbl hnb hW0 hk
 go_enter Tryz.func24, Tryz.ntmps24
 go_wp2_with (refine wpList_alloc_blk rfl (ty := 45) rfl zero_model ?_; rw [← HW0.out]; rintro g6 w3 hgz hB3 hb3; refine Hid.out ?_)
 refine Lib.hid ?_
 have HG6 : Hid (g6 = w.heap.size + 1 + 1 + 1) := by
  show _ = _
  rw [← hgz]
  exact HSZ.out
 have HT3 := Lib.hid (below_call HTa.out HTa.out.size hb3)
 have HB1 := Bb HX1 hb3
 have HB2 := Bb HX2 hb3
 have HB3 := Bb HX3 hb3
 have HBG := Lib.hid hB3
 clear hgz hb3 hB3 HX1 HX2 HX3 HTa HSZ HW0
 have hown := rown_any (HM0.out.below HT3.out) HHH.out.1 HHH.out.2.1
 go_wp2_with (refine wpList_load_blk rfl (ty := 45) rfl rfl HB1.out Tryz.underlying45 rfl (info_model rfl) ?_; refine Hid.out ?_)
 refine Lib.hid ?_
 go_wp2_with fail
 refine hown.mono ?_
 rintro e w4 ⟨⟨v4, rfl, vl, g, rfl, hsl, hbg, _, hgB⟩, hb4⟩
 have HL3 : Hid (w.heap.size < w3.heap.size ∧ w.heap.size + 1 < w3.heap.size ∧ w.heap.size + 1 + 1 < w3.heap.size ∧ g6 < w3.heap.size ∧ w3.heap.size ≤ g) := ⟨HB1.out.lt, HB2.out.lt, HB3.out.lt, HBG.out.lt, hgB⟩
 have HT4 := Tt HT3 hb4
 have HB14 := Bb HB1 hb4
 have HB24 := Bb HB2 hb4
 have HB34 := Bb HB3 hb4
 have HBG4 := Bb HBG hb4
 have hov : vl.oneCell' = true := hsl.one
 have HSL4 := Lib.hid hsl
 have HC4 := Lib.hid hbg
 clear hown hb4 hsl hbg hgB HB1 HB2 HB3 HBG
 go_wp2_with (refine wpList_store_blk rfl (ty := 45) rfl (g := w.heap.size) (cs := (mdL (ownM M) vl (.slice (some ⟨g, 0, none⟩) 3 3)).toArray) rfl rfl HB14.out rfl (info_model rfl) (mdL_oneJ hov rfl) ?_; rintro w5 hB5 hm5; refine Hid.out ?_)
 refine Lib.hid ?_
 have HT5 := Lib.hid (HT4.out.trans (hm5.to_below HT4.out.size fun b hb e => by omega))
 have HB15 := Lib.hid hB5
 have HB25 := Lib.hid (HB24.out.mod hm5 fun e => by omega)
 have HB35 := Lib.hid (HB34.out.mod hm5 fun e => by omega)
 have HBG5 := Lib.hid (HBG4.out.mod hm5 fun e => by have := HG6.out; omega)
 have HSL5 := Lib.hid (HSL4.out.mod hm5 fun b hb e => by have h1 := hb.1; have := HL3.out; omega)
 have HC5 := Lib.hid (HC4.out.mod hm5 fun e => by have := HL3.out; omega)
 clear hB5 hm5 HB14 HB24 HB34 HBG4 HSL4 HC4 HT4
 obtain ⟨A, c, E, rfl, hE, _⟩ := id HSL5.out
 have HLE : Hid (M.log.length = E.length) := by show _ = _; rw [← show (ownM M).log.length = M.log.length from rfl, ← hE, List.length_map]
 have hw : IntKind.u64.wrap (E.length : Int) = (E.length : Int) := by have h1 := HLE.out; have h2 := HHH.out.1; rw [IntKind.wrap_u64]; omega
 have m0 := (HB15.out.cell 0).trans (rfl : _ = some (Value.slice A E.length c))
 have k0 := (HB25.out.cell 0).trans (rfl : _ = some (Value.int .i64 C.cl))
 clear hE
 go_wp2_with (refine wpList_load_blk rfl (ty := 45) rfl (g := w.heap.size) rfl HB15.out Tryz.underlying45 rfl (info_model rfl) ?_; refine Hid.out ?_)
 refine Lib.hid ?_
 go_wp2_with fail
 refine (rlast_any (M := ownM M) HSL5.out rfl C.cl HHH.out.1).mono ?_
 rintro e w6 ⟨rfl, hb6⟩
 generalize hsq : lastS (ownM M) C.cl (ownM M).log.length = sq
 generalize hla : lastA (ownM M) C.cl (ownM M).log.length = la
 generalize hlh : lastH (ownM M) C.cl (ownM M).log.length = lh
 have HLA : Hid (lastS (ownM M) C.cl (ownM M).log.length = sq ∧ lastA (ownM M) C.cl (ownM M).log.length = la ∧ lastH (ownM M) C.cl (ownM M).log.length = lh) := ⟨hsq, hla, hlh⟩
 have HT6 := Tt HT5 hb6
 have HB16 := Bb HB15 hb6
 have HB26 := Bb HB25 hb6
 have HB36 := Bb HB35 hb6
 have HBG6 := Bb HBG5 hb6
 have HSL6 := Lib.hid (HSL5.out.below hb6)
 have HC6 := Bb HC5 hb6
 have HN6 : Hid (MdF (fun b => w3.heap.size ≤ b) w6 (.slice A E.length c) (.slice (some ⟨g, 0, none⟩) 3 3) (ownM M)) := ⟨HSL6.out.weak fun b _ h => h.1, some ⟨g, 0, none⟩, 3, rfl, blk_reads HC6.out rfl, by show 3 ≤ 3; omega, by decide, fun _ ad ea => by injection ea with ea; subst ea; exact HL3.out.2.2.2.2⟩
 clear hsq hla hlh hb6 HB15 HB25 HB35 HBG5 HSL5 HC5 HT5 m0 k0 hw
 have k5 := (HB26.out.cell 5).trans (rfl : _ = some (Value.int .i64 C.sub))
 have k3 := (HB26.out.cell 3).trans (rfl : _ = some (Value.int .i64 C.kind))
 have HD : Hid (doesM M C R = doesO (ownM M) C R) := rfl
 have p1 : (C.kind == 1) = false := beq_eq_false_iff_ne.2 (by have := HKK.out; omega)
 have p2 : (C.kind == 2) = false := beq_eq_false_iff_ne.2 (by have := HKK.out; omega)
 have p3 : (C.kind == 3) = true := beq_iff_eq.2 HKK.out
 have p4 : (C.kind == 4) = false := beq_eq_false_iff_ne.2 (by have := HKK.out; omega)
 have p5 : (C.kind == 5) = false := beq_eq_false_iff_ne.2 (by have := HKK.out; omega)
 have p6 : (C.kind == 6) = false := beq_eq_false_iff_ne.2 (by have := HKK.out; omega)
 have HP : Hid (doesM M C R = if R.res = 0 ∧ M.trim ≤ R.at_ ∧ (R.at_ = M.trim ∨ R.at_ ≤ min C.at_ E.length) then some { ownM M with trim := R.at_ } else none) := HD.out.trans (by unfold doesO; rw [if_neg (by rw [HKK.out]; decide), if_neg (by rw [HKK.out]; decide), if_pos HKK.out, show (ownM M).log.length = E.length from HLE.out]; rfl)
 have m0 := (HB16.out.cell 0).trans (rfl : _ = some (Value.slice A E.length c))
 have m1 := (HB16.out.cell 1).trans (rfl : _ = some (Value.int .u64 (M.trim : Int)))
 have k7 := (HB26.out.cell 7).trans (rfl : _ = some (Value.int .u64 (C.at_ : Int)))
 have r3 := (HB36.out.cell 3).trans (rfl : _ = some (Value.int .i64 R.res))
 have r4 := (HB36.out.cell 4).trans (rfl : _ = some (Value.int .u64 (R.at_ : Int)))
 have f1 := HB16.out.free 1
 have hB8 : Blk (w6.setCell ⟨w.heap.size, 1, none⟩ (.int .u64 (R.at_ : Int))) w.heap.size 45 (mdL { ownM M with trim := R.at_ } (.slice A E.length c) (.slice (some ⟨g, 0, none⟩) 3 3)).toArray := HB16.out.put 1 _
 have hm8 : Mod (fun b => b = w.heap.size) w6 (w6.setCell ⟨w.heap.size, 1, none⟩ (.int .u64 (R.at_ : Int))) := Mod.set (S := fun b => b = w.heap.size) (Mod.refl _ _) (p := ⟨w.heap.size, 1, none⟩) (fun _ => rfl) _
 have HB18 := Lib.hid hB8
 have HN8 : Hid (MdF (fun b => w3.heap.size ≤ b) (w6.setCell ⟨w.heap.size, 1, none⟩ (.int .u64 (R.at_ : Int))) (.slice A E.length c) (.slice (some ⟨g, 0, none⟩) 3 3) { ownM M with trim := R.at_ }) := (show MdF (fun b => w3.heap.size ≤ b) w6 (.slice A E.length c) (.slice (some ⟨g, 0, none⟩) 3 3) { ownM M with trim := R.at_ } from HN6.out).mod hm8 fun b hb e => by have hb : w3.heap.size ≤ b := hb; have := HL3.out; omega
 have HBG8 := Lib.hid (HBG6.out.mod hm8 fun e => by have := HG6.out; have := HL3.out; omega)
 have HT8 : Hid (Below w.heap.size w (w6.setCell ⟨w.heap.size, 1, none⟩ (.int .u64 (R.at_ : Int)))) := HT6.out.trans (hm8.to_below HT6.out.size fun b hb e => by omega)
 clear hB8 hm8
 rcases sub_cases C with ⟨s1, s2, hso⟩ | ⟨s1, s2, hso⟩ | ⟨s1, hso⟩
 all_goals (
  clear hso
  by_cases h0 : R.res = 0
  rotate_left
  ·skip
   have p0 : (R.res == 0) = false := beq_eq_false_iff_ne.2 h0
   have HQ : Hid (doesM M C R = none) := by show _ = _; rw [HP.out, if_neg (fun h => h0 h.1)]
   clear h0
   as_aux_lemma =>
    obtain ⟨z0, z1, z2, y0, y1, y2, HB9, HM9⟩ := zero_cells HBG6.out
    go_wp2_with fail
    exact bodyPost_ret (results_ct Tryz.results24 _ HB9.out rfl Tryz.underlying45 rfl (info_model rfl)) rfl (doesR_none HQ.out HT6.out HM9.out HG6.out)
  have p0 : (R.res == 0) = true := beq_iff_eq.2 h0
  by_cases he : R.at_ = M.trim
  ·skip
   have e0 : (R.at_ == M.trim) = true := beq_iff_eq.2 he
   have e1 : ((R.at_ : Int) == (M.trim : Int)) = true := beq_iff_eq.2 (by omega)
   have HQ : Hid (doesM M C R = some { ownM M with trim := R.at_ }) := by show _ = _; rw [HP.out, if_pos ⟨h0, by omega, .inl he⟩]
   clear h0 he
   as_aux_lemma =>
    obtain ⟨b0, b1, b2⟩ := mdl_cells HB18.out rfl
    have z0 := (HBG8.out.cell 0).trans (rfl : _ = some (Value.slice none 0 0))
    have z1 := (HBG8.out.cell 1).trans (rfl : _ = some (Value.int .u64 ((0 : Nat) : Int)))
    have z2 := (HBG8.out.cell 2).trans (rfl : _ = some (Value.slice none 0 0))
    have y0 := HBG8.out.free 0
    have y1 := HBG8.out.free 1
    have y2 := HBG8.out.free 2
    have HB9 : Hid (Blk ((((w6.setCell ⟨w.heap.size, 1, none⟩ (.int .u64 (R.at_ : Int))).setCell ⟨g6, 0, none⟩ (.slice A E.length c)).setCell ⟨g6, 1, none⟩ (.int .u64 (R.at_ : Int))).setCell ⟨g6, 2, none⟩ (.slice (some ⟨g, 0, none⟩) 3 3)) g6 45 (mdL ({ ownM M with trim := R.at_ }) (.slice A E.length c) (.slice (some ⟨g, 0, none⟩) 3 3)).toArray) := ((HBG8.out.put 0 (.slice A E.length c)).put 1 (.int .u64 (R.at_ : Int))).put 2 (.slice (some ⟨g, 0, none⟩) 3 3)
    have HM9 : Hid (Mod (fun b => b = g6) (w6.setCell ⟨w.heap.size, 1, none⟩ (.int .u64 (R.at_ : Int))) ((((w6.setCell ⟨w.heap.size, 1, none⟩ (.int .u64 (R.at_ : Int))).setCell ⟨g6, 0, none⟩ (.slice A E.length c)).setCell ⟨g6, 1, none⟩ (.int .u64 (R.at_ : Int))).setCell ⟨g6, 2, none⟩ (.slice (some ⟨g, 0, none⟩) 3 3))) := Mod.set (S := fun b => b = g6) (Mod.set (S := fun b => b = g6) (Mod.set (S := fun b => b = g6) (Mod.refl _ _) (p := ⟨g6, 0, none⟩) (fun _ => rfl) _) (p := ⟨g6, 1, none⟩) (fun _ => rfl) _) (p := ⟨g6, 2, none⟩) (fun _ => rfl) _
    go_wp2_with fail
    exact bodyPost_ret (results_ct Tryz.results24 _ HB9.out rfl Tryz.underlying45 rfl (info_model rfl)) rfl (doesR_own HQ.out HT8.out HM9.out HG6.out HN8.out HL3.out.2.2.2.1)
  have e0 : (R.at_ == M.trim) = false := beq_eq_false_iff_ne.2 he
  have e1 : ((R.at_ : Int) == (M.trim : Int)) = false := beq_eq_false_iff_ne.2 (by omega)
  by_cases hs : M.trim < R.at_
  rotate_left
  ·skip
   have s0 : decide (M.trim < R.at_) = false := decide_eq_false hs
   have s1 : decide ((M.trim : Int) < (R.at_ : Int)) = false := decide_eq_false (by omega)
   have HQ : Hid (doesM M C R = none) := by show _ = _; rw [HP.out, if_neg (fun h => by have := h.2.1; omega)]
   clear h0 he hs
   as_aux_lemma =>
    obtain ⟨z0, z1, z2, y0, y1, y2, HB9, HM9⟩ := zero_cells HBG6.out
    go_wp2_with fail
    exact bodyPost_ret (results_ct Tryz.results24 _ HB9.out rfl Tryz.underlying45 rfl (info_model rfl)) rfl (doesR_none HQ.out HT6.out HM9.out HG6.out)
  have s0 : decide (M.trim < R.at_) = true := decide_eq_true hs
  have s1 : decide ((M.trim : Int) < (R.at_ : Int)) = true := decide_eq_true (by omega)
  by_cases ht : R.at_ ≤ C.at_
  rotate_left
  ·skip
   have t0 : decide (R.at_ ≤ C.at_) = false := decide_eq_false ht
   have t1 : decide ((R.at_ : Int) ≤ (C.at_ : Int)) = false := decide_eq_false (by omega)
   have HQ : Hid (doesM M C R = none) := by show _ = _; rw [HP.out, if_neg (fun h => h.2.2.elim he (fun h => by omega))]
   clear h0 he hs ht
   as_aux_lemma =>
    obtain ⟨z0, z1, z2, y0, y1, y2, HB9, HM9⟩ := zero_cells HBG6.out
    go_wp2_with fail
    exact bodyPost_ret (results_ct Tryz.results24 _ HB9.out rfl Tryz.underlying45 rfl (info_model rfl)) rfl (doesR_none HQ.out HT6.out HM9.out HG6.out)
  have t0 : decide (R.at_ ≤ C.at_) = true := decide_eq_true ht
  have t1 : decide ((R.at_ : Int) ≤ (C.at_ : Int)) = true := decide_eq_true (by omega)
  by_cases hu : R.at_ ≤ E.length
  ·skip
   have u0 : decide (R.at_ ≤ E.length) = true := decide_eq_true hu
   have u1 : decide ((R.at_ : Int) ≤ (E.length : Int)) = true := decide_eq_true (by omega)
   have HQ : Hid (doesM M C R = some { ownM M with trim := R.at_ }) := by show _ = _; rw [HP.out, if_pos ⟨h0, by omega, .inr (by omega)⟩]
   clear h0 he hs ht hu
   as_aux_lemma =>
    obtain ⟨b0, b1, b2⟩ := mdl_cells HB18.out rfl
    have z0 := (HBG8.out.cell 0).trans (rfl : _ = some (Value.slice none 0 0))
    have z1 := (HBG8.out.cell 1).trans (rfl : _ = some (Value.int .u64 ((0 : Nat) : Int)))
    have z2 := (HBG8.out.cell 2).trans (rfl : _ = some (Value.slice none 0 0))
    have y0 := HBG8.out.free 0
    have y1 := HBG8.out.free 1
    have y2 := HBG8.out.free 2
    have HB9 : Hid (Blk ((((w6.setCell ⟨w.heap.size, 1, none⟩ (.int .u64 (R.at_ : Int))).setCell ⟨g6, 0, none⟩ (.slice A E.length c)).setCell ⟨g6, 1, none⟩ (.int .u64 (R.at_ : Int))).setCell ⟨g6, 2, none⟩ (.slice (some ⟨g, 0, none⟩) 3 3)) g6 45 (mdL ({ ownM M with trim := R.at_ }) (.slice A E.length c) (.slice (some ⟨g, 0, none⟩) 3 3)).toArray) := ((HBG8.out.put 0 (.slice A E.length c)).put 1 (.int .u64 (R.at_ : Int))).put 2 (.slice (some ⟨g, 0, none⟩) 3 3)
    have HM9 : Hid (Mod (fun b => b = g6) (w6.setCell ⟨w.heap.size, 1, none⟩ (.int .u64 (R.at_ : Int))) ((((w6.setCell ⟨w.heap.size, 1, none⟩ (.int .u64 (R.at_ : Int))).setCell ⟨g6, 0, none⟩ (.slice A E.length c)).setCell ⟨g6, 1, none⟩ (.int .u64 (R.at_ : Int))).setCell ⟨g6, 2, none⟩ (.slice (some ⟨g, 0, none⟩) 3 3))) := Mod.set (S := fun b => b = g6) (Mod.set (S := fun b => b = g6) (Mod.set (S := fun b => b = g6) (Mod.refl _ _) (p := ⟨g6, 0, none⟩) (fun _ => rfl) _) (p := ⟨g6, 1, none⟩) (fun _ => rfl) _) (p := ⟨g6, 2, none⟩) (fun _ => rfl) _
    go_wp2_with fail
    exact bodyPost_ret (results_ct Tryz.results24 _ HB9.out rfl Tryz.underlying45 rfl (info_model rfl)) rfl (doesR_own HQ.out HT8.out HM9.out HG6.out HN8.out HL3.out.2.2.2.1)
  ·skip
   have u0 : decide (R.at_ ≤ E.length) = false := decide_eq_false hu
   have u1 : decide ((R.at_ : Int) ≤ (E.length : Int)) = false := decide_eq_false (by omega)
   have HQ : Hid (doesM M C R = none) := by show _ = _; rw [HP.out, if_neg (fun h => h.2.2.elim he (fun h => by omega))]
   clear h0 he hs ht hu
   as_aux_lemma =>
    obtain ⟨z0, z1, z2, y0, y1, y2, HB9, HM9⟩ := zero_cells HBG6.out
    go_wp2_with fail
    exact bodyPost_ret (results_ct Tryz.results24 _ HB9.out rfl Tryz.underlying45 rfl (info_model rfl)) rfl (doesR_none HQ.out HT6.out HM9.out HG6.out)
 )
end Go.Proofs.YtpjmolnkmlpfeaaGreatDoor
