/- The document's Does, of a read. -/
import Derived.Test.YtpjmolnkmlpfeaaGreatDoorJBA
import Derived.Test.YtpjmolnkmlpfeaaGreatDoorJuK
namespace Go.Proofs.YtpjmolnkmlpfeaaGreatDoor
set_option linter.unusedVariables false
set_option linter.unusedSimpArgs false
set_option maxRecDepth 100000
open Go.RowKit

set_option maxHeartbeats 32000000 in
theorem rdoes2 {K K1 K' : Nat → Prop} {w : World} {vl0 vc0 v vr : Value} {M : Mdl} {C : Cal} {R : Rep} (hk : C.kind = 2) (h : MdF K w vl0 vc0 M) (hv : SlB K1 w v C.body) (hvr : SlB K' w vr R.body) (hn : M.log.length ≤ 100000) (hbl : ∀ e ∈ M.log, e.body.length ≤ 1000000) (hnb : C.body.length ≤ 100000) :
  Calls Tryz.prog 24 #[.agg (mdL M vl0 vc0).toArray, .agg (calL C v).toArray, .agg (repL R vr).toArray] w fun e w' => DoesPostR w.heap.size (doesM M C R) e w' ∧ Below w.heap.size w w' := by
 have ho1 := h.1.one
 have ho2 := h.2.one
 obtain ⟨Db, cb, eb, _⟩ := id hv
 subst eb
 obtain ⟨Dr, cr, er, _⟩ := id hvr
 subst er
 obtain ⟨W0, hW0⟩ : ∃ W0, W0 = ((w.alloc (.cells (mdL M vl0 vc0).toArray 45)).alloc (.cells (calL C (.slice Db C.body.length cb)).toArray 25)).alloc (.cells (repL R (.slice Dr R.body.length cr)).toArray 32) := ⟨_, rfl⟩
 have hX1 : Blk W0 w.heap.size 45 (mdL M vl0 vc0).toArray := by rw [hW0]; exact ((Blk.new _ _ _).alloc _).alloc _
 have hX2 : Blk W0 (w.heap.size + 1) 25 (calL C (.slice Db C.body.length cb)).toArray := by
  have := (Blk.new (w.alloc (.cells (mdL M vl0 vc0).toArray 45)) 25 (calL C (.slice Db C.body.length cb)).toArray).alloc (.cells (repL R (.slice Dr R.body.length cr)).toArray 32)
  rw [alloc_size] at this
  rw [hW0]
  exact this
 have hX3 : Blk W0 (w.heap.size + 1 + 1) 32 (repL R (.slice Dr R.body.length cr)).toArray := by
  have := Blk.new ((w.alloc (.cells (mdL M vl0 vc0).toArray 45)).alloc (.cells (calL C (.slice Db C.body.length cb)).toArray 25)) 32 (repL R (.slice Dr R.body.length cr)).toArray
  rw [alloc_size, alloc_size] at this
  rw [hW0]
  exact this
 have hT : Below w.heap.size w W0 := by rw [hW0]; exact (((Below.refl _ _).alloc (Nat.le_refl _) _).alloc (by simp) _).alloc (by simp; omega) _
 have hsz : W0.heap.size = w.heap.size + 1 + 1 + 1 := by rw [hW0]; simp
 have HX1 := Lib.hid hX1
 have HX2 := Lib.hid hX2
 have HX3 := Lib.hid hX3
 have HTa := Lib.hid hT
 have HSZ := Lib.hid hsz
 have HM0 := Lib.hid h
 have HV := Lib.hid hv
 have HVR := Lib.hid hvr
 have HHH : Hid (M.log.length ≤ 100000 ∧ (∀ e ∈ M.log, e.body.length ≤ 1000000) ∧ C.body.length ≤ 100000) := ⟨hn, hbl, hnb⟩
 have HW0 := Lib.hid hW0
 have HKK := Lib.hid hk
 clear hX1 hX2 hX3 hT hsz h hv hvr hn hbl hnb hW0 hk
 go_enter Tryz.func24, Tryz.ntmps24
 go_wp2_with (refine wpList_alloc_blk rfl (ty := 45) rfl zero_model ?_; rw [← HW0.out]; rintro g6 w3 hgz hB3 hb3; refine Hid.out ?_)
 refine Lib.hid ?_
 have HG6 : Hid (g6 = w.heap.size + 1 + 1 + 1) := by
  show _ = _
  rw [← hgz]
  exact HSZ.out
 have HT3 := Lib.hid (below_call HTa.out HTa.out.size hb3)
 have HB1 := Bb HX1 hb3
 have HB2 := Bb HX2 hb3
 have HB3 := Bb HX3 hb3
 have HBG := Lib.hid hB3
 clear hgz hb3 hB3 HX1 HX2 HX3 HTa HSZ HW0
 have hown := rown_any (HM0.out.below HT3.out) HHH.out.1 HHH.out.2.1
 go_wp2_with (refine wpList_load_blk rfl (ty := 45) rfl rfl HB1.out Tryz.underlying45 rfl (info_model rfl) ?_; refine Hid.out ?_)
 refine Lib.hid ?_
 go_wp2_with fail
 refine hown.mono ?_
 rintro e w4 ⟨⟨v4, rfl, vl, g, rfl, hsl, hbg, _, hgB⟩, hb4⟩
 have HL3 : Hid (w.heap.size < w3.heap.size ∧ w.heap.size + 1 < w3.heap.size ∧ w.heap.size + 1 + 1 < w3.heap.size ∧ g6 < w3.heap.size ∧ w3.heap.size ≤ g) := ⟨HB1.out.lt, HB2.out.lt, HB3.out.lt, HBG.out.lt, hgB⟩
 have HT4 := Tt HT3 hb4
 have HB14 := Bb HB1 hb4
 have HB24 := Bb HB2 hb4
 have HB34 := Bb HB3 hb4
 have HBG4 := Bb HBG hb4
 have hov : vl.oneCell' = true := hsl.one
 have HSL4 := Lib.hid hsl
 have HC4 := Lib.hid hbg
 clear hown hb4 hsl hbg hgB HB1 HB2 HB3 HBG
 go_wp2_with (refine wpList_store_blk rfl (ty := 45) rfl (g := w.heap.size) (cs := (mdL (ownM M) vl (.slice (some ⟨g, 0, none⟩) 3 3)).toArray) rfl rfl HB14.out rfl (info_model rfl) (mdL_oneJ hov rfl) ?_; rintro w5 hB5 hm5; refine Hid.out ?_)
 refine Lib.hid ?_
 have HT5 := Lib.hid (HT4.out.trans (hm5.to_below HT4.out.size fun b hb e => by omega))
 have HB15 := Lib.hid hB5
 have HB25 := Lib.hid (HB24.out.mod hm5 fun e => by omega)
 have HB35 := Lib.hid (HB34.out.mod hm5 fun e => by omega)
 have HBG5 := Lib.hid (HBG4.out.mod hm5 fun e => by have := HG6.out; omega)
 have HSL5 := Lib.hid (HSL4.out.mod hm5 fun b hb e => by have h1 := hb.1; have := HL3.out; omega)
 have HC5 := Lib.hid (HC4.out.mod hm5 fun e => by have := HL3.out; omega)
 clear hB5 hm5 HB14 HB24 HB34 HBG4 HSL4 HC4 HT4
 obtain ⟨A, c, E, rfl, hE, _⟩ := id HSL5.out
 have HLE : Hid (M.log.length = E.length) := by show _ = _; rw [← show (ownM M).log.length = M.log.length from rfl, ← hE, List.length_map]
 have hw : IntKind.u64.wrap (E.length : Int) = (E.length : Int) := by have h1 := HLE.out; have h2 := HHH.out.1; rw [IntKind.wrap_u64]; omega
 have m0 := (HB15.out.cell 0).trans (rfl : _ = some (Value.slice A E.length c))
 have k0 := (HB25.out.cell 0).trans (rfl : _ = some (Value.int .i64 C.cl))
 clear hE
 go_wp2_with (refine wpList_load_blk rfl (ty := 45) rfl (g := w.heap.size) rfl HB15.out Tryz.underlying45 rfl (info_model rfl) ?_; refine Hid.out ?_)
 refine Lib.hid ?_
 go_wp2_with fail
 refine (rlast_any (M := ownM M) HSL5.out rfl C.cl HHH.out.1).mono ?_
 rintro e w6 ⟨rfl, hb6⟩
 generalize hsq : lastS (ownM M) C.cl (ownM M).log.length = sq
 generalize hla : lastA (ownM M) C.cl (ownM M).log.length = la
 generalize hlh : lastH (ownM M) C.cl (ownM M).log.length = lh
 have HLA : Hid (lastS (ownM M) C.cl (ownM M).log.length = sq ∧ lastA (ownM M) C.cl (ownM M).log.length = la ∧ lastH (ownM M) C.cl (ownM M).log.length = lh) := ⟨hsq, hla, hlh⟩
 have HT6 := Tt HT5 hb6
 have HB16 := Bb HB15 hb6
 have HB26 := Bb HB25 hb6
 have HB36 := Bb HB35 hb6
 have HBG6 := Bb HBG5 hb6
 have HSL6 := Lib.hid (HSL5.out.below hb6)
 have HC6 := Bb HC5 hb6
 have HN6 : Hid (MdF (fun b => w3.heap.size ≤ b) w6 (.slice A E.length c) (.slice (some ⟨g, 0, none⟩) 3 3) (ownM M)) := ⟨HSL6.out.weak fun b _ h => h.1, some ⟨g, 0, none⟩, 3, rfl, blk_reads HC6.out rfl, by show 3 ≤ 3; omega, by decide, fun _ ad ea => by injection ea with ea; subst ea; exact HL3.out.2.2.2.2⟩
 clear hsq hla hlh hb6 HB15 HB25 HB35 HBG5 HSL5 HC5 HT5 m0 k0 hw
 have k5 := (HB26.out.cell 5).trans (rfl : _ = some (Value.int .i64 C.sub))
 go_wp2_with (with_reducible refine stopR rfl ?_)
 rename_i K4 h4
 refine sub_share h4 (fun K' hK' => ?_) (fun y0 y1 y2 y3 y4 y5 y6 y7 y8 => ?_)
 ·clear h4
  rcases sub_cases C with ⟨s1, s2, hso⟩ | ⟨s1, s2, hso⟩ | ⟨s1, hso⟩
  all_goals (
   clear hso
   go_wp2_with fail
   exact hK' _ _ (by kernel_rfl) rfl)
 clear h4 K4 k5
 simp only [subA, pz0, pz1, pz2]
 have k3 := (HB26.out.cell 3).trans (rfl : _ = some (Value.int .i64 C.kind))
 have HD : Hid (doesM M C R = doesO (ownM M) C R) := rfl
 have p1 : (C.kind == 1) = false := beq_eq_false_iff_ne.2 (by have := HKK.out; omega)
 have p2 : (C.kind == 2) = true := beq_iff_eq.2 HKK.out
 have p3 : (C.kind == 3) = false := beq_eq_false_iff_ne.2 (by have := HKK.out; omega)
 have p4 : (C.kind == 4) = false := beq_eq_false_iff_ne.2 (by have := HKK.out; omega)
 have p5 : (C.kind == 5) = false := beq_eq_false_iff_ne.2 (by have := HKK.out; omega)
 have p6 : (C.kind == 6) = false := beq_eq_false_iff_ne.2 (by have := HKK.out; omega)
 have HP0 : Hid (doesM M C R = if readM (ownM M) C R = true then some (ownM M) else none) := HD.out.trans (by unfold doesO; rw [if_neg (by rw [HKK.out]; decide), if_pos HKK.out])
 have m0 := (HB16.out.cell 0).trans (rfl : _ = some (Value.slice A E.length c))
 have m1 := (HB16.out.cell 1).trans (rfl : _ = some (Value.int .u64 (M.trim : Int)))
 have k7 := (HB26.out.cell 7).trans (rfl : _ = some (Value.int .u64 (C.at_ : Int)))
 have r3 := (HB36.out.cell 3).trans (rfl : _ = some (Value.int .i64 R.res))
 have r4 := (HB36.out.cell 4).trans (rfl : _ = some (Value.int .u64 (R.at_ : Int)))
 have r6 := (HB36.out.cell 6).trans (rfl : _ = some (Value.int .i64 R.prod))
 have r7 := (HB36.out.cell 7).trans (rfl : _ = some (Value.int .u64 (R.seq : Int)))
 have r8 := (HB36.out.cell 8).trans (rfl : _ = some (Value.slice Dr R.body.length cr))
 have HXL : Hid ((ownM M).log.length = E.length) := HLE.out
 by_cases h8 : R.res = 8
 ·skip
  have p8 : (R.res == 8) = true := beq_iff_eq.2 h8
  have p7 : (R.res == 7) = false := beq_eq_false_iff_ne.2 (by omega)
  have p0 : (R.res == 0) = false := beq_eq_false_iff_ne.2 (by omega)
  have HP : Hid (doesM M C R = if decide (C.at_ < M.trim) = true then some (ownM M) else none) := HP0.out.trans (by rw [read8 h8]; rfl)
  clear h8
  by_cases hs : C.at_ < M.trim
  ·skip
   have s0 : decide (C.at_ < M.trim) = true := decide_eq_true hs
   have s1 : decide ((C.at_ : Int) < (M.trim : Int)) = true := decide_eq_true (by omega)
   have HQ : Hid (doesM M C R = some (ownM M)) := by show _ = _; rw [HP.out, s0]; rfl
   clear hs
   as_aux_lemma =>
    obtain ⟨b0, b1, b2⟩ := mdl_cells HB16.out rfl
    obtain ⟨z0, z1, z2, y0, y1, y2, HB9, HM9⟩ := own_cells (N := ownM M) (t := M.trim) (vl := .slice A E.length c) (vc := .slice (some ⟨g, 0, none⟩) 3 3) HBG6.out rfl
    go_wp2_with fail
    exact bodyPost_ret (results_ct Tryz.results24 _ HB9.out rfl Tryz.underlying45 rfl (info_model rfl)) rfl (doesR_own HQ.out HT6.out HM9.out HG6.out HN6.out HL3.out.2.2.2.1)
  ·skip
   have s0 : decide (C.at_ < M.trim) = false := decide_eq_false hs
   have s1 : decide ((C.at_ : Int) < (M.trim : Int)) = false := decide_eq_false (by omega)
   have HQ : Hid (doesM M C R = none) := by show _ = _; rw [HP.out, s0]; rfl
   clear hs
   as_aux_lemma =>
    obtain ⟨z0, z1, z2, y0, y1, y2, HB9, HM9⟩ := zero_cells HBG6.out
    go_wp2_with fail
    exact bodyPost_ret (results_ct Tryz.results24 _ HB9.out rfl Tryz.underlying45 rfl (info_model rfl)) rfl (doesR_none HQ.out HT6.out HM9.out HG6.out)
 by_cases h7 : R.res = 7
 ·skip
  have p8 : (R.res == 8) = false := beq_eq_false_iff_ne.2 h8
  have p7 : (R.res == 7) = true := beq_iff_eq.2 h7
  have p0 : (R.res == 0) = false := beq_eq_false_iff_ne.2 (by omega)
  have HP : Hid (doesM M C R = if decide (M.trim ≤ C.at_ ∧ E.length ≤ C.at_) = true then some (ownM M) else none) := HP0.out.trans (by rw [read7 h7, HXL.out]; rfl)
  clear h7 h8
  by_cases hs : M.trim ≤ C.at_
  rotate_left
  ·skip
   have s0 : decide (M.trim ≤ C.at_) = false := decide_eq_false hs
   have s1 : decide ((M.trim : Int) ≤ (C.at_ : Int)) = false := decide_eq_false (by omega)
   have HQ : Hid (doesM M C R = none) := by show _ = _; rw [HP.out, decide_eq_false (fun h => hs h.1)]; rfl
   clear hs
   as_aux_lemma =>
    obtain ⟨z0, z1, z2, y0, y1, y2, HB9, HM9⟩ := zero_cells HBG6.out
    go_wp2_with fail
    exact bodyPost_ret (results_ct Tryz.results24 _ HB9.out rfl Tryz.underlying45 rfl (info_model rfl)) rfl (doesR_none HQ.out HT6.out HM9.out HG6.out)
  have s0 : decide (M.trim ≤ C.at_) = true := decide_eq_true hs
  have s1 : decide ((M.trim : Int) ≤ (C.at_ : Int)) = true := decide_eq_true (by omega)
  by_cases ht : E.length ≤ C.at_
  ·skip
   have t0 : decide (E.length ≤ C.at_) = true := decide_eq_true ht
   have t1 : decide ((E.length : Int) ≤ (C.at_ : Int)) = true := decide_eq_true (by omega)
   have HQ : Hid (doesM M C R = some (ownM M)) := by show _ = _; rw [HP.out, decide_eq_true ⟨hs, ht⟩]; rfl
   clear hs ht
   as_aux_lemma =>
    obtain ⟨b0, b1, b2⟩ := mdl_cells HB16.out rfl
    obtain ⟨z0, z1, z2, y0, y1, y2, HB9, HM9⟩ := own_cells (N := ownM M) (t := M.trim) (vl := .slice A E.length c) (vc := .slice (some ⟨g, 0, none⟩) 3 3) HBG6.out rfl
    go_wp2_with fail
    exact bodyPost_ret (results_ct Tryz.results24 _ HB9.out rfl Tryz.underlying45 rfl (info_model rfl)) rfl (doesR_own HQ.out HT6.out HM9.out HG6.out HN6.out HL3.out.2.2.2.1)
  ·skip
   have t0 : decide (E.length ≤ C.at_) = false := decide_eq_false ht
   have t1 : decide ((E.length : Int) ≤ (C.at_ : Int)) = false := decide_eq_false (by omega)
   have HQ : Hid (doesM M C R = none) := by show _ = _; rw [HP.out, decide_eq_false (fun h => ht h.2)]; rfl
   clear hs ht
   as_aux_lemma =>
    obtain ⟨z0, z1, z2, y0, y1, y2, HB9, HM9⟩ := zero_cells HBG6.out
    go_wp2_with fail
    exact bodyPost_ret (results_ct Tryz.results24 _ HB9.out rfl Tryz.underlying45 rfl (info_model rfl)) rfl (doesR_none HQ.out HT6.out HM9.out HG6.out)
 by_cases h0 : R.res = 0
 rotate_left
 ·skip
  have p8 : (R.res == 8) = false := beq_eq_false_iff_ne.2 h8
  have p7 : (R.res == 7) = false := beq_eq_false_iff_ne.2 h7
  have p0 : (R.res == 0) = false := beq_eq_false_iff_ne.2 h0
  have HQ : Hid (doesM M C R = none) := by show _ = _; rw [HP0.out, readN h8 h7 h0]; rfl
  clear h8 h7 h0
  as_aux_lemma =>
   obtain ⟨z0, z1, z2, y0, y1, y2, HB9, HM9⟩ := zero_cells HBG6.out
   go_wp2_with fail
   exact bodyPost_ret (results_ct Tryz.results24 _ HB9.out rfl Tryz.underlying45 rfl (info_model rfl)) rfl (doesR_none HQ.out HT6.out HM9.out HG6.out)
 have p8 : (R.res == 8) = false := beq_eq_false_iff_ne.2 h8
 have p7 : (R.res == 7) = false := beq_eq_false_iff_ne.2 h7
 have p0 : (R.res == 0) = true := beq_iff_eq.2 h0
 have HP : Hid (doesM M C R = if decide (R.at_ = C.at_ ∧ M.trim ≤ C.at_ ∧ C.at_ < E.length ∧ M.log.getD C.at_ zEnt = { prod := R.prod, seq := R.seq, body := R.body }) = true then some (ownM M) else none) := HP0.out.trans (by rw [read0 h0, HXL.out]; rfl)
 clear h0 h7 h8
 by_cases ha : C.at_ = R.at_
 rotate_left
 ·skip
  have a0 : (C.at_ == R.at_) = false := beq_eq_false_iff_ne.2 ha
  have a1 : ((C.at_ : Int) == (R.at_ : Int)) = false := beq_eq_false_iff_ne.2 (by omega)
  have HQ : Hid (doesM M C R = none) := by show _ = _; rw [HP.out, decide_eq_false (fun h => ha h.1.symm)]; rfl
  clear ha
  as_aux_lemma =>
   go_wp2_with fail
   refine PF.b (by kernel_rfl) (fun _ _ _ _ _ h => h) ?_
   have HT6 := Lib.hid HT6.out.drew
   have HB16 := Lib.hid HB16.out.drew
   have HBG6 := Lib.hid HBG6.out.drew
   have HN6 := Lib.hid (HN6.out.below ((Below.refl _ _).drew))
   have HB26 := Lib.hid HB26.out.drew
   have HB36 := Lib.hid HB36.out.drew
   refine PF.t 0 (by kernel_rfl) rfl (by intro u; go_simp; try rfl) ?_
   try simp only [pz]
   refine PF.m 1 ((w.heap.size+1)) (by kernel_rfl) rfl (fun hcu => by go_simp; try rfl) ?_
   try simp only [pz]
   refine PF.t 2 (by kernel_rfl) rfl (by intro u; go_simp; try rfl) ?_
   try simp only [pz]
   refine PF.m 3 ((w.heap.size+1+1)) (by kernel_rfl) rfl (fun hcu => by go_simp; try rfl) ?_
   try simp only [pz]
   refine PF.t 4 (by kernel_rfl) rfl (by intro u; go_simp; try rfl) ?_
   try simp only [pz]
   refine PF.t 5 (by kernel_rfl) rfl (by intro u; go_simp; try rfl) ?_
   try simp only [pz]
   refine PF.s 6 (by kernel_rfl) rfl ?_
   try simp only [pz]
   refine PF.s 7 (by kernel_rfl) rfl ?_
   try simp only [pz]
   refine PF.s 8 (by kernel_rfl) rfl ?_
   try simp only [pz]
   refine PF.s 9 (by kernel_rfl) rfl ?_
   try simp only [pz]
   refine PF.s 10 (by kernel_rfl) rfl ?_
   try simp only [pz]
   refine PF.t 11 (by kernel_rfl) rfl (by intro u; go_simp; try rfl) ?_
   try simp only [pz]
   refine PF.t 12 (by kernel_rfl) rfl (by intro u; go_simp; try rfl) ?_
   try simp only [pz]
   refine PF.s 13 (by kernel_rfl) rfl ?_
   try simp only [pz]
   refine PF.s 14 (by kernel_rfl) rfl ?_
   try simp only [pz]
   refine PF.s 15 (by kernel_rfl) rfl ?_
   try simp only [pz]
   refine PF.s 16 (by kernel_rfl) rfl ?_
   try simp only [pz]
   refine PF.t 17 (by kernel_rfl) rfl (by intro u; go_simp; try rfl) ?_
   try simp only [pz]
   refine PF.t 18 (by kernel_rfl) rfl (by intro u; go_simp; try rfl) ?_
   try simp only [pz]
   refine PF.s 19 (by kernel_rfl) rfl ?_
   try simp only [pz]
   refine PF.s 20 (by kernel_rfl) rfl ?_
   try simp only [pz]
   refine PF.s 21 (by kernel_rfl) rfl ?_
   try simp only [pz]
   refine PF.s 22 (by kernel_rfl) rfl ?_
   try simp only [pz]
   refine PF.s 23 (by kernel_rfl) rfl ?_
   try simp only [pz]
   refine PF.s 24 (by kernel_rfl) rfl ?_
   try simp only [pz]
   refine PF.s 25 (by kernel_rfl) rfl ?_
   try simp only [pz]
   refine PF.s 26 (by kernel_rfl) rfl ?_
   try simp only [pz]
   refine PF.s 27 (by kernel_rfl) rfl ?_
   try simp only [pz]
   refine PF.s 28 (by kernel_rfl) rfl ?_
   try simp only [pz]
   refine PF.s 29 (by kernel_rfl) rfl ?_
   try simp only [pz]
   refine PF.s 30 (by kernel_rfl) rfl ?_
   try simp only [pz]
   refine PF.s 31 (by kernel_rfl) rfl ?_
   try simp only [pz]
   refine PF.k 32 (by kernel_rfl) rfl ?_
   try simp only [pz]
   refine PF.t 33 (by kernel_rfl) rfl (by intro u; go_simp; try rfl) ?_
   try simp only [pz]
   refine PF.d (by kernel_rfl) ?_
   generalize w6.drew = w8 at HT6 HB16 HBG6 HN6 HB26 HB36 ⊢
   obtain ⟨z0, z1, z2, y0, y1, y2, HB9, HM9⟩ := zero_cells HBG6.out
   go_wp2_with fail
   exact bodyPost_ret (results_ct Tryz.results24 _ HB9.out rfl Tryz.underlying45 rfl (info_model rfl)) rfl (doesR_none HQ.out HT6.out HM9.out HG6.out)
 have a0 : (C.at_ == R.at_) = true := beq_iff_eq.2 ha
 have a1 : ((C.at_ : Int) == (R.at_ : Int)) = true := beq_iff_eq.2 (by omega)
 by_cases hs : M.trim ≤ C.at_
 rotate_left
 ·skip
  have s0 : decide (M.trim ≤ C.at_) = false := decide_eq_false hs
  have s1 : decide ((M.trim : Int) ≤ (C.at_ : Int)) = false := decide_eq_false (by omega)
  have HQ : Hid (doesM M C R = none) := by show _ = _; rw [HP.out, decide_eq_false (fun h => hs h.2.1)]; rfl
  clear ha hs
  as_aux_lemma =>
   go_wp2_with fail
   refine PF.b (by kernel_rfl) (fun _ _ _ _ _ h => h) ?_
   have HT6 := Lib.hid HT6.out.drew
   have HB16 := Lib.hid HB16.out.drew
   have HBG6 := Lib.hid HBG6.out.drew
   have HN6 := Lib.hid (HN6.out.below ((Below.refl _ _).drew))
   have HB26 := Lib.hid HB26.out.drew
   have HB36 := Lib.hid HB36.out.drew
   refine PF.t 0 (by kernel_rfl) rfl (by intro u; go_simp; try rfl) ?_
   try simp only [pz]
   refine PF.m 1 ((w.heap.size+1)) (by kernel_rfl) rfl (fun hcu => by go_simp; try rfl) ?_
   try simp only [pz]
   refine PF.t 2 (by kernel_rfl) rfl (by intro u; go_simp; try rfl) ?_
   try simp only [pz]
   refine PF.m 3 ((w.heap.size+1+1)) (by kernel_rfl) rfl (fun hcu => by go_simp; try rfl) ?_
   try simp only [pz]
   refine PF.t 4 (by kernel_rfl) rfl (by intro u; go_simp; try rfl) ?_
   try simp only [pz]
   refine PF.t 5 (by kernel_rfl) rfl (by intro u; go_simp; try rfl) ?_
   try simp only [pz]
   refine PF.t 6 (by kernel_rfl) rfl (by intro u; go_simp; try rfl) ?_
   try simp only [pz]
   refine PF.m 7 ((w.heap.size+1)) (by kernel_rfl) rfl (fun hcu => by go_simp; try rfl) ?_
   try simp only [pz]
   refine PF.t 8 (by kernel_rfl) rfl (by intro u; go_simp; try rfl) ?_
   try simp only [pz]
   refine PF.m 9 (w.heap.size) (by kernel_rfl) rfl (fun hcu => by go_simp; try rfl) ?_
   try simp only [pz]
   refine PF.t 10 (by kernel_rfl) rfl (by intro u; go_simp; try rfl) ?_
   try simp only [pz]
   refine PF.t 11 (by kernel_rfl) rfl (by intro u; go_simp; try rfl) ?_
   try simp only [pz]
   refine PF.t 12 (by kernel_rfl) rfl (by intro u; go_simp; try rfl) ?_
   try simp only [pz]
   refine PF.s 13 (by kernel_rfl) rfl ?_
   try simp only [pz]
   refine PF.s 14 (by kernel_rfl) rfl ?_
   try simp only [pz]
   refine PF.s 15 (by kernel_rfl) rfl ?_
   try simp only [pz]
   refine PF.s 16 (by kernel_rfl) rfl ?_
   try simp only [pz]
   refine PF.t 17 (by kernel_rfl) rfl (by intro u; go_simp; try rfl) ?_
   try simp only [pz]
   refine PF.t 18 (by kernel_rfl) rfl (by intro u; go_simp; try rfl) ?_
   try simp only [pz]
   refine PF.s 19 (by kernel_rfl) rfl ?_
   try simp only [pz]
   refine PF.s 20 (by kernel_rfl) rfl ?_
   try simp only [pz]
   refine PF.s 21 (by kernel_rfl) rfl ?_
   try simp only [pz]
   refine PF.s 22 (by kernel_rfl) rfl ?_
   try simp only [pz]
   refine PF.s 23 (by kernel_rfl) rfl ?_
   try simp only [pz]
   refine PF.s 24 (by kernel_rfl) rfl ?_
   try simp only [pz]
   refine PF.s 25 (by kernel_rfl) rfl ?_
   try simp only [pz]
   refine PF.s 26 (by kernel_rfl) rfl ?_
   try simp only [pz]
   refine PF.s 27 (by kernel_rfl) rfl ?_
   try simp only [pz]
   refine PF.s 28 (by kernel_rfl) rfl ?_
   try simp only [pz]
   refine PF.s 29 (by kernel_rfl) rfl ?_
   try simp only [pz]
   refine PF.s 30 (by kernel_rfl) rfl ?_
   try simp only [pz]
   refine PF.s 31 (by kernel_rfl) rfl ?_
   try simp only [pz]
   refine PF.k 32 (by kernel_rfl) rfl ?_
   try simp only [pz]
   refine PF.t 33 (by kernel_rfl) rfl (by intro u; go_simp; try rfl) ?_
   try simp only [pz]
   refine PF.d (by kernel_rfl) ?_
   generalize w6.drew = w8 at HT6 HB16 HBG6 HN6 HB26 HB36 ⊢
   obtain ⟨z0, z1, z2, y0, y1, y2, HB9, HM9⟩ := zero_cells HBG6.out
   go_wp2_with fail
   exact bodyPost_ret (results_ct Tryz.results24 _ HB9.out rfl Tryz.underlying45 rfl (info_model rfl)) rfl (doesR_none HQ.out HT6.out HM9.out HG6.out)
 have s0 : decide (M.trim ≤ C.at_) = true := decide_eq_true hs
 have s1 : decide ((M.trim : Int) ≤ (C.at_ : Int)) = true := decide_eq_true (by omega)
 by_cases ht : C.at_ < E.length
 rotate_left
 ·skip
  have t0 : decide (C.at_ < E.length) = false := decide_eq_false ht
  have t1 : decide ((C.at_ : Int) < (E.length : Int)) = false := decide_eq_false (by omega)
  have HQ : Hid (doesM M C R = none) := by show _ = _; rw [HP.out, decide_eq_false (fun h => ht h.2.2.1)]; rfl
  clear ha hs ht
  as_aux_lemma =>
   go_wp2_with fail
   refine PF.b (by kernel_rfl) (fun _ _ _ _ _ h => h) ?_
   have HT6 := Lib.hid HT6.out.drew
   have HB16 := Lib.hid HB16.out.drew
   have HBG6 := Lib.hid HBG6.out.drew
   have HN6 := Lib.hid (HN6.out.below ((Below.refl _ _).drew))
   have HB26 := Lib.hid HB26.out.drew
   have HB36 := Lib.hid HB36.out.drew
   refine PF.t 0 (by kernel_rfl) rfl (by intro u; go_simp; try rfl) ?_
   try simp only [pz]
   refine PF.m 1 ((w.heap.size+1)) (by kernel_rfl) rfl (fun hcu => by go_simp; try rfl) ?_
   try simp only [pz]
   refine PF.t 2 (by kernel_rfl) rfl (by intro u; go_simp; try rfl) ?_
   try simp only [pz]
   refine PF.m 3 ((w.heap.size+1+1)) (by kernel_rfl) rfl (fun hcu => by go_simp; try rfl) ?_
   try simp only [pz]
   refine PF.t 4 (by kernel_rfl) rfl (by intro u; go_simp; try rfl) ?_
   try simp only [pz]
   refine PF.t 5 (by kernel_rfl) rfl (by intro u; go_simp; try rfl) ?_
   try simp only [pz]
   refine PF.t 6 (by kernel_rfl) rfl (by intro u; go_simp; try rfl) ?_
   try simp only [pz]
   refine PF.m 7 ((w.heap.size+1)) (by kernel_rfl) rfl (fun hcu => by go_simp; try rfl) ?_
   try simp only [pz]
   refine PF.t 8 (by kernel_rfl) rfl (by intro u; go_simp; try rfl) ?_
   try simp only [pz]
   refine PF.m 9 (w.heap.size) (by kernel_rfl) rfl (fun hcu => by go_simp; try rfl) ?_
   try simp only [pz]
   refine PF.t 10 (by kernel_rfl) rfl (by intro u; go_simp; try rfl) ?_
   try simp only [pz]
   refine PF.t 11 (by kernel_rfl) rfl (by intro u; go_simp; try rfl) ?_
   try simp only [pz]
   refine PF.t 12 (by kernel_rfl) rfl (by intro u; go_simp; try rfl) ?_
   try simp only [pz]
   refine PF.t 13 (by kernel_rfl) rfl (by intro u; go_simp; try rfl) ?_
   try simp only [pz]
   refine PF.m 14 ((w.heap.size+1)) (by kernel_rfl) rfl (fun hcu => by go_simp; try rfl) ?_
   try simp only [pz]
   refine PF.t 15 (by kernel_rfl) rfl (by intro u; go_simp; try rfl) ?_
   try simp only [pz]
   refine PF.t 16 (by kernel_rfl) rfl (by intro u; go_simp; try rfl) ?_
   try simp only [pz]
   refine PF.t 17 (by kernel_rfl) rfl (by intro u; go_simp; try rfl) ?_
   try simp only [pz]
   refine PF.t 18 (by kernel_rfl) rfl (by intro u; go_simp; try rfl) ?_
   try simp only [pz]
   refine PF.s 19 (by kernel_rfl) rfl ?_
   try simp only [pz]
   refine PF.s 20 (by kernel_rfl) rfl ?_
   try simp only [pz]
   refine PF.s 21 (by kernel_rfl) rfl ?_
   try simp only [pz]
   refine PF.s 22 (by kernel_rfl) rfl ?_
   try simp only [pz]
   refine PF.s 23 (by kernel_rfl) rfl ?_
   try simp only [pz]
   refine PF.s 24 (by kernel_rfl) rfl ?_
   try simp only [pz]
   refine PF.s 25 (by kernel_rfl) rfl ?_
   try simp only [pz]
   refine PF.s 26 (by kernel_rfl) rfl ?_
   try simp only [pz]
   refine PF.s 27 (by kernel_rfl) rfl ?_
   try simp only [pz]
   refine PF.s 28 (by kernel_rfl) rfl ?_
   try simp only [pz]
   refine PF.s 29 (by kernel_rfl) rfl ?_
   try simp only [pz]
   refine PF.s 30 (by kernel_rfl) rfl ?_
   try simp only [pz]
   refine PF.s 31 (by kernel_rfl) rfl ?_
   try simp only [pz]
   refine PF.k 32 (by kernel_rfl) rfl ?_
   try simp only [pz]
   refine PF.t 33 (by kernel_rfl) rfl (by intro u; go_simp; try rfl) ?_
   try simp only [pz]
   refine PF.d (by kernel_rfl) ?_
   generalize w6.drew = w8 at HT6 HB16 HBG6 HN6 HB26 HB36 ⊢
   obtain ⟨z0, z1, z2, y0, y1, y2, HB9, HM9⟩ := zero_cells HBG6.out
   go_wp2_with fail
   exact bodyPost_ret (results_ct Tryz.results24 _ HB9.out rfl Tryz.underlying45 rfl (info_model rfl)) rfl (doesR_none HQ.out HT6.out HM9.out HG6.out)
 have t0 : decide (C.at_ < E.length) = true := decide_eq_true ht
 have t1 : decide ((C.at_ : Int) < (E.length : Int)) = true := decide_eq_true (by omega)
 obtain ⟨A', c', E', eE, hE', hr', hall', _⟩ := id HSL6.out
 have hlE : E.length = E'.length := (Value.slice.inj eE).2.1
 have eA : A' = A := (Value.slice.inj eE).1.symm
 subst eA
 have ht' : C.at_ < E'.length := by omega
 obtain ⟨bk, o, rfl, hbk, c0, c1, c2⟩ := en_cells hr' ht'
 have hgj := map_getD hE' ht'
 have hsb := hall' _ (List.getElem_mem ht')
 obtain ⟨Dk, dk, eD, hzz⟩ := id hsb
 clear hzz
 rw [eD] at c2 hsb
 have HSB := Lib.hid hsb
 generalize hy : E'[C.at_].1 = y at c0 c1 c2 hgj HSB
 have HGJ : Hid (M.log.getD C.at_ zEnt = y) := hgj
 have hti : (C.at_ : Int) < (E.length : Int) := by omega
 clear hsb hy hgj eD hr' hall' hE' eE hlE ht'
 by_cases hz : y = { prod := R.prod, seq := R.seq, body := R.body }
 ·skip
  have z0 : decide (y = { prod := R.prod, seq := R.seq, body := R.body }) = true := decide_eq_true hz
  have HQ : Hid (doesM M C R = some (ownM M)) := by show _ = _; rw [HP.out, HGJ.out, decide_eq_true ⟨ha.symm, hs, ht, hz⟩]; try rfl
  clear ha hs hz
  go_wp2_with fail
  refine PF.b (by kernel_rfl) (fun _ _ _ _ _ h => h) ?_
  have HT6 := Lib.hid HT6.out.drew
  have HB16 := Lib.hid HB16.out.drew
  have HBG6 := Lib.hid HBG6.out.drew
  have HN6 := Lib.hid (HN6.out.below ((Below.refl _ _).drew))
  have HB26 := Lib.hid HB26.out.drew
  have HB36 := Lib.hid HB36.out.drew
  refine PF.t 0 (by kernel_rfl) rfl (by intro u; go_simp; try rfl) ?_
  try simp only [pz]
  refine PF.m 1 ((w.heap.size+1)) (by kernel_rfl) rfl (fun hcu => by go_simp; try rfl) ?_
  try simp only [pz]
  refine PF.t 2 (by kernel_rfl) rfl (by intro u; go_simp; try rfl) ?_
  try simp only [pz]
  refine PF.m 3 ((w.heap.size+1+1)) (by kernel_rfl) rfl (fun hcu => by go_simp; try rfl) ?_
  try simp only [pz]
  refine PF.t 4 (by kernel_rfl) rfl (by intro u; go_simp; try rfl) ?_
  try simp only [pz]
  refine PF.t 5 (by kernel_rfl) rfl (by intro u; go_simp; try rfl) ?_
  try simp only [pz]
  refine PF.t 6 (by kernel_rfl) rfl (by intro u; go_simp; try rfl) ?_
  try simp only [pz]
  refine PF.m 7 ((w.heap.size+1)) (by kernel_rfl) rfl (fun hcu => by go_simp; try rfl) ?_
  try simp only [pz]
  refine PF.t 8 (by kernel_rfl) rfl (by intro u; go_simp; try rfl) ?_
  try simp only [pz]
  refine PF.m 9 (w.heap.size) (by kernel_rfl) rfl (fun hcu => by go_simp; try rfl) ?_
  try simp only [pz]
  refine PF.t 10 (by kernel_rfl) rfl (by intro u; go_simp; try rfl) ?_
  try simp only [pz]
  refine PF.t 11 (by kernel_rfl) rfl (by intro u; go_simp; try rfl) ?_
  try simp only [pz]
  refine PF.t 12 (by kernel_rfl) rfl (by intro u; go_simp; try rfl) ?_
  try simp only [pz]
  refine PF.t 13 (by kernel_rfl) rfl (by intro u; go_simp; try rfl) ?_
  try simp only [pz]
  refine PF.m 14 ((w.heap.size+1)) (by kernel_rfl) rfl (fun hcu => by go_simp; try rfl) ?_
  try simp only [pz]
  refine PF.t 15 (by kernel_rfl) rfl (by intro u; go_simp; try rfl) ?_
  try simp only [pz]
  refine PF.t 16 (by kernel_rfl) rfl (by intro u; go_simp; try rfl) ?_
  try simp only [pz]
  refine PF.t 17 (by kernel_rfl) rfl (by intro u; go_simp; try rfl) ?_
  try simp only [pz]
  refine PF.t 18 (by kernel_rfl) rfl (by intro u; go_simp; try rfl) ?_
  try simp only [pz]
  refine PF.t 19 (by kernel_rfl) rfl (by intro u; go_simp; try rfl) ?_
  try simp only [pz]
  refine PF.m 20 (w.heap.size) (by kernel_rfl) rfl (fun hcu => by go_simp; try rfl) ?_
  try simp only [pz]
  refine PF.t 21 (by kernel_rfl) rfl (by intro u; go_simp; try rfl) ?_
  try simp only [pz]
  refine PF.m 22 ((w.heap.size+1)) (by kernel_rfl) rfl (fun hcu => by go_simp; try rfl) ?_
  try simp only [pz]
  refine PF.t 23 (by kernel_rfl) rfl (by intro u; go_simp; try rfl) ?_
  try simp only [pz]
  refine PF.m 24 (bk) (by kernel_rfl) rfl (fun hcu => by go_simp; try rfl) ?_
  try simp only [pz]
  refine PF.t 25 (by kernel_rfl) rfl (by intro u; go_simp; try rfl) ?_
  try simp only [pz]
  refine PF.m 26 ((w.heap.size+1+1)) (by kernel_rfl) rfl (fun hcu => by go_simp; try rfl) ?_
  try simp only [pz]
  refine PF.t 27 (by kernel_rfl) rfl (by intro u; go_simp; try rfl) ?_
  try simp only [pz]
  refine PF.m 28 ((w.heap.size+1+1)) (by kernel_rfl) rfl (fun hcu => by go_simp; try rfl) ?_
  try simp only [pz]
  refine PF.t 29 (by kernel_rfl) rfl (by intro u; go_simp; try rfl) ?_
  try simp only [pz]
  refine PF.m 30 ((w.heap.size+1+1)) (by kernel_rfl) rfl (fun hcu => by go_simp; try rfl) ?_
  try simp only [pz]
  refine PF.t 31 (by kernel_rfl) rfl (by intro u; go_simp; try rfl) ?_
  try simp only [pz]
  refine PF.e 32 (by kernel_rfl) rfl fun K hK => ?_
  go_simp
  refine (r11same_any (a := y) (b := { prod := R.prod, seq := R.seq, body := R.body }) (HSB.out.below ((Below.refl _ _).drew)) (HVR.out.below HT6.out)).mono ?_
  rintro e w7 ⟨rfl, hb7⟩
  rw [z0]
  have q4 : PF.Same bk w6.drew w7 := hb7.block _ hbk
  have q1 : PF.Same w.heap.size w6.drew w7 := hb7.block _ HB16.out.lt
  have q2 : PF.Same (w.heap.size + 1) w6.drew w7 := hb7.block _ HB26.out.lt
  have q3 : PF.Same (w.heap.size + 1 + 1) w6.drew w7 := hb7.block _ HB36.out.lt
  have HB26 := Bb HB26 hb7
  have HB36 := Bb HB36 hb7
  have HT6 := Tt HT6 hb7
  have HB16 := Bb HB16 hb7
  have HBG6 := Bb HBG6 hb7
  have HN6 := Lib.hid (HN6.out.below hb7)
  clear hb7
  refine hK (by repeat (first | exact PF.n | refine PF.l ?_ | refine PF.o (by decide +kernel) ?_ | refine PF.y (by first | rfl | assumption | go_simp) ?_)) ?_
  clear hK K
  try simp only [pz]
  refine PF.t 33 (by kernel_rfl) rfl (by intro u; go_simp; try rfl) ?_
  try simp only [pz]
  refine PF.d (by kernel_rfl) ?_
  obtain ⟨b0, b1, b2⟩ := mdl_cells HB16.out rfl
  obtain ⟨z0, z1, z2, y0, y1, y2, HB9, HM9⟩ := own_cells (N := ownM M) (t := M.trim) (vl := .slice (some ⟨bk, o, none⟩) E.length c) (vc := .slice (some ⟨g, 0, none⟩) 3 3) HBG6.out rfl
  go_wp2_with fail
  exact bodyPost_ret (results_ct Tryz.results24 _ HB9.out rfl Tryz.underlying45 rfl (info_model rfl)) rfl (doesR_own HQ.out HT6.out HM9.out HG6.out HN6.out HL3.out.2.2.2.1)
 ·skip
  have z0 : decide (y = { prod := R.prod, seq := R.seq, body := R.body }) = false := decide_eq_false hz
  have HQ : Hid (doesM M C R = none) := by show _ = _; rw [HP.out, HGJ.out, decide_eq_false (fun h => hz h.2.2.2)]; try rfl
  clear ha hs hz
  go_wp2_with fail
  refine PF.b (by kernel_rfl) (fun _ _ _ _ _ h => h) ?_
  have HT6 := Lib.hid HT6.out.drew
  have HB16 := Lib.hid HB16.out.drew
  have HBG6 := Lib.hid HBG6.out.drew
  have HN6 := Lib.hid (HN6.out.below ((Below.refl _ _).drew))
  have HB26 := Lib.hid HB26.out.drew
  have HB36 := Lib.hid HB36.out.drew
  refine PF.t 0 (by kernel_rfl) rfl (by intro u; go_simp; try rfl) ?_
  try simp only [pz]
  refine PF.m 1 ((w.heap.size+1)) (by kernel_rfl) rfl (fun hcu => by go_simp; try rfl) ?_
  try simp only [pz]
  refine PF.t 2 (by kernel_rfl) rfl (by intro u; go_simp; try rfl) ?_
  try simp only [pz]
  refine PF.m 3 ((w.heap.size+1+1)) (by kernel_rfl) rfl (fun hcu => by go_simp; try rfl) ?_
  try simp only [pz]
  refine PF.t 4 (by kernel_rfl) rfl (by intro u; go_simp; try rfl) ?_
  try simp only [pz]
  refine PF.t 5 (by kernel_rfl) rfl (by intro u; go_simp; try rfl) ?_
  try simp only [pz]
  refine PF.t 6 (by kernel_rfl) rfl (by intro u; go_simp; try rfl) ?_
  try simp only [pz]
  refine PF.m 7 ((w.heap.size+1)) (by kernel_rfl) rfl (fun hcu => by go_simp; try rfl) ?_
  try simp only [pz]
  refine PF.t 8 (by kernel_rfl) rfl (by intro u; go_simp; try rfl) ?_
  try simp only [pz]
  refine PF.m 9 (w.heap.size) (by kernel_rfl) rfl (fun hcu => by go_simp; try rfl) ?_
  try simp only [pz]
  refine PF.t 10 (by kernel_rfl) rfl (by intro u; go_simp; try rfl) ?_
  try simp only [pz]
  refine PF.t 11 (by kernel_rfl) rfl (by intro u; go_simp; try rfl) ?_
  try simp only [pz]
  refine PF.t 12 (by kernel_rfl) rfl (by intro u; go_simp; try rfl) ?_
  try simp only [pz]
  refine PF.t 13 (by kernel_rfl) rfl (by intro u; go_simp; try rfl) ?_
  try simp only [pz]
  refine PF.m 14 ((w.heap.size+1)) (by kernel_rfl) rfl (fun hcu => by go_simp; try rfl) ?_
  try simp only [pz]
  refine PF.t 15 (by kernel_rfl) rfl (by intro u; go_simp; try rfl) ?_
  try simp only [pz]
  refine PF.t 16 (by kernel_rfl) rfl (by intro u; go_simp; try rfl) ?_
  try simp only [pz]
  refine PF.t 17 (by kernel_rfl) rfl (by intro u; go_simp; try rfl) ?_
  try simp only [pz]
  refine PF.t 18 (by kernel_rfl) rfl (by intro u; go_simp; try rfl) ?_
  try simp only [pz]
  refine PF.t 19 (by kernel_rfl) rfl (by intro u; go_simp; try rfl) ?_
  try simp only [pz]
  refine PF.m 20 (w.heap.size) (by kernel_rfl) rfl (fun hcu => by go_simp; try rfl) ?_
  try simp only [pz]
  refine PF.t 21 (by kernel_rfl) rfl (by intro u; go_simp; try rfl) ?_
  try simp only [pz]
  refine PF.m 22 ((w.heap.size+1)) (by kernel_rfl) rfl (fun hcu => by go_simp; try rfl) ?_
  try simp only [pz]
  refine PF.t 23 (by kernel_rfl) rfl (by intro u; go_simp; try rfl) ?_
  try simp only [pz]
  refine PF.m 24 (bk) (by kernel_rfl) rfl (fun hcu => by go_simp; try rfl) ?_
  try simp only [pz]
  refine PF.t 25 (by kernel_rfl) rfl (by intro u; go_simp; try rfl) ?_
  try simp only [pz]
  refine PF.m 26 ((w.heap.size+1+1)) (by kernel_rfl) rfl (fun hcu => by go_simp; try rfl) ?_
  try simp only [pz]
  refine PF.t 27 (by kernel_rfl) rfl (by intro u; go_simp; try rfl) ?_
  try simp only [pz]
  refine PF.m 28 ((w.heap.size+1+1)) (by kernel_rfl) rfl (fun hcu => by go_simp; try rfl) ?_
  try simp only [pz]
  refine PF.t 29 (by kernel_rfl) rfl (by intro u; go_simp; try rfl) ?_
  try simp only [pz]
  refine PF.m 30 ((w.heap.size+1+1)) (by kernel_rfl) rfl (fun hcu => by go_simp; try rfl) ?_
  try simp only [pz]
  refine PF.t 31 (by kernel_rfl) rfl (by intro u; go_simp; try rfl) ?_
  try simp only [pz]
  refine PF.e 32 (by kernel_rfl) rfl fun K hK => ?_
  go_simp
  refine (r11same_any (a := y) (b := { prod := R.prod, seq := R.seq, body := R.body }) (HSB.out.below ((Below.refl _ _).drew)) (HVR.out.below HT6.out)).mono ?_
  rintro e w7 ⟨rfl, hb7⟩
  rw [z0]
  have q4 : PF.Same bk w6.drew w7 := hb7.block _ hbk
  have q1 : PF.Same w.heap.size w6.drew w7 := hb7.block _ HB16.out.lt
  have q2 : PF.Same (w.heap.size + 1) w6.drew w7 := hb7.block _ HB26.out.lt
  have q3 : PF.Same (w.heap.size + 1 + 1) w6.drew w7 := hb7.block _ HB36.out.lt
  have HB26 := Bb HB26 hb7
  have HB36 := Bb HB36 hb7
  have HT6 := Tt HT6 hb7
  have HB16 := Bb HB16 hb7
  have HBG6 := Bb HBG6 hb7
  have HN6 := Lib.hid (HN6.out.below hb7)
  clear hb7
  refine hK (by repeat (first | exact PF.n | refine PF.l ?_ | refine PF.o (by decide +kernel) ?_ | refine PF.y (by first | rfl | assumption | go_simp) ?_)) ?_
  clear hK K
  try simp only [pz]
  refine PF.t 33 (by kernel_rfl) rfl (by intro u; go_simp; try rfl) ?_
  try simp only [pz]
  refine PF.d (by kernel_rfl) ?_
  obtain ⟨z0, z1, z2, y0, y1, y2, HB9, HM9⟩ := zero_cells HBG6.out
  go_wp2_with fail
  exact bodyPost_ret (results_ct Tryz.results24 _ HB9.out rfl Tryz.underlying45 rfl (info_model rfl)) rfl (doesR_none HQ.out HT6.out HM9.out HG6.out)
end Go.Proofs.YtpjmolnkmlpfeaaGreatDoor
