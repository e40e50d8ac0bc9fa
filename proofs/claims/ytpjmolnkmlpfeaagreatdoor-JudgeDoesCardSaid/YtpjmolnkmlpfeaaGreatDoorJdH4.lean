/- The document's Does, of an ack. -/
import Derived.Test.YtpjmolnkmlpfeaaGreatDoorJBA
namespace Go.Proofs.YtpjmolnkmlpfeaaGreatDoor
set_option linter.unusedVariables false
set_option linter.unusedSimpArgs false
set_option maxRecDepth 100000
open Go.RowKit

theorem ROwn.mdf {B : Nat} {w : World} {vl : Value} {g : Nat} {M : Mdl} (h1 : SlE (fun b => B ≤ b ∧ b ≠ g) w vl M.log) (h2 : Blk w g 22 (M.cur.map u64v).toArray) (h3 : M.cur.length = 3) (h4 : B ≤ g) : MdF (fun b => B ≤ b) w vl (.slice (some ⟨g, 0, none⟩) 3 3) M :=
 ⟨h1.weak fun b _ h => h.1, some ⟨g, 0, none⟩, 3, by rw [h3], by have := blk_reads h2 (n := M.cur.length) (by rw [List.length_map]); exact this, by omega, by decide, fun _ ad ea => by injection ea with ea; subst ea; exact h4⟩
theorem curS_getC {M : Mdl} {C : Cal} (h : subOk C = true) : curS M C.sub = getC M C := by
 unfold subOk at h
 unfold curS getC
 rw [if_pos (of_decide_eq_true h)]
theorem setC_getC {M : Mdl} {C : Cal} : setC (ownM M) C (getC (ownM M) C) = ownM M := by
 unfold setC getC
 generalize (C.sub - 1).toNat = q
 have : (own3 M.cur).set q ((own3 M.cur).getD q 0) = own3 M.cur := by
  rcases q with _ | _ | _ | q <;> rfl
 show { ownM M with cur := (own3 M.cur).set q ((own3 M.cur).getD q 0) } = ownM M
 rw [this]
 rfl
set_option maxHeartbeats 32000000 in
theorem rdoes4 {K K1 K' : Nat → Prop} {w : World} {vl0 vc0 v vr : Value} {M : Mdl} {C : Cal} {R : Rep} (hk : C.kind = 4) (h : MdF K w vl0 vc0 M) (hv : SlB K1 w v C.body) (hvr : SlB K' w vr R.body) (hn : M.log.length ≤ 100000) (hbl : ∀ e ∈ M.log, e.body.length ≤ 1000000) (hnb : C.body.length ≤ 100000) :
  Calls Tryz.prog 24 #[.agg (mdL M vl0 vc0).toArray, .agg (calL C v).toArray, .agg (repL R vr).toArray] w fun e w' => DoesPostR w.heap.size (doesM M C R) e w' ∧ Below w.heap.size w w' := by
 have ho1 := h.1.one
 have ho2 := h.2.one
 obtain ⟨Db, cb, eb, _⟩ := id hv
 subst eb
 obtain ⟨Dr, cr, er, _⟩ := id hvr
 subst er
 obtain ⟨W0, hW0⟩ : ∃ W0, W0 = ((w.alloc (.cells (mdL M vl0 vc0).toArray 45)).alloc (.cells (calL C (.slice Db C.body.length cb)).toArray 25)).alloc (.cells (repL R (.slice Dr R.body.length cr)).toArray 32) := ⟨_, rfl⟩
 have hX1 : Blk W0 w.heap.size 45 (mdL M vl0 vc0).toArray := by rw [hW0]; exact ((Blk.new _ _ _).alloc _).alloc _
 have hX2 : Blk W0 (w.heap.size + 1) 25 (calL C (.slice Db C.body.length cb)).toArray := by
  have := (Blk.new (w.alloc (.cells (mdL M vl0 vc0).toArray 45)) 25 (calL C (.slice Db C.body.length cb)).toArray).alloc (.cells (repL R (.slice Dr R.body.length cr)).toArray 32)
  rw [alloc_size] at this
  rw [hW0]
  exact this
 have hX3 : Blk W0 (w.heap.size + 1 + 1) 32 (repL R (.slice Dr R.body.length cr)).toArray := by
  have := Blk.new ((w.alloc (.cells (mdL M vl0 vc0).toArray 45)).alloc (.cells (calL C (.slice Db C.body.length cb)).toArray 25)) 32 (repL R (.slice Dr R.body.length cr)).toArray
  rw [alloc_size, alloc_size] at this
  rw [hW0]
  exact this
 have hT : Below w.heap.size w W0 := by rw [hW0]; exact (((Below.refl _ _).alloc (Nat.le_refl _) _).alloc (by simp) _).alloc (by simp; omega) _
 have hsz : W0.heap.size = w.heap.size + 1 + 1 + 1 := by rw [hW0]; simp
 have HX1 := Lib.hid hX1
 have HX2 := Lib.hid hX2
 have HX3 := Lib.hid hX3
 have HTa := Lib.hid hT
 have HSZ := Lib.hid hsz
 have HM0 := Lib.hid h
 have HV := Lib.hid hv
 have HVR := Lib.hid hvr
 have HHH : Hid (M.log.length ≤ 100000 ∧ (∀ e ∈ M.log, e.body.length ≤ 1000000) ∧ C.body.length ≤ 100000) := ⟨hn, hbl, hnb⟩
 have HW0 := Lib.hid hW0
 have HKK := Lib.hid hk
 clear hX1 hX2 hX3 hT hsz h hv hvr hn hbl hnb hW0 hk
 go_enter Tryz.func24, Tryz.ntmps24
 go_wp2_with (refine wpList_alloc_blk rfl (ty := 45) rfl zero_model ?_; rw [← HW0.out]; rintro g6 w3 hgz hB3 hb3; refine Hid.out ?_)
 refine Lib.hid ?_
 have HG6 : Hid (g6 = w.heap.size + 1 + 1 + 1) := by
  show _ = _
  rw [← hgz]
  exact HSZ.out
 have HT3 := Lib.hid (below_call HTa.out HTa.out.size hb3)
 have HB1 := Bb HX1 hb3
 have HB2 := Bb HX2 hb3
 have HB3 := Bb HX3 hb3
 have HBG := Lib.hid hB3
 clear hgz hb3 hB3 HX1 HX2 HX3 HTa HSZ HW0
 have hown := rown_any (HM0.out.below HT3.out) HHH.out.1 HHH.out.2.1
 go_wp2_with (refine wpList_load_blk rfl (ty := 45) rfl rfl HB1.out Tryz.underlying45 rfl (info_model rfl) ?_; refine Hid.out ?_)
 refine Lib.hid ?_
 go_wp2_with fail
 refine hown.mono ?_
 rintro e w4 ⟨⟨v4, rfl, vl, g, rfl, hsl, hbg, _, hgB⟩, hb4⟩
 have HL3 : Hid (w.heap.size < w3.heap.size ∧ w.heap.size + 1 < w3.heap.size ∧ w.heap.size + 1 + 1 < w3.heap.size ∧ g6 < w3.heap.size ∧ w3.heap.size ≤ g) := ⟨HB1.out.lt, HB2.out.lt, HB3.out.lt, HBG.out.lt, hgB⟩
 have HT4 := Tt HT3 hb4
 have HB14 := Bb HB1 hb4
 have HB24 := Bb HB2 hb4
 have HB34 := Bb HB3 hb4
 have HBG4 := Bb HBG hb4
 have hov : vl.oneCell' = true := hsl.one
 have HSL4 := Lib.hid hsl
 have HC4 := Lib.hid hbg
 clear hown hb4 hsl hbg hgB HB1 HB2 HB3 HBG
 go_wp2_with (refine wpList_store_blk rfl (ty := 45) rfl (g := w.heap.size) (cs := (mdL (ownM M) vl (.slice (some ⟨g, 0, none⟩) 3 3)).toArray) rfl rfl HB14.out rfl (info_model rfl) (mdL_oneJ hov rfl) ?_; rintro w5 hB5 hm5; refine Hid.out ?_)
 refine Lib.hid ?_
 have HT5 := Lib.hid (HT4.out.trans (hm5.to_below HT4.out.size fun b hb e => by omega))
 have HB15 := Lib.hid hB5
 have HB25 := Lib.hid (HB24.out.mod hm5 fun e => by omega)
 have HB35 := Lib.hid (HB34.out.mod hm5 fun e => by omega)
 have HBG5 := Lib.hid (HBG4.out.mod hm5 fun e => by have := HG6.out; omega)
 have HSL5 := Lib.hid (HSL4.out.mod hm5 fun b hb e => by have h1 := hb.1; have := HL3.out; omega)
 have HC5 := Lib.hid (HC4.out.mod hm5 fun e => by have := HL3.out; omega)
 clear hB5 hm5 HB14 HB24 HB34 HBG4 HSL4 HC4 HT4
 obtain ⟨A, c, E, rfl, hE, _⟩ := id HSL5.out
 have HLE : Hid (M.log.length = E.length) := by show _ = _; rw [← show (ownM M).log.length = M.log.length from rfl, ← hE, List.length_map]
 have hw : IntKind.u64.wrap (E.length : Int) = (E.length : Int) := by have h1 := HLE.out; have h2 := HHH.out.1; rw [IntKind.wrap_u64]; omega
 have m0 := (HB15.out.cell 0).trans (rfl : _ = some (Value.slice A E.length c))
 have k0 := (HB25.out.cell 0).trans (rfl : _ = some (Value.int .i64 C.cl))
 clear hE
 go_wp2_with (refine wpList_load_blk rfl (ty := 45) rfl (g := w.heap.size) rfl HB15.out Tryz.underlying45 rfl (info_model rfl) ?_; refine Hid.out ?_)
 refine Lib.hid ?_
 go_wp2_with fail
 refine (rlast_any (M := ownM M) HSL5.out rfl C.cl HHH.out.1).mono ?_
 rintro e w6 ⟨rfl, hb6⟩
 generalize hsq : lastS (ownM M) C.cl (ownM M).log.length = sq
 generalize hla : lastA (ownM M) C.cl (ownM M).log.length = la
 generalize hlh : lastH (ownM M) C.cl (ownM M).log.length = lh
 have HLA : Hid (lastS (ownM M) C.cl (ownM M).log.length = sq ∧ lastA (ownM M) C.cl (ownM M).log.length = la ∧ lastH (ownM M) C.cl (ownM M).log.length = lh) := ⟨hsq, hla, hlh⟩
 have HT6 := Tt HT5 hb6
 have HB16 := Bb HB15 hb6
 have HB26 := Bb HB25 hb6
 have HB36 := Bb HB35 hb6
 have HBG6 := Bb HBG5 hb6
 have HSL6 := Lib.hid (HSL5.out.below hb6)
 have HC6 := Bb HC5 hb6
 have HN6 : Hid (MdF (fun b => w3.heap.size ≤ b) w6 (.slice A E.length c) (.slice (some ⟨g, 0, none⟩) 3 3) (ownM M)) := ⟨HSL6.out.weak fun b _ h => h.1, some ⟨g, 0, none⟩, 3, rfl, blk_reads HC6.out rfl, by show 3 ≤ 3; omega, by decide, fun _ ad ea => by injection ea with ea; subst ea; exact HL3.out.2.2.2.2⟩
 clear hsq hla hlh hb6 HB15 HB25 HB35 HBG5 HSL5 HC5 HT5 m0 k0 hw
 have k5 := (HB26.out.cell 5).trans (rfl : _ = some (Value.int .i64 C.sub))
 have k3 := (HB26.out.cell 3).trans (rfl : _ = some (Value.int .i64 C.kind))
 have HD : Hid (doesM M C R = doesO (ownM M) C R) := rfl
 have p1 : (C.kind == 1) = false := beq_eq_false_iff_ne.2 (by have := HKK.out; omega)
 have p2 : (C.kind == 2) = false := beq_eq_false_iff_ne.2 (by have := HKK.out; omega)
 have p3 : (C.kind == 3) = false := beq_eq_false_iff_ne.2 (by have := HKK.out; omega)
 have p4 : (C.kind == 4) = true := beq_iff_eq.2 HKK.out
 have p5 : (C.kind == 5) = false := beq_eq_false_iff_ne.2 (by have := HKK.out; omega)
 have p6 : (C.kind == 6) = false := beq_eq_false_iff_ne.2 (by have := HKK.out; omega)
 have HP : Hid (doesM M C R = if subOk C = true ∧ R.res = 0 then (if R.at_ = curTo (ownM M) C then some (setC (ownM M) C (curTo (ownM M) C)) else none) else none) := HD.out.trans (by unfold doesO; rw [if_neg (by rw [HKK.out]; decide), if_neg (by rw [HKK.out]; decide), if_neg (by rw [HKK.out]; decide), if_pos (by rw [HKK.out]; decide)])
 have m0 := (HB16.out.cell 0).trans (rfl : _ = some (Value.slice A E.length c))
 have m1 := (HB16.out.cell 1).trans (rfl : _ = some (Value.int .u64 (M.trim : Int)))
 have k7 := (HB26.out.cell 7).trans (rfl : _ = some (Value.int .u64 (C.at_ : Int)))
 have r3 := (HB36.out.cell 3).trans (rfl : _ = some (Value.int .i64 R.res))
 have r4 := (HB36.out.cell 4).trans (rfl : _ = some (Value.int .u64 (R.at_ : Int)))
 have HCT : Hid (curTo (ownM M) C = max (getC (ownM M) C) C.at_) := by show _ = _; unfold curTo; rw [if_pos HKK.out]
 rcases sub_cases C with ⟨s1, s2, hso⟩ | ⟨s1, s2, hso⟩ | ⟨s1, hso⟩
 rotate_left
 ·skip
  have HQ : Hid (doesM M C R = none) := by show _ = _; rw [HP.out, if_neg (fun h => by rw [hso] at h; cases h.1)]
  clear hso
  as_aux_lemma =>
   go_wp2_with fail
   refine PF.b (by kernel_rfl) (fun _ _ _ _ _ h => h) ?_
   have HT6 := Lib.hid HT6.out.drew
   have HB16 := Lib.hid HB16.out.drew
   have HBG6 := Lib.hid HBG6.out.drew
   have HN6 := Lib.hid (HN6.out.below ((Below.refl _ _).drew))
   have HB26 := Lib.hid HB26.out.drew
   have HB36 := Lib.hid HB36.out.drew
   refine PF.t 0 (by kernel_rfl) rfl (by intro u; go_simp; try rfl) ?_
   try simp only [pz]
   refine PF.t 1 (by kernel_rfl) rfl (by intro u; go_simp; try rfl) ?_
   try simp only [pz]
   refine PF.s 2 (by kernel_rfl) rfl ?_
   try simp only [pz]
   refine PF.s 3 (by kernel_rfl) rfl ?_
   try simp only [pz]
   refine PF.s 4 (by kernel_rfl) rfl ?_
   try simp only [pz]
   refine PF.t 5 (by kernel_rfl) rfl (by intro u; go_simp; try rfl) ?_
   try simp only [pz]
   refine PF.t 6 (by kernel_rfl) rfl (by intro u; go_simp; try rfl) ?_
   try simp only [pz]
   refine PF.s 7 (by kernel_rfl) rfl ?_
   try simp only [pz]
   refine PF.s 8 (by kernel_rfl) rfl ?_
   try simp only [pz]
   refine PF.s 9 (by kernel_rfl) rfl ?_
   try simp only [pz]
   refine PF.s 10 (by kernel_rfl) rfl ?_
   try simp only [pz]
   refine PF.s 11 (by kernel_rfl) rfl ?_
   try simp only [pz]
   refine PF.s 13 (by kernel_rfl) rfl ?_
   try simp only [pz]
   refine PF.s 14 (by kernel_rfl) rfl ?_
   try simp only [pz]
   refine PF.k 12 (by kernel_rfl) rfl ?_
   try simp only [pz]
   refine PF.s 15 (by kernel_rfl) rfl ?_
   try simp only [pz]
   refine PF.s 16 (by kernel_rfl) rfl ?_
   try simp only [pz]
   refine PF.t 17 (by kernel_rfl) rfl (by intro u; go_simp; try rfl) ?_
   try simp only [pz]
   refine PF.d (by kernel_rfl) ?_
   go_wp2_with (refine wpList_buildJ0 rfl (ty := 45) rfl (build_mdlJ _) ?_; refine wpList_store_blk rfl (ty := 45) rfl (g := g6) (cs := (mdL zMdl (.slice none 0 0) (.slice none 0 0)).toArray) rfl rfl HBG6.out rfl (info_model rfl) (mdL_oneJ rfl rfl) ?_; rintro w9 hB9 hm9; refine Hid.out ?_)
   refine Lib.hid ?_
   have HB9 := Lib.hid hB9
   have HM9 := Lib.hid hm9
   clear hB9 hm9
   go_wp2_with fail
   exact bodyPost_ret (results_ct Tryz.results24 _ HB9.out rfl Tryz.underlying45 rfl (info_model rfl)) rfl (doesR_none HQ.out HT6.out HM9.out HG6.out)
 ·skip
  have HQ : Hid (doesM M C R = none) := by show _ = _; rw [HP.out, if_neg (fun h => by rw [hso] at h; cases h.1)]
  clear hso
  as_aux_lemma =>
   go_wp2_with fail
   refine PF.b (by kernel_rfl) (fun _ _ _ _ _ h => h) ?_
   have HT6 := Lib.hid HT6.out.drew
   have HB16 := Lib.hid HB16.out.drew
   have HBG6 := Lib.hid HBG6.out.drew
   have HN6 := Lib.hid (HN6.out.below ((Below.refl _ _).drew))
   have HB26 := Lib.hid HB26.out.drew
   have HB36 := Lib.hid HB36.out.drew
   refine PF.t 0 (by kernel_rfl) rfl (by intro u; go_simp; try rfl) ?_
   try simp only [pz]
   refine PF.t 1 (by kernel_rfl) rfl (by intro u; go_simp; try rfl) ?_
   try simp only [pz]
   refine PF.s 2 (by kernel_rfl) rfl ?_
   try simp only [pz]
   refine PF.s 3 (by kernel_rfl) rfl ?_
   try simp only [pz]
   refine PF.s 4 (by kernel_rfl) rfl ?_
   try simp only [pz]
   refine PF.t 5 (by kernel_rfl) rfl (by intro u; go_simp; try rfl) ?_
   try simp only [pz]
   refine PF.t 6 (by kernel_rfl) rfl (by intro u; go_simp; try rfl) ?_
   try simp only [pz]
   refine PF.s 7 (by kernel_rfl) rfl ?_
   try simp only [pz]
   refine PF.s 8 (by kernel_rfl) rfl ?_
   try simp only [pz]
   refine PF.s 9 (by kernel_rfl) rfl ?_
   try simp only [pz]
   refine PF.s 10 (by kernel_rfl) rfl ?_
   try simp only [pz]
   refine PF.s 11 (by kernel_rfl) rfl ?_
   try simp only [pz]
   refine PF.s 13 (by kernel_rfl) rfl ?_
   try simp only [pz]
   refine PF.s 14 (by kernel_rfl) rfl ?_
   try simp only [pz]
   refine PF.k 12 (by kernel_rfl) rfl ?_
   try simp only [pz]
   refine PF.s 15 (by kernel_rfl) rfl ?_
   try simp only [pz]
   refine PF.s 16 (by kernel_rfl) rfl ?_
   try simp only [pz]
   refine PF.t 17 (by kernel_rfl) rfl (by intro u; go_simp; try rfl) ?_
   try simp only [pz]
   refine PF.d (by kernel_rfl) ?_
   go_wp2_with (refine wpList_buildJ0 rfl (ty := 45) rfl (build_mdlJ _) ?_; refine wpList_store_blk rfl (ty := 45) rfl (g := g6) (cs := (mdL zMdl (.slice none 0 0) (.slice none 0 0)).toArray) rfl rfl HBG6.out rfl (info_model rfl) (mdL_oneJ rfl rfl) ?_; rintro w9 hB9 hm9; refine Hid.out ?_)
   refine Lib.hid ?_
   have HB9 := Lib.hid hB9
   have HM9 := Lib.hid hm9
   clear hB9 hm9
   go_wp2_with fail
   exact bodyPost_ret (results_ct Tryz.results24 _ HB9.out rfl Tryz.underlying45 rfl (info_model rfl)) rfl (doesR_none HQ.out HT6.out HM9.out HG6.out)
 by_cases h0 : R.res = 0
 rotate_left
 ·skip
  have p0 : (R.res == 0) = false := beq_eq_false_iff_ne.2 h0
  have HQ : Hid (doesM M C R = none) := by show _ = _; rw [HP.out, if_neg (fun h => h0 h.2)]
  clear hso h0
  as_aux_lemma =>
   go_wp2_with fail
   refine PF.b (by kernel_rfl) (fun _ _ _ _ _ h => h) ?_
   have HT6 := Lib.hid HT6.out.drew
   have HB16 := Lib.hid HB16.out.drew
   have HBG6 := Lib.hid HBG6.out.drew
   have HN6 := Lib.hid (HN6.out.below ((Below.refl _ _).drew))
   have HB26 := Lib.hid HB26.out.drew
   have HB36 := Lib.hid HB36.out.drew
   refine PF.t 0 (by kernel_rfl) rfl (by intro u; go_simp; try rfl) ?_
   try simp only [pz]
   refine PF.t 1 (by kernel_rfl) rfl (by intro u; go_simp; try rfl) ?_
   try simp only [pz]
   refine PF.t 2 (by kernel_rfl) rfl (by intro u; go_simp; try rfl) ?_
   try simp only [pz]
   refine PF.m 3 ((w.heap.size+1+1)) (by kernel_rfl) rfl (fun hcu => by go_simp; try rfl) ?_
   try simp only [pz]
   refine PF.t 4 (by kernel_rfl) rfl (by intro u; go_simp; try rfl) ?_
   try simp only [pz]
   refine PF.t 5 (by kernel_rfl) rfl (by intro u; go_simp; try rfl) ?_
   try simp only [pz]
   refine PF.t 6 (by kernel_rfl) rfl (by intro u; go_simp; try rfl) ?_
   try simp only [pz]
   refine PF.s 7 (by kernel_rfl) rfl ?_
   try simp only [pz]
   refine PF.s 8 (by kernel_rfl) rfl ?_
   try simp only [pz]
   refine PF.s 9 (by kernel_rfl) rfl ?_
   try simp only [pz]
   refine PF.s 10 (by kernel_rfl) rfl ?_
   try simp only [pz]
   refine PF.s 11 (by kernel_rfl) rfl ?_
   try simp only [pz]
   refine PF.s 13 (by kernel_rfl) rfl ?_
   try simp only [pz]
   refine PF.s 14 (by kernel_rfl) rfl ?_
   try simp only [pz]
   refine PF.k 12 (by kernel_rfl) rfl ?_
   try simp only [pz]
   refine PF.s 15 (by kernel_rfl) rfl ?_
   try simp only [pz]
   refine PF.s 16 (by kernel_rfl) rfl ?_
   try simp only [pz]
   refine PF.t 17 (by kernel_rfl) rfl (by intro u; go_simp; try rfl) ?_
   try simp only [pz]
   refine PF.d (by kernel_rfl) ?_
   go_wp2_with (refine wpList_buildJ0 rfl (ty := 45) rfl (build_mdlJ _) ?_; refine wpList_store_blk rfl (ty := 45) rfl (g := g6) (cs := (mdL zMdl (.slice none 0 0) (.slice none 0 0)).toArray) rfl rfl HBG6.out rfl (info_model rfl) (mdL_oneJ rfl rfl) ?_; rintro w9 hB9 hm9; refine Hid.out ?_)
   refine Lib.hid ?_
   have HB9 := Lib.hid hB9
   have HM9 := Lib.hid hm9
   clear hB9 hm9
   go_wp2_with fail
   exact bodyPost_ret (results_ct Tryz.results24 _ HB9.out rfl Tryz.underlying45 rfl (info_model rfl)) rfl (doesR_none HQ.out HT6.out HM9.out HG6.out)
 have p0 : (R.res == 0) = true := beq_iff_eq.2 h0
 have HS1 : Hid (1 ≤ C.sub ∧ C.sub ≤ 3) := (of_decide_eq_true hso : 1 ≤ C.sub ∧ C.sub ≤ 3)
 obtain ⟨q, hq⟩ : ∃ q, q = (C.sub - 1).toNat := ⟨_, rfl⟩
 have HSQ : Hid (C.sub = (q : Int) + 1) := by have := HS1.out; show _ = _; omega
 have HQ3 : Hid (q < 3) := by have := HS1.out; show _ < _; omega
 obtain ⟨x, hx⟩ : ∃ x, x = getC (ownM M) C := ⟨_, rfl⟩
 have HCX : Hid (curS (ownM M) C.sub = x) := by show _ = _; rw [hx]; exact curS_getC hso
 by_cases ha : x < C.at_
 ·skip
  have hcy : curTo (ownM M) C = C.at_ := by rw [HCT.out, ← hx]; omega
  have a0 : decide (x < C.at_) = true := decide_eq_true ha
  have a1 : decide ((x : Int) < (C.at_ : Int)) = true := decide_eq_true (by omega)
  have HP2 : Hid (doesM M C R = if R.at_ = C.at_ then some (setC (ownM M) C C.at_) else none) := by show _ = _; rw [HP.out, if_pos ⟨hso, h0⟩, hcy]
  by_cases he : R.at_ = C.at_
  ·skip
   have e0 : (R.at_ == C.at_) = true := beq_iff_eq.2 he
   have e1 : ((R.at_ : Int) == (C.at_ : Int)) = true := beq_iff_eq.2 (by omega)
   have HQ : Hid (doesM M C R = some { ownM (ownM M) with cur := (own3 (ownM M).cur).set q R.at_ }) := by show _ = _; rw [HP2.out, if_pos he, ← he]; unfold setC; rw [← hq]; rfl
   clear hso h0 hq hcy he hx
   go_wp2_with fail
   refine PF.b (by kernel_rfl) (fun _ _ _ _ _ h => h) ?_
   have HT6 := Lib.hid HT6.out.drew
   have HB16 := Lib.hid HB16.out.drew
   have HBG6 := Lib.hid HBG6.out.drew
   have HN6 := Lib.hid (HN6.out.below ((Below.refl _ _).drew))
   have HB26 := Lib.hid HB26.out.drew
   have HB36 := Lib.hid HB36.out.drew
   refine PF.t 0 (by kernel_rfl) rfl (by intro u; go_simp; try rfl) ?_
   try simp only [pz]
   refine PF.t 1 (by kernel_rfl) rfl (by intro u; go_simp; try rfl) ?_
   try simp only [pz]
   refine PF.t 2 (by kernel_rfl) rfl (by intro u; go_simp; try rfl) ?_
   try simp only [pz]
   refine PF.m 3 ((w.heap.size+1+1)) (by kernel_rfl) rfl (fun hcu => by go_simp; try rfl) ?_
   try simp only [pz]
   refine PF.t 4 (by kernel_rfl) rfl (by intro u; go_simp; try rfl) ?_
   try simp only [pz]
   refine PF.t 5 (by kernel_rfl) rfl (by intro u; go_simp; try rfl) ?_
   try simp only [pz]
   refine PF.t 6 (by kernel_rfl) rfl (by intro u; go_simp; try rfl) ?_
   try simp only [pz]
   refine PF.t 7 (by kernel_rfl) rfl (by intro u; go_simp; try rfl) ?_
   try simp only [pz]
   refine PF.m 8 ((w.heap.size+1+1)) (by kernel_rfl) rfl (fun hcu => by go_simp; try rfl) ?_
   try simp only [pz]
   refine PF.u 9 ((fun u => Blk u w.heap.size 45 (mdL (ownM M) (.slice A E.length c) (.slice (some ⟨g, 0, none⟩) 3 3)).toArray)) (by kernel_rfl) rfl (HB16.out) (fun u hu => exec_load_blk rfl rfl hu Tryz.underlying45 rfl (info_model rfl)) ?_
   try simp only [pz]
   refine PF.t 10 (by kernel_rfl) rfl (by intro u; go_simp; try rfl) ?_
   try simp only [pz]
   refine PF.m 11 ((w.heap.size+1)) (by kernel_rfl) rfl (fun hcu => by go_simp; try rfl) ?_
   try simp only [pz]
   refine PF.t 13 (by kernel_rfl) rfl (by intro u; go_simp; try rfl) ?_
   try simp only [pz]
   refine PF.m 14 ((w.heap.size+1)) (by kernel_rfl) rfl (fun hcu => by go_simp; try rfl) ?_
   try simp only [pz]
   refine PF.e 12 (by kernel_rfl) rfl fun K hK => ?_
   go_simp
   refine (rcursor_any (M := ownM M) HN6.out.2 rfl C.sub (by have := HS1.out; omega)).mono ?_
   rintro e w7 ⟨rfl, hb7⟩
   rw [HCX.out]
   have q1 : PF.Same w.heap.size w6.drew w7 := hb7.block _ HB16.out.lt
   have q2 : PF.Same (w.heap.size + 1) w6.drew w7 := hb7.block _ HB26.out.lt
   have q3 : PF.Same (w.heap.size + 1 + 1) w6.drew w7 := hb7.block _ HB36.out.lt
   have HB26 := Bb HB26 hb7
   have HB36 := Bb HB36 hb7
   have HT6 := Tt HT6 hb7
   have HB16 := Bb HB16 hb7
   have HBG6 := Bb HBG6 hb7
   have HN6 := Lib.hid (HN6.out.below hb7)
   clear hb7
   refine hK (by repeat (first | exact PF.n | refine PF.l ?_ | refine PF.o (by decide +kernel) ?_ | refine PF.y (by first | rfl | assumption | go_simp) ?_)) ?_
   clear hK K
   try simp only [pz]
   refine PF.t 15 (by kernel_rfl) rfl (by intro u; go_simp; try rfl) ?_
   try simp only [pz]
   refine PF.t 16 (by kernel_rfl) rfl (by intro u; go_simp; try rfl) ?_
   try simp only [pz]
   refine PF.t 17 (by kernel_rfl) rfl (by intro u; go_simp; try rfl) ?_
   try simp only [pz]
   refine PF.d (by kernel_rfl) ?_
   have k5 := (HB26.out.cell 5).trans (rfl : _ = some (Value.int .i64 C.sub))
   have r4 := (HB36.out.cell 4).trans (rfl : _ = some (Value.int .u64 (R.at_ : Int)))
   go_wp2_with (refine wpList_load_blk rfl (ty := 45) rfl (g := w.heap.size) rfl HB16.out Tryz.underlying45 rfl (info_model rfl) ?_; refine Hid.out ?_)
   refine Lib.hid ?_
   go_wp2_with fail
   rw [HSQ.out]
   refine (rset_any (M := ownM M) HN6.out HHH.out.1 HHH.out.2.1 HQ3.out R.at_).mono ?_
   rintro e w8 ⟨⟨v7, rfl, vl7, g7, rfl, hsl7, hbg7, h37, hgB7⟩, hb7⟩
   have hov7 := hsl7.one
   have HT7 := Tt HT6 hb7
   have HBG7 := Bb HBG6 hb7
   have HL7 : Hid (g6 < w7.heap.size) := HBG6.out.lt
   have HN7 := Lib.hid (ROwn.mdf hsl7 hbg7 h37 hgB7)
   clear hsl7 hbg7 h37 hgB7 hb7
   go_wp2_with (refine wpList_store_blk rfl (ty := 45) rfl (g := g6) (cs := (mdL { ownM (ownM M) with cur := (own3 (ownM M).cur).set q R.at_ } vl7 (.slice (some ⟨g7, 0, none⟩) 3 3)).toArray) rfl rfl HBG7.out rfl (info_model rfl) (mdL_oneJ hov7 rfl) ?_; rintro w9 hB9 hm9; refine Hid.out ?_)
   refine Lib.hid ?_
   have HB9 := Lib.hid hB9
   have HM9 := Lib.hid hm9
   clear hB9 hm9
   go_wp2_with fail
   exact bodyPost_ret (results_ct Tryz.results24 _ HB9.out rfl Tryz.underlying45 rfl (info_model rfl)) rfl (doesR_own HQ.out HT7.out HM9.out HG6.out HN7.out HL7.out)
  ·skip
   have e0 : (R.at_ == C.at_) = false := beq_eq_false_iff_ne.2 he
   have e1 : ((R.at_ : Int) == (C.at_ : Int)) = false := beq_eq_false_iff_ne.2 (by omega)
   have HQ : Hid (doesM M C R = none) := by show _ = _; rw [HP2.out, if_neg he]
   clear hso h0 hq hcy he hx
   go_wp2_with fail
   refine PF.b (by kernel_rfl) (fun _ _ _ _ _ h => h) ?_
   have HT6 := Lib.hid HT6.out.drew
   have HB16 := Lib.hid HB16.out.drew
   have HBG6 := Lib.hid HBG6.out.drew
   have HN6 := Lib.hid (HN6.out.below ((Below.refl _ _).drew))
   have HB26 := Lib.hid HB26.out.drew
   have HB36 := Lib.hid HB36.out.drew
   refine PF.t 0 (by kernel_rfl) rfl (by intro u; go_simp; try rfl) ?_
   try simp only [pz]
   refine PF.t 1 (by kernel_rfl) rfl (by intro u; go_simp; try rfl) ?_
   try simp only [pz]
   refine PF.t 2 (by kernel_rfl) rfl (by intro u; go_simp; try rfl) ?_
   try simp only [pz]
   refine PF.m 3 ((w.heap.size+1+1)) (by kernel_rfl) rfl (fun hcu => by go_simp; try rfl) ?_
   try simp only [pz]
   refine PF.t 4 (by kernel_rfl) rfl (by intro u; go_simp; try rfl) ?_
   try simp only [pz]
   refine PF.t 5 (by kernel_rfl) rfl (by intro u; go_simp; try rfl) ?_
   try simp only [pz]
   refine PF.t 6 (by kernel_rfl) rfl (by intro u; go_simp; try rfl) ?_
   try simp only [pz]
   refine PF.t 7 (by kernel_rfl) rfl (by intro u; go_simp; try rfl) ?_
   try simp only [pz]
   refine PF.m 8 ((w.heap.size+1+1)) (by kernel_rfl) rfl (fun hcu => by go_simp; try rfl) ?_
   try simp only [pz]
   refine PF.u 9 ((fun u => Blk u w.heap.size 45 (mdL (ownM M) (.slice A E.length c) (.slice (some ⟨g, 0, none⟩) 3 3)).toArray)) (by kernel_rfl) rfl (HB16.out) (fun u hu => exec_load_blk rfl rfl hu Tryz.underlying45 rfl (info_model rfl)) ?_
   try simp only [pz]
   refine PF.t 10 (by kernel_rfl) rfl (by intro u; go_simp; try rfl) ?_
   try simp only [pz]
   refine PF.m 11 ((w.heap.size+1)) (by kernel_rfl) rfl (fun hcu => by go_simp; try rfl) ?_
   try simp only [pz]
   refine PF.t 13 (by kernel_rfl) rfl (by intro u; go_simp; try rfl) ?_
   try simp only [pz]
   refine PF.m 14 ((w.heap.size+1)) (by kernel_rfl) rfl (fun hcu => by go_simp; try rfl) ?_
   try simp only [pz]
   refine PF.e 12 (by kernel_rfl) rfl fun K hK => ?_
   go_simp
   refine (rcursor_any (M := ownM M) HN6.out.2 rfl C.sub (by have := HS1.out; omega)).mono ?_
   rintro e w7 ⟨rfl, hb7⟩
   rw [HCX.out]
   have q1 : PF.Same w.heap.size w6.drew w7 := hb7.block _ HB16.out.lt
   have q2 : PF.Same (w.heap.size + 1) w6.drew w7 := hb7.block _ HB26.out.lt
   have q3 : PF.Same (w.heap.size + 1 + 1) w6.drew w7 := hb7.block _ HB36.out.lt
   have HB26 := Bb HB26 hb7
   have HB36 := Bb HB36 hb7
   have HT6 := Tt HT6 hb7
   have HB16 := Bb HB16 hb7
   have HBG6 := Bb HBG6 hb7
   have HN6 := Lib.hid (HN6.out.below hb7)
   clear hb7
   refine hK (by repeat (first | exact PF.n | refine PF.l ?_ | refine PF.o (by decide +kernel) ?_ | refine PF.y (by first | rfl | assumption | go_simp) ?_)) ?_
   clear hK K
   try simp only [pz]
   refine PF.t 15 (by kernel_rfl) rfl (by intro u; go_simp; try rfl) ?_
   try simp only [pz]
   refine PF.t 16 (by kernel_rfl) rfl (by intro u; go_simp; try rfl) ?_
   try simp only [pz]
   refine PF.t 17 (by kernel_rfl) rfl (by intro u; go_simp; try rfl) ?_
   try simp only [pz]
   refine PF.d (by kernel_rfl) ?_
   have k5 := (HB26.out.cell 5).trans (rfl : _ = some (Value.int .i64 C.sub))
   have r4 := (HB36.out.cell 4).trans (rfl : _ = some (Value.int .u64 (R.at_ : Int)))
   go_wp2_with (refine wpList_buildJ0 rfl (ty := 45) rfl (build_mdlJ _) ?_; refine wpList_store_blk rfl (ty := 45) rfl (g := g6) (cs := (mdL zMdl (.slice none 0 0) (.slice none 0 0)).toArray) rfl rfl HBG6.out rfl (info_model rfl) (mdL_oneJ rfl rfl) ?_; rintro w9 hB9 hm9; refine Hid.out ?_)
   refine Lib.hid ?_
   have HB9 := Lib.hid hB9
   have HM9 := Lib.hid hm9
   clear hB9 hm9
   go_wp2_with fail
   exact bodyPost_ret (results_ct Tryz.results24 _ HB9.out rfl Tryz.underlying45 rfl (info_model rfl)) rfl (doesR_none HQ.out HT6.out HM9.out HG6.out)
 ·skip
  have hcy : curTo (ownM M) C = x := by rw [HCT.out, ← hx]; omega
  have a0 : decide (x < C.at_) = false := decide_eq_false ha
  have a1 : decide ((x : Int) < (C.at_ : Int)) = false := decide_eq_false (by omega)
  have HP2 : Hid (doesM M C R = if R.at_ = x then some (setC (ownM M) C x) else none) := by show _ = _; rw [HP.out, if_pos ⟨hso, h0⟩, hcy]
  by_cases he : R.at_ = x
  ·skip
   have e0 : (R.at_ == x) = true := beq_iff_eq.2 he
   have e1 : ((R.at_ : Int) == (x : Int)) = true := beq_iff_eq.2 (by omega)
   have HQ : Hid (doesM M C R = some { ownM (ownM M) with cur := (own3 (ownM M).cur).set q R.at_ }) := by show _ = _; rw [HP2.out, if_pos he, ← he]; unfold setC; rw [← hq]; rfl
   clear hso h0 hq hcy he hx
   go_wp2_with fail
   refine PF.b (by kernel_rfl) (fun _ _ _ _ _ h => h) ?_
   have HT6 := Lib.hid HT6.out.drew
   have HB16 := Lib.hid HB16.out.drew
   have HBG6 := Lib.hid HBG6.out.drew
   have HN6 := Lib.hid (HN6.out.below ((Below.refl _ _).drew))
   have HB26 := Lib.hid HB26.out.drew
   have HB36 := Lib.hid HB36.out.drew
   refine PF.t 0 (by kernel_rfl) rfl (by intro u; go_simp; try rfl) ?_
   try simp only [pz]
   refine PF.t 1 (by kernel_rfl) rfl (by intro u; go_simp; try rfl) ?_
   try simp only [pz]
   refine PF.t 2 (by kernel_rfl) rfl (by intro u; go_simp; try rfl) ?_
   try simp only [pz]
   refine PF.m 3 ((w.heap.size+1+1)) (by kernel_rfl) rfl (fun hcu => by go_simp; try rfl) ?_
   try simp only [pz]
   refine PF.t 4 (by kernel_rfl) rfl (by intro u; go_simp; try rfl) ?_
   try simp only [pz]
   refine PF.t 5 (by kernel_rfl) rfl (by intro u; go_simp; try rfl) ?_
   try simp only [pz]
   refine PF.t 6 (by kernel_rfl) rfl (by intro u; go_simp; try rfl) ?_
   try simp only [pz]
   refine PF.t 7 (by kernel_rfl) rfl (by intro u; go_simp; try rfl) ?_
   try simp only [pz]
   refine PF.m 8 ((w.heap.size+1+1)) (by kernel_rfl) rfl (fun hcu => by go_simp; try rfl) ?_
   try simp only [pz]
   refine PF.u 9 ((fun u => Blk u w.heap.size 45 (mdL (ownM M) (.slice A E.length c) (.slice (some ⟨g, 0, none⟩) 3 3)).toArray)) (by kernel_rfl) rfl (HB16.out) (fun u hu => exec_load_blk rfl rfl hu Tryz.underlying45 rfl (info_model rfl)) ?_
   try simp only [pz]
   refine PF.t 10 (by kernel_rfl) rfl (by intro u; go_simp; try rfl) ?_
   try simp only [pz]
   refine PF.m 11 ((w.heap.size+1)) (by kernel_rfl) rfl (fun hcu => by go_simp; try rfl) ?_
   try simp only [pz]
   refine PF.t 13 (by kernel_rfl) rfl (by intro u; go_simp; try rfl) ?_
   try simp only [pz]
   refine PF.m 14 ((w.heap.size+1)) (by kernel_rfl) rfl (fun hcu => by go_simp; try rfl) ?_
   try simp only [pz]
   refine PF.e 12 (by kernel_rfl) rfl fun K hK => ?_
   go_simp
   refine (rcursor_any (M := ownM M) HN6.out.2 rfl C.sub (by have := HS1.out; omega)).mono ?_
   rintro e w7 ⟨rfl, hb7⟩
   rw [HCX.out]
   have q1 : PF.Same w.heap.size w6.drew w7 := hb7.block _ HB16.out.lt
   have q2 : PF.Same (w.heap.size + 1) w6.drew w7 := hb7.block _ HB26.out.lt
   have q3 : PF.Same (w.heap.size + 1 + 1) w6.drew w7 := hb7.block _ HB36.out.lt
   have HB26 := Bb HB26 hb7
   have HB36 := Bb HB36 hb7
   have HT6 := Tt HT6 hb7
   have HB16 := Bb HB16 hb7
   have HBG6 := Bb HBG6 hb7
   have HN6 := Lib.hid (HN6.out.below hb7)
   clear hb7
   refine hK (by repeat (first | exact PF.n | refine PF.l ?_ | refine PF.o (by decide +kernel) ?_ | refine PF.y (by first | rfl | assumption | go_simp) ?_)) ?_
   clear hK K
   try simp only [pz]
   refine PF.t 15 (by kernel_rfl) rfl (by intro u; go_simp; try rfl) ?_
   try simp only [pz]
   refine PF.t 16 (by kernel_rfl) rfl (by intro u; go_simp; try rfl) ?_
   try simp only [pz]
   refine PF.t 17 (by kernel_rfl) rfl (by intro u; go_simp; try rfl) ?_
   try simp only [pz]
   refine PF.d (by kernel_rfl) ?_
   have k5 := (HB26.out.cell 5).trans (rfl : _ = some (Value.int .i64 C.sub))
   have r4 := (HB36.out.cell 4).trans (rfl : _ = some (Value.int .u64 (R.at_ : Int)))
   go_wp2_with (refine wpList_load_blk rfl (ty := 45) rfl (g := w.heap.size) rfl HB16.out Tryz.underlying45 rfl (info_model rfl) ?_; refine Hid.out ?_)
   refine Lib.hid ?_
   go_wp2_with fail
   rw [HSQ.out]
   refine (rset_any (M := ownM M) HN6.out HHH.out.1 HHH.out.2.1 HQ3.out R.at_).mono ?_
   rintro e w8 ⟨⟨v7, rfl, vl7, g7, rfl, hsl7, hbg7, h37, hgB7⟩, hb7⟩
   have hov7 := hsl7.one
   have HT7 := Tt HT6 hb7
   have HBG7 := Bb HBG6 hb7
   have HL7 : Hid (g6 < w7.heap.size) := HBG6.out.lt
   have HN7 := Lib.hid (ROwn.mdf hsl7 hbg7 h37 hgB7)
   clear hsl7 hbg7 h37 hgB7 hb7
   go_wp2_with (refine wpList_store_blk rfl (ty := 45) rfl (g := g6) (cs := (mdL { ownM (ownM M) with cur := (own3 (ownM M).cur).set q R.at_ } vl7 (.slice (some ⟨g7, 0, none⟩) 3 3)).toArray) rfl rfl HBG7.out rfl (info_model rfl) (mdL_oneJ hov7 rfl) ?_; rintro w9 hB9 hm9; refine Hid.out ?_)
   refine Lib.hid ?_
   have HB9 := Lib.hid hB9
   have HM9 := Lib.hid hm9
   clear hB9 hm9
   go_wp2_with fail
   exact bodyPost_ret (results_ct Tryz.results24 _ HB9.out rfl Tryz.underlying45 rfl (info_model rfl)) rfl (doesR_own HQ.out HT7.out HM9.out HG6.out HN7.out HL7.out)
  ·skip
   have e0 : (R.at_ == x) = false := beq_eq_false_iff_ne.2 he
   have e1 : ((R.at_ : Int) == (x : Int)) = false := beq_eq_false_iff_ne.2 (by omega)
   have HQ : Hid (doesM M C R = none) := by show _ = _; rw [HP2.out, if_neg he]
   clear hso h0 hq hcy he hx
   go_wp2_with fail
   refine PF.b (by kernel_rfl) (fun _ _ _ _ _ h => h) ?_
   have HT6 := Lib.hid HT6.out.drew
   have HB16 := Lib.hid HB16.out.drew
   have HBG6 := Lib.hid HBG6.out.drew
   have HN6 := Lib.hid (HN6.out.below ((Below.refl _ _).drew))
   have HB26 := Lib.hid HB26.out.drew
   have HB36 := Lib.hid HB36.out.drew
   refine PF.t 0 (by kernel_rfl) rfl (by intro u; go_simp; try rfl) ?_
   try simp only [pz]
   refine PF.t 1 (by kernel_rfl) rfl (by intro u; go_simp; try rfl) ?_
   try simp only [pz]
   refine PF.t 2 (by kernel_rfl) rfl (by intro u; go_simp; try rfl) ?_
   try simp only [pz]
   refine PF.m 3 ((w.heap.size+1+1)) (by kernel_rfl) rfl (fun hcu => by go_simp; try rfl) ?_
   try simp only [pz]
   refine PF.t 4 (by kernel_rfl) rfl (by intro u; go_simp; try rfl) ?_
   try simp only [pz]
   refine PF.t 5 (by kernel_rfl) rfl (by intro u; go_simp; try rfl) ?_
   try simp only [pz]
   refine PF.t 6 (by kernel_rfl) rfl (by intro u; go_simp; try rfl) ?_
   try simp only [pz]
   refine PF.t 7 (by kernel_rfl) rfl (by intro u; go_simp; try rfl) ?_
   try simp only [pz]
   refine PF.m 8 ((w.heap.size+1+1)) (by kernel_rfl) rfl (fun hcu => by go_simp; try rfl) ?_
   try simp only [pz]
   refine PF.u 9 ((fun u => Blk u w.heap.size 45 (mdL (ownM M) (.slice A E.length c) (.slice (some ⟨g, 0, none⟩) 3 3)).toArray)) (by kernel_rfl) rfl (HB16.out) (fun u hu => exec_load_blk rfl rfl hu Tryz.underlying45 rfl (info_model rfl)) ?_
   try simp only [pz]
   refine PF.t 10 (by kernel_rfl) rfl (by intro u; go_simp; try rfl) ?_
   try simp only [pz]
   refine PF.m 11 ((w.heap.size+1)) (by kernel_rfl) rfl (fun hcu => by go_simp; try rfl) ?_
   try simp only [pz]
   refine PF.t 13 (by kernel_rfl) rfl (by intro u; go_simp; try rfl) ?_
   try simp only [pz]
   refine PF.m 14 ((w.heap.size+1)) (by kernel_rfl) rfl (fun hcu => by go_simp; try rfl) ?_
   try simp only [pz]
   refine PF.e 12 (by kernel_rfl) rfl fun K hK => ?_
   go_simp
   refine (rcursor_any (M := ownM M) HN6.out.2 rfl C.sub (by have := HS1.out; omega)).mono ?_
   rintro e w7 ⟨rfl, hb7⟩
   rw [HCX.out]
   have q1 : PF.Same w.heap.size w6.drew w7 := hb7.block _ HB16.out.lt
   have q2 : PF.Same (w.heap.size + 1) w6.drew w7 := hb7.block _ HB26.out.lt
   have q3 : PF.Same (w.heap.size + 1 + 1) w6.drew w7 := hb7.block _ HB36.out.lt
   have HB26 := Bb HB26 hb7
   have HB36 := Bb HB36 hb7
   have HT6 := Tt HT6 hb7
   have HB16 := Bb HB16 hb7
   have HBG6 := Bb HBG6 hb7
   have HN6 := Lib.hid (HN6.out.below hb7)
   clear hb7
   refine hK (by repeat (first | exact PF.n | refine PF.l ?_ | refine PF.o (by decide +kernel) ?_ | refine PF.y (by first | rfl | assumption | go_simp) ?_)) ?_
   clear hK K
   try simp only [pz]
   refine PF.t 15 (by kernel_rfl) rfl (by intro u; go_simp; try rfl) ?_
   try simp only [pz]
   refine PF.t 16 (by kernel_rfl) rfl (by intro u; go_simp; try rfl) ?_
   try simp only [pz]
   refine PF.t 17 (by kernel_rfl) rfl (by intro u; go_simp; try rfl) ?_
   try simp only [pz]
   refine PF.d (by kernel_rfl) ?_
   have k5 := (HB26.out.cell 5).trans (rfl : _ = some (Value.int .i64 C.sub))
   have r4 := (HB36.out.cell 4).trans (rfl : _ = some (Value.int .u64 (R.at_ : Int)))
   go_wp2_with (refine wpList_buildJ0 rfl (ty := 45) rfl (build_mdlJ _) ?_; refine wpList_store_blk rfl (ty := 45) rfl (g := g6) (cs := (mdL zMdl (.slice none 0 0) (.slice none 0 0)).toArray) rfl rfl HBG6.out rfl (info_model rfl) (mdL_oneJ rfl rfl) ?_; rintro w9 hB9 hm9; refine Hid.out ?_)
   refine Lib.hid ?_
   have HB9 := Lib.hid hB9
   have HM9 := Lib.hid hm9
   clear hB9 hm9
   go_wp2_with fail
   exact bodyPost_ret (results_ct Tryz.results24 _ HB9.out rfl Tryz.underlying45 rfl (info_model rfl)) rfl (doesR_none HQ.out HT6.out HM9.out HG6.out)
end Go.Proofs.YtpjmolnkmlpfeaaGreatDoor
