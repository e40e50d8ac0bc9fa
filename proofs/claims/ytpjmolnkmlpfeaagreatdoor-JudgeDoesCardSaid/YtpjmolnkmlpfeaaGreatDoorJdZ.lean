/- What any call does to any model, beside the document's. -/
import Derived.Test.YtpjmolnkmlpfeaaGreatDoorJBB
import Derived.Test.YtpjmolnkmlpfeaaGreatDoorJBG
import Derived.Test.YtpjmolnkmlpfeaaGreatDoorJBC
import Derived.Test.YtpjmolnkmlpfeaaGreatDoorJuLd
import Derived.Test.YtpjmolnkmlpfeaaGreatDoorJBF
namespace Go.Proofs.YtpjmolnkmlpfeaaGreatDoor.JudgeDoes
set_option linter.unusedVariables false
set_option linter.unusedSimpArgs false
set_option maxRecDepth 100000
open Go.RowKit

theorem infoj_model3 {vs : List Value} (h : vs.length = 3) : (Tryz.prog.info? 45).map (·.size) = some vs.length := by rw [h]; kernel_rfl
theorem sameM_refl (M : Mdl) : sameM M M = true := by unfold sameM; simp
theorem four {w : World} {a b c d : Obj} : Below w.heap.size w ((((w.alloc a).alloc b).alloc c).alloc d) := ((((Below.refl _ _).alloc (Nat.le_refl _) _).alloc (by simp) _).alloc (by simp; omega) _).alloc (by simp; omega) _
set_option maxHeartbeats 32000000 in
theorem walk {w : World} (M : Mdl) (vl vc : Value) (h : MdF (fun _ => True) w vl vc M) (hin : MdIn M) (N : Mdl) (ul uc : Value) (h' : MdF (fun _ => True) w ul uc N) (hin' : MdIn N) (C : Cal) (v : Value) (hv : SlB (fun _ => True) w v C.body) (hc : CalOk C) (R : Rep) (vr : Value) (hvr : SlB (fun _ => True) w vr R.body) (hr : RepOk R) (hrl : R.body.length ≤ 140737488351232) :
  Calls Tryz.prog 8 #[.agg (mdL M vl vc).toArray, .agg (mdL N ul uc).toArray, .agg (calL C v).toArray, .agg (repL R vr).toArray] w fun e w' => e = .returned (.bool true) ∧ Below w.heap.size w w' := by
 have haw : ∀ w5, Below w.heap.size w w5 → Calls Tryz.prog 9 #[] w5 fun e w' => e = .returned (.bool true) ∧ Below w.heap.size w w' := fun w2 h2 => (awake_any w2).mono fun e w' ⟨h1, h3⟩ => ⟨h1, h2.trans (h3.mono h2.size)⟩
 have HAW := Lib.hid haw
 have hvl := h.1.one
 have hvc := h.2.one
 have hul := h'.1.one
 have huc := h'.2.one
 obtain ⟨Db, cb, eb, _⟩ := id hv
 subst eb
 obtain ⟨Dr, cr, er, _⟩ := id hvr
 subst er
 obtain ⟨W0, hW0⟩ : ∃ W0, W0 = (((w.alloc (.cells (mdL M vl vc).toArray 45)).alloc (.cells (mdL N ul uc).toArray 45)).alloc (.cells (calL C (.slice Db C.body.length cb)).toArray 25)).alloc (.cells (repL R (.slice Dr R.body.length cr)).toArray 32) := ⟨_, rfl⟩
 have hX0 : Blk W0 w.heap.size 45 (mdL M vl vc).toArray := by rw [hW0]; exact (((Blk.new _ _ _).alloc _).alloc _).alloc _
 have hX1 : Blk W0 (w.heap.size + 1) 45 (mdL N ul uc).toArray := by
  have := ((Blk.new (w.alloc (.cells (mdL M vl vc).toArray 45)) 45 (mdL N ul uc).toArray).alloc (.cells (calL C (.slice Db C.body.length cb)).toArray 25)).alloc (.cells (repL R (.slice Dr R.body.length cr)).toArray 32)
  rw [alloc_size] at this
  rw [hW0]
  exact this
 have hX2 : Blk W0 (w.heap.size + 1 + 1) 25 (calL C (.slice Db C.body.length cb)).toArray := by
  have := (Blk.new ((w.alloc (.cells (mdL M vl vc).toArray 45)).alloc (.cells (mdL N ul uc).toArray 45)) 25 (calL C (.slice Db C.body.length cb)).toArray).alloc (.cells (repL R (.slice Dr R.body.length cr)).toArray 32)
  rw [alloc_size, alloc_size] at this
  rw [hW0]
  exact this
 have hX3 : Blk W0 (w.heap.size + 1 + 1 + 1) 32 (repL R (.slice Dr R.body.length cr)).toArray := by
  have := Blk.new (((w.alloc (.cells (mdL M vl vc).toArray 45)).alloc (.cells (mdL N ul uc).toArray 45)).alloc (.cells (calL C (.slice Db C.body.length cb)).toArray 25)) 32 (repL R (.slice Dr R.body.length cr)).toArray
  rw [alloc_size, alloc_size, alloc_size] at this
  rw [hW0]
  exact this
 have hT : Below w.heap.size w W0 := by rw [hW0]; exact four
 have HX0 := Lib.hid hX0
 have HX1 := Lib.hid hX1
 have HX2 := Lib.hid hX2
 have HX3 := Lib.hid hX3
 have HT := Lib.hid hT
 have HM := Lib.hid h
 have HN := Lib.hid h'
 have HV := Lib.hid hv
 have HVR := Lib.hid hvr
 have HIN : Hid (MdIn M ∧ MdIn N ∧ CalOk C ∧ RepOk R) := ⟨hin, hin', hc, hr⟩
 have HRL := Lib.hid hrl
 have HW0 := Lib.hid hW0
 have a0 := (hX0.cell 0).trans (rfl : _ = some vl)
 have a1 := (hX0.cell 1).trans (rfl : _ = some (Value.int .u64 (M.trim : Int)))
 have a2 := (hX0.cell 2).trans (rfl : _ = some vc)
 rw [hW0] at a0 a1 a2
 clear haw hX0 hX1 hX2 hX3 hT h h' hv hvr hin hin' hc hr hrl hW0
 go_enter Tryz.func8, Tryz.ntmps8
 go_wp2_with fail
 rw [← HW0.out]
 refine (large_any (HM.out.below HT.out) (fun e he => (HIN.out.1.ent e he).2.2) HIN.out.1.curl HIN.out.1.log).mono ?_
 rintro e w1 ⟨⟨bl, rfl, hbl⟩, hb1⟩
 have HT := Tt HT hb1
 have HX0 := Bb HX0 hb1
 have HX1 := Bb HX1 hb1
 have HX2 := Bb HX2 hb1
 have HX3 := Bb HX3 hb1
 clear hb1 a0 a1 a2 HW0
 cases bl with
 | true =>
  go_wp2_with fail
  refine (HAW.out _ HT.out).mono ?_
  rintro e wa ⟨rfl, hba⟩
  go_wp2_with fail
  go_ret
  exact ⟨rfl, hba⟩
 | false =>
 have HBL := Lib.hid (hbl rfl)
 clear hbl
 have c0 := (HX1.out.cell 0).trans (rfl : _ = some ul)
 have c1 := (HX1.out.cell 1).trans (rfl : _ = some (Value.int .u64 (N.trim : Int)))
 have c2 := (HX1.out.cell 2).trans (rfl : _ = some uc)
 go_wp2_with fail
 refine (large_any (HN.out.below HT.out) (fun e he => (HIN.out.2.1.ent e he).2.2) HIN.out.2.1.curl HIN.out.2.1.log).mono ?_
 rintro e w2 ⟨⟨bl2, rfl, hbl2⟩, hb2⟩
 have HT := Tt HT hb2
 have HX0 := Bb HX0 hb2
 have HX1 := Bb HX1 hb2
 have HX2 := Bb HX2 hb2
 have HX3 := Bb HX3 hb2
 clear hb2 c0 c1 c2
 cases bl2 with
 | true =>
  go_wp2_with fail
  refine (HAW.out _ HT.out).mono ?_
  rintro e wa ⟨rfl, hba⟩
  go_wp2_with fail
  go_ret
  exact ⟨rfl, hba⟩
 | false =>
 have HBL2 := Lib.hid (hbl2 rfl)
 clear hbl2
 have k8 := (HX2.out.cell 8).trans (rfl : _ = some (Value.slice Db C.body.length cb))
 have r8 := (HX3.out.cell 8).trans (rfl : _ = some (Value.slice Dr R.body.length cr))
 by_cases hC : C.body.length ≤ 5000
 rotate_left
 ·skip
  have g0 : decide (5000 < C.body.length) = true := decide_eq_true (by omega)
  have g1 : decide ((5000 : Int) < (C.body.length : Int)) = true := decide_eq_true (by omega)
  go_wp2_with fail
  refine (HAW.out _ HT.out).mono ?_
  rintro e wa ⟨rfl, hba⟩
  go_wp2_with fail
  go_ret
  exact ⟨rfl, hba⟩
 have g0 : decide (5000 < C.body.length) = false := decide_eq_false (by omega)
 have g1 : decide ((5000 : Int) < (C.body.length : Int)) = false := decide_eq_false (by omega)
 have HC := Lib.hid hC
 clear hC
 by_cases hR : R.body.length ≤ 5000
 rotate_left
 ·skip
  have g2 : decide (5000 < R.body.length) = true := decide_eq_true (by omega)
  have g3 : decide ((5000 : Int) < (R.body.length : Int)) = true := decide_eq_true (by omega)
  go_wp2_with fail
  refine (HAW.out _ HT.out).mono ?_
  rintro e wa ⟨rfl, hba⟩
  go_wp2_with fail
  go_ret
  exact ⟨rfl, hba⟩
 have g2 : decide (5000 < R.body.length) = false := decide_eq_false (by omega)
 have g3 : decide ((5000 : Int) < (R.body.length : Int)) = false := decide_eq_false (by omega)
 have HR := Lib.hid hR
 clear hR
 have a0 := (HX0.out.cell 0).trans (rfl : _ = some vl)
 have a1 := (HX0.out.cell 1).trans (rfl : _ = some (Value.int .u64 (M.trim : Int)))
 have a2 := (HX0.out.cell 2).trans (rfl : _ = some vc)
 go_wp2_with fail
 refine (rown_any (HM.out.below HT.out) (Nat.le_trans HBL.out.1 (by decide)) HBL.out.2).mono ?_
 rintro e w3 ⟨⟨v3, rfl, vlw, gw, rfl, hslw, hbgw, hgw3, hgwB⟩, hb3⟩
 have howl := hslw.one
 have HWAS := Lib.hid ((ROwn.mdf hslw hbgw hgw3 hgwB).weak (K' := fun b => b < w3.heap.size) fun b hb _ => hb)
 have HT := Tt HT hb3
 have HX0 := Bb HX0 hb3
 have HX1 := Bb HX1 hb3
 have HX2 := Bb HX2 hb3
 have HX3 := Bb HX3 hb3
 have HL3 : Hid (w.heap.size + 1 + 1 + 1 < w3.heap.size) := HX3.out.lt
 clear hslw hbgw hgw3 hgwB hb3 a0 a1 a2 k8 r8 g0 g1 g2 g3
 go_wp2_with (refine wpList_alloc_blk rfl (ty := 45) rfl zero_model ?_; rintro g9 w4 hgz hB9 hb9; refine Hid.out ?_)
 refine Lib.hid ?_
 have HWAS := Lib.hid (HWAS.out.below hb9)
 have HT := Tt HT hb9
 have HX0 := Bb HX0 hb9
 have HX1 := Bb HX1 hb9
 have HX2 := Bb HX2 hb9
 have HX3 := Bb HX3 hb9
 have HG9 : Hid (g9 = w3.heap.size) := hgz.symm
 have HX9 := Lib.hid hB9
 clear hb9 hB9 hgz
 go_wp2_with (refine wpList_store_blk rfl (ty := 45) rfl (g := g9) (cs := (mdL (ownM M) vlw (.slice (some ⟨gw, 0, none⟩) 3 3)).toArray) rfl rfl HX9.out rfl (info_model rfl) (mdL_oneJ howl rfl) ?_; rintro w5 hB5 hm5; refine Hid.out ?_)
 refine Lib.hid ?_
 have HT := Lib.hid (HT.out.trans (hm5.to_below HT.out.size fun b hb e => by have := HG9.out; have := HL3.out; omega))
 have HX0 := Lib.hid (HX0.out.mod hm5 fun e => by have := HG9.out; have := HL3.out; omega)
 have HX1 := Lib.hid (HX1.out.mod hm5 fun e => by have := HG9.out; have := HL3.out; omega)
 have HX2 := Lib.hid (HX2.out.mod hm5 fun e => by have := HG9.out; have := HL3.out; omega)
 have HX3 := Lib.hid (HX3.out.mod hm5 fun e => by have := HG9.out; have := HL3.out; omega)
 have HWAS := Lib.hid (HWAS.out.mod hm5 fun b hb e => by have hb : b < w3.heap.size := hb; have := HG9.out; omega)
 have HX9 := Lib.hid hB5
 clear hB5 hm5
 go_wp2_with fail
 refine PF.b (by kernel_rfl) (fun _ _ _ _ _ h => h) ?_
 have HT := Lib.hid HT.out.drew
 have HX0 := Lib.hid HX0.out.drew
 have HX1 := Lib.hid HX1.out.drew
 have HX2 := Lib.hid HX2.out.drew
 have HX3 := Lib.hid HX3.out.drew
 have HX9 := Lib.hid HX9.out.drew
 have HWAS := Lib.hid (HWAS.out.below ((Below.refl _ _).drew))
 refine PF.u 0 ((fun u => Blk u w.heap.size 45 (mdL M vl vc).toArray)) (by kernel_rfl) rfl (HX0.out) (fun u hu => exec_load_blk rfl rfl hu Tryz.underlying45 rfl (info_model rfl)) ?_
 try simp only [pz]
 refine PF.u 1 ((fun u => Blk u (w.heap.size + 1) 45 (mdL N ul uc).toArray)) (by kernel_rfl) rfl (HX1.out) (fun u hu => exec_load_blk rfl rfl hu Tryz.underlying45 rfl (info_model rfl)) ?_
 try simp only [pz]
 refine PF.u 3 ((fun u => Blk u w.heap.size 45 (mdL M vl vc).toArray)) (by kernel_rfl) rfl (HX0.out) (fun u hu => exec_load_blk rfl rfl hu Tryz.underlying45 rfl (info_model rfl)) ?_
 try simp only [pz]
 refine PF.u 4 ((fun u => Blk u (w.heap.size + 1) 45 (mdL N ul uc).toArray)) (by kernel_rfl) rfl (HX1.out) (fun u hu => exec_load_blk rfl rfl hu Tryz.underlying45 rfl (info_model rfl)) ?_
 try simp only [pz]
 refine PF.e 2 (by kernel_rfl) rfl fun K hK => ?_
 go_simp
 refine (jsame_any (HM.out.below HT.out) (HN.out.below HT.out) (Nat.le_trans HBL.out.1 (by decide)) HBL.out.2 (Nat.le_trans HBL2.out.1 (by decide)) HBL2.out.2).mono ?_
 rintro e w6 ⟨rfl, hb⟩
 have HT := Tt HT hb
 have HX0 := Bb HX0 hb
 have HX1 := Bb HX1 hb
 have HX2 := Bb HX2 hb
 have HX3 := Bb HX3 hb
 have HX9 := Bb HX9 hb
 have HWAS := Lib.hid (HWAS.out.below hb)
 clear hb
 refine hK (by repeat (first | exact PF.n | refine PF.l ?_ | refine PF.o (by decide +kernel) ?_ | refine PF.y (by first | with_reducible exact HX0.out | with_reducible exact HX1.out) ?_)) ?_
 clear hK K
 try simp only [pz]
 refine PF.e 5 (by kernel_rfl) rfl fun K hK => ?_
 go_simp
 refine (rsame_any (HM.out.below HT.out) (HN.out.below HT.out) (Nat.le_trans HBL.out.1 (by decide))).mono ?_
 rintro e w7 ⟨rfl, hb⟩
 have HT := Tt HT hb
 have HX0 := Bb HX0 hb
 have HX1 := Bb HX1 hb
 have HX2 := Bb HX2 hb
 have HX3 := Bb HX3 hb
 have HX9 := Bb HX9 hb
 have HWAS := Lib.hid (HWAS.out.below hb)
 clear hb
 refine hK (by repeat (first | exact PF.n | refine PF.l ?_ | refine PF.o (by decide +kernel) ?_ | refine PF.y (by first | with_reducible exact HX0.out | with_reducible exact HX1.out) ?_)) ?_
 clear hK K
 try simp only [pz]
 refine PF.t 6 (by kernel_rfl) rfl (by intro u; go_simp; try rfl) ?_
 try simp only [pz]
 refine PF.t 7 (by kernel_rfl) rfl (by intro u; go_simp; try rfl) ?_
 try simp only [pz]
 refine PF.u 8 ((fun u => Blk u w.heap.size 45 (mdL M vl vc).toArray)) (by kernel_rfl) rfl (HX0.out) (fun u hu => exec_load_blk rfl rfl hu Tryz.underlying45 rfl (info_model rfl)) ?_
 try simp only [pz]
 refine PF.u 9 ((fun u => Blk u w.heap.size 45 (mdL M vl vc).toArray)) (by kernel_rfl) rfl (HX0.out) (fun u hu => exec_load_blk rfl rfl hu Tryz.underlying45 rfl (info_model rfl)) ?_
 try simp only [pz]
 refine PF.e 10 (by kernel_rfl) rfl fun K hK => ?_
 go_simp
 refine (jsame_any (HM.out.below HT.out) (HM.out.below HT.out) (Nat.le_trans HBL.out.1 (by decide)) HBL.out.2 (Nat.le_trans HBL.out.1 (by decide)) HBL.out.2).mono ?_
 rintro e w8 ⟨rfl, hb⟩
 rw [sameM_refl]
 have HT := Tt HT hb
 have HX0 := Bb HX0 hb
 have HX1 := Bb HX1 hb
 have HX2 := Bb HX2 hb
 have HX3 := Bb HX3 hb
 have HX9 := Bb HX9 hb
 have HWAS := Lib.hid (HWAS.out.below hb)
 clear hb
 refine hK (by repeat (first | exact PF.n | refine PF.l ?_ | refine PF.o (by decide +kernel) ?_ | refine PF.y (by first | with_reducible exact HX0.out | with_reducible exact HX1.out) ?_)) ?_
 clear hK K
 try simp only [pz]
 refine PF.t 11 (by kernel_rfl) rfl (by intro u; go_simp; try rfl) ?_
 try simp only [pz]
 refine PF.t 12 (by kernel_rfl) rfl (by intro u; go_simp; try rfl) ?_
 try simp only [pz]
 refine PF.d (by kernel_rfl) ?_
 obtain ⟨T, hTT⟩ : ∃ T, T = doesM M C R := ⟨_, rfl⟩
 have HTT := Lib.hid hTT
 clear hTT
 go_wp2_with (refine wpList_load_blk rfl (ty := 45) rfl (g := w.heap.size) rfl HX0.out Tryz.underlying45 rfl (info_model rfl) ?_; refine wpList_load_blk rfl (ty := 25) rfl (g := w.heap.size + 1 + 1) rfl HX2.out Tryz.underlying25 rfl (info_call rfl) ?_; refine wpList_load_blk rfl (ty := 32) rfl (g := w.heap.size + 1 + 1 + 1) rfl HX3.out Tryz.underlying32 rfl (info_reply rfl) ?_; refine Hid.out ?_)
 refine Lib.hid ?_
 go_wp2_with fail
 refine (does_wideW (HM.out.below HT.out) (HV.out.below HT.out) (HVR.out.below HT.out) (Nat.le_trans HBL.out.1 (by decide)) HBL.out.2 (Nat.le_trans HC.out (by decide)) (Nat.le_trans HR.out (by decide))).mono ?_
 rintro e w9 ⟨⟨v9, rfl, va, vca, rfl, hma⟩, hb⟩
 have HLZ : Hid (w3.heap.size ≤ w8.heap.size ∧ w8.heap.size ≤ w9.heap.size ∧ g9 < w8.heap.size) := ⟨by have := HX9.out.lt; rw [HG9.out] at this; exact Nat.le_of_lt this, hb.size, HX9.out.lt⟩
 rw [← HTT.out] at hma ⊢
 have HMA := Lib.hid hma
 have hoa := hma.mdf.1.one
 have hob := hma.mdf.2.one
 clear hma
 have HT := Tt HT hb
 have HX0 := Bb HX0 hb
 have HX1 := Bb HX1 hb
 have HX2 := Bb HX2 hb
 have HX3 := Bb HX3 hb
 have HX9 := Bb HX9 hb
 have HWAS := Lib.hid (HWAS.out.below hb)
 clear hb
 have HMA := Lib.hid ((HMA.out.weak (K' := fun b => w8.heap.size ≤ b ∧ b < w9.heap.size) fun b hb hk => ⟨hk, hb⟩))
 have HL9 : Hid (w3.heap.size ≤ w8.heap.size ∧ w8.heap.size ≤ w9.heap.size ∧ g9 < w8.heap.size) := HLZ.out
 clear HLZ
 go_wp2_with (refine wpList_alloc_blk rfl (ty := 45) rfl zero_model ?_; rintro g10 w10 hgz hBn hbn; refine Hid.out ?_)
 refine Lib.hid ?_
 have HGN : Hid (g10 = w9.heap.size) := hgz.symm
 have HT := Tt HT hbn
 have L_HX0 := HX0.out.lt
 have HX0 := Bb HX0 hbn
 have L_HX1 := HX1.out.lt
 have HX1 := Bb HX1 hbn
 have L_HX2 := HX2.out.lt
 have HX2 := Bb HX2 hbn
 have L_HX3 := HX3.out.lt
 have HX3 := Bb HX3 hbn
 have L_HX9 := HX9.out.lt
 have HX9 := Bb HX9 hbn
 have HWAS := Lib.hid (HWAS.out.below hbn)
 have HMA := Lib.hid (HMA.out.below hbn)
 go_wp2_with (refine wpList_store_blk rfl (ty := 45) rfl (g := g10) (cs := (mdL (T.getD zMdl) va vca).toArray) rfl rfl hBn rfl (info_model rfl) (mdL_oneJ hoa hob) ?_; rintro w11 hBs hms; refine Hid.out ?_)
 refine Lib.hid ?_
 have HT := Lib.hid (HT.out.trans (hms.to_below HT.out.size fun b hb e => by have := HGN.out; omega))
 have HX0 := Lib.hid (HX0.out.mod hms fun e => by have := HGN.out; omega)
 have HX1 := Lib.hid (HX1.out.mod hms fun e => by have := HGN.out; omega)
 have HX2 := Lib.hid (HX2.out.mod hms fun e => by have := HGN.out; omega)
 have HX3 := Lib.hid (HX3.out.mod hms fun e => by have := HGN.out; omega)
 have HX9 := Lib.hid (HX9.out.mod hms fun e => by have := HGN.out; omega)
 have HWAS := Lib.hid (HWAS.out.mod hms fun b hb e => by have hb : b < w3.heap.size := hb; have := HL9.out; have := HGN.out; omega)
 have HMA := Lib.hid (HMA.out.mod hms fun b hb e => by have hb2 : b < w9.heap.size := hb.2; have := HGN.out; omega)
 have HX_g10 := Lib.hid hBs
 clear hgz hBn hbn hBs hms L_HX0 L_HX1 L_HX2 L_HX3 L_HX9
 have HG10 := HGN
 clear HGN
 go_wp2_with (refine wpList_load_blk rfl (ty := 45) rfl (g := g9) rfl HX9.out Tryz.underlying45 rfl (info_model rfl) ?_; refine wpList_load_blk rfl (ty := 25) rfl (g := w.heap.size + 1 + 1) rfl HX2.out Tryz.underlying25 rfl (info_call rfl) ?_; refine wpList_load_blk rfl (ty := 32) rfl (g := w.heap.size + 1 + 1 + 1) rfl HX3.out Tryz.underlying32 rfl (info_reply rfl) ?_; refine Hid.out ?_)
 refine Lib.hid ?_
 go_wp2_with fail
 refine (rdoes_any (M := ownM M) HWAS.out (HV.out.below HT.out) (HVR.out.below HT.out) (Nat.le_trans HBL.out.1 (by decide)) HBL.out.2 (Nat.le_trans HC.out (by decide))).mono ?_
 rintro e w12 ⟨⟨v12, rfl, vb, vcb, rfl, hmb⟩, hb⟩
 rw [show doesM (ownM M) C R = T from HTT.out.symm] at hmb ⊢
 have HMB := Lib.hid (hmb.weak (K' := fun b => b < w12.heap.size) fun b hb _ => hb)
 have hbo1 := hmb.1.one
 have hbo2 := hmb.2.one
 clear hmb
 have HT := Tt HT hb
 have HX0 := Bb HX0 hb
 have HX1 := Bb HX1 hb
 have HX2 := Bb HX2 hb
 have HX3 := Bb HX3 hb
 have HX9 := Bb HX9 hb
 have HX_g10 := Bb HX_g10 hb
 have HWAS := Lib.hid (HWAS.out.below hb)
 have HMA := Lib.hid (HMA.out.below hb)
 clear hb
 go_wp2_with (refine wpList_alloc_blk rfl (ty := 45) rfl zero_model ?_; rintro g12 w13 hgz hBn hbn; refine Hid.out ?_)
 refine Lib.hid ?_
 have HGN : Hid (g12 = w12.heap.size) := hgz.symm
 have HT := Tt HT hbn
 have L_HX0 := HX0.out.lt
 have HX0 := Bb HX0 hbn
 have L_HX1 := HX1.out.lt
 have HX1 := Bb HX1 hbn
 have L_HX2 := HX2.out.lt
 have HX2 := Bb HX2 hbn
 have L_HX3 := HX3.out.lt
 have HX3 := Bb HX3 hbn
 have L_HX9 := HX9.out.lt
 have HX9 := Bb HX9 hbn
 have L_HX_g10 := HX_g10.out.lt
 have HX_g10 := Bb HX_g10 hbn
 have HWAS := Lib.hid (HWAS.out.below hbn)
 have HMA := Lib.hid (HMA.out.below hbn)
 have HMB := Lib.hid (HMB.out.below hbn)
 go_wp2_with (refine wpList_store_blk rfl (ty := 45) rfl (g := g12) (cs := (mdL (T.getD zMdl) vb vcb).toArray) rfl rfl hBn rfl (info_model rfl) (mdL_oneJ hbo1 hbo2) ?_; rintro w14 hBs hms; refine Hid.out ?_)
 refine Lib.hid ?_
 have HT := Lib.hid (HT.out.trans (hms.to_below HT.out.size fun b hb e => by have := HGN.out; omega))
 have HX0 := Lib.hid (HX0.out.mod hms fun e => by have := HGN.out; omega)
 have HX1 := Lib.hid (HX1.out.mod hms fun e => by have := HGN.out; omega)
 have HX2 := Lib.hid (HX2.out.mod hms fun e => by have := HGN.out; omega)
 have HX3 := Lib.hid (HX3.out.mod hms fun e => by have := HGN.out; omega)
 have HX9 := Lib.hid (HX9.out.mod hms fun e => by have := HGN.out; omega)
 have HX_g10 := Lib.hid (HX_g10.out.mod hms fun e => by have := HGN.out; omega)
 have HWAS := Lib.hid (HWAS.out.mod hms fun b hb e => by have hb : b < w3.heap.size := hb; have := HL9.out; have := L_HX_g10; have := HG10.out; have := HGN.out; omega)
 have HMA := Lib.hid (HMA.out.mod hms fun b hb e => by have hb2 : b < w9.heap.size := hb.2; have := L_HX_g10; have := HG10.out; have := HGN.out; omega)
 have HMB := Lib.hid (HMB.out.mod hms fun b hb e => by have hb : b < w12.heap.size := hb; have := HGN.out; omega)
 have HX_g12 := Lib.hid hBs
 clear hgz hBn hbn hBs hms L_HX0 L_HX1 L_HX2 L_HX3 L_HX9 L_HX_g10
 have HG12 := HGN
 clear HGN
 have HOK : Hid (Okm 3000 (T.getD zMdl)) := by show Okm 3000 _; rw [HTT.out]; exact does_okJ HBL.out.1 HBL.out.2 (Nat.le_trans HC.out (by decide))
 go_wp2_with (refine wpList_load_blkG (by kernel_rfl) (ty := 45) (g := g10) rfl rfl HX_g10.out Tryz.underlying45 rfl (info_model rfl) ?_; refine Hid.out ?_)
 refine Lib.hid ?_
 go_wp2_with (refine wpList_load_blkG (by kernel_rfl) (ty := 45) (g := g12) rfl rfl HX_g12.out Tryz.underlying45 rfl (info_model rfl) ?_; refine Hid.out ?_)
 refine Lib.hid ?_
 go_wp2_with fail
 refine (rsame_any HMA.out.mdf HMB.out (Nat.le_trans HOK.out.1 (by decide))).mono ?_
 rintro e w15 ⟨rfl, hb⟩
 rw [sameM_refl]
 have HT := Tt HT hb
 have HX0 := Bb HX0 hb
 have HX1 := Bb HX1 hb
 have HX2 := Bb HX2 hb
 have HX3 := Bb HX3 hb
 have HX9 := Bb HX9 hb
 have HX_g10 := Bb HX_g10 hb
 have HWAS := Lib.hid (HWAS.out.below hb)
 have HMA := Lib.hid (HMA.out.below hb)
 clear hb
 clear HMB
 go_wp2_with (refine wpList_load_blk rfl (ty := 45) rfl (g := g10) rfl HX_g10.out Tryz.underlying45 rfl (info_model rfl) ?_; refine Hid.out ?_)
 refine Lib.hid ?_
 go_wp2_with fail
 refine (spoilW HMA.out (Nat.le_trans HOK.out.1 (by decide)) (Nat.le_trans HOK.out.2.1 (by decide)) HOK.out.2.2).mono ?_
 rintro e w16 ⟨rfl, hsp⟩
 have HT := Lib.hid (HT.out.trans (hsp.to_below HT.out.size fun b hb e => by have h1 := e.1; have := HL9.out; have := HL3.out; omega))
 have HX0 := Lib.hid (HX0.out.mod hsp fun e => by have h1 := e.1; have := HL9.out; have := HL3.out; omega)
 have HX1 := Lib.hid (HX1.out.mod hsp fun e => by have h1 := e.1; have := HL9.out; have := HL3.out; omega)
 have HX2 := Lib.hid (HX2.out.mod hsp fun e => by have h1 := e.1; have := HL9.out; have := HL3.out; omega)
 have HX3 := Lib.hid (HX3.out.mod hsp fun e => by have h1 := e.1; have := HL9.out; have := HL3.out; omega)
 have HX9 := Lib.hid (HX9.out.mod hsp fun e => by have h1 := e.1; have := HL9.out; omega)
 have HWAS := Lib.hid (HWAS.out.mod hsp fun b hb e => by have hb : b < w3.heap.size := hb; have h1 := e.1; have := HL9.out; omega)
 clear hsp HMA HX_g10 HX_g12 HOK
 have HBS : Hid (w.heap.size + 1 + 1 + 1 < w16.heap.size ∧ g9 < w16.heap.size ∧ w3.heap.size ≤ w16.heap.size) := ⟨HX3.out.lt, HX9.out.lt, by have h1 := HX9.out.lt; have h2 := HG9.out; omega⟩
 clear HX1 HX3
 go_wp2_with fail
 refine PF.b (by kernel_rfl) (fun _ _ _ _ _ h => h) ?_
 have HT := Lib.hid HT.out.drew
 have HX0 := Lib.hid HX0.out.drew
 have HX2 := Lib.hid HX2.out.drew
 have HX9 := Lib.hid HX9.out.drew
 have HWAS := Lib.hid (HWAS.out.below ((Below.refl _ _).drew))
 refine PF.u 0 ((fun u => Blk u w.heap.size 45 (mdL M vl vc).toArray)) (by kernel_rfl) rfl (HX0.out) (fun u hu => exec_load_blk rfl rfl hu Tryz.underlying45 rfl (info_model rfl)) ?_
 try simp only [pz]
 refine PF.u 1 ((fun u => Blk u (w.heap.size + 1 + 1) 25 (calL C (.slice Db C.body.length cb)).toArray)) (by kernel_rfl) rfl (HX2.out) (fun u hu => exec_load_blk rfl rfl hu Tryz.underlying25 rfl (info_call rfl)) ?_
 try simp only [pz]
 refine PF.u 3 ((fun u => Blk u g9 45 (mdL (ownM M) vlw (.slice (some ⟨gw, 0, none⟩) 3 3)).toArray)) (by kernel_rfl) rfl (HX9.out) (fun u hu => exec_load_blk rfl rfl hu Tryz.underlying45 rfl (info_model rfl)) ?_
 try simp only [pz]
 refine PF.u 4 ((fun u => Blk u (w.heap.size + 1 + 1) 25 (calL C (.slice Db C.body.length cb)).toArray)) (by kernel_rfl) rfl (HX2.out) (fun u hu => exec_load_blk rfl rfl hu Tryz.underlying25 rfl (info_call rfl)) ?_
 try simp only [pz]
 refine PF.e 2 (by kernel_rfl) rfl fun K hK => ?_
 go_simp
 refine (might_wide (HM.out.below HT.out) (HV.out.below HT.out) (Nat.le_trans HBL.out.1 (by decide)) HBL.out.2 (Nat.le_trans HC.out (by decide)) HIN.out.1.trim HIN.out.2.2.1.at_).mono ?_
 rintro e w17 ⟨⟨xv, rfl, hxs⟩, hb⟩
 obtain ⟨Ex, hox, hex, lo, hi, hsep, hord⟩ := hxs
 obtain ⟨Ax, cx, rfl, hcx, hcx2⟩ := own_slice hox
 have HOX := Lib.hid (Reads.of_own hox)
 have HEX := Lib.hid hex
 have HSEP := Lib.hid hsep
 have HORD := Lib.hid hord
 have HLB : Hid (Ex.length ≤ 9223372036854775807) := Nat.le_trans hcx (by simpa [maxLen] using hcx2)
 clear hox hex hsep hord hcx hcx2
 have HT := Tt HT hb
 have HX0 := Bb HX0 hb
 have HX2 := Bb HX2 hb
 have HX9 := Bb HX9 hb
 have HWAS := Lib.hid (HWAS.out.below hb)
 clear hb
 refine hK (by repeat (first | exact PF.n | refine PF.l ?_ | refine PF.o (by decide +kernel) ?_ | refine PF.y (by first | with_reducible exact HX0.out | with_reducible exact HX2.out | with_reducible exact HX9.out) ?_)) ?_
 clear hK K
 try simp only [pz]
 refine PF.e 5 (by kernel_rfl) rfl fun K hK => ?_
 go_simp
 refine (rmight_any (M := ownM M) HWAS.out (HV.out.below HT.out) (Nat.le_trans HBL.out.1 (by decide)) HBL.out.2 (Nat.le_trans HC.out (by decide))).mono ?_
 rintro e w18 ⟨⟨yv, rfl, hys⟩, hb⟩
 obtain ⟨Ay, cy, Ey, rfl, hey, hry, hmy, hcy, hcy2, hky⟩ := hys
 have HEY : Hid (Ey.map (·.1) = mightM M C) := hey
 have HRY := Lib.hid hry
 have HMY := Lib.hid hmy
 have HKY := Lib.hid hky
 have HB18 := Lib.hid hb
 clear hey hry hmy hcy hcy2 hky
 have HT := Tt HT hb
 have HX0 := Bb HX0 hb
 have HX2 := Bb HX2 hb
 have HX9 := Bb HX9 hb
 have HWAS := Lib.hid (HWAS.out.below hb)
 clear hb
 refine hK (by repeat (first | exact PF.n | refine PF.l ?_ | refine PF.o (by decide +kernel) ?_ | refine PF.y (by first | with_reducible exact HX0.out | with_reducible exact HX2.out | with_reducible exact HX9.out) ?_)) ?_
 clear hK K
 try simp only [pz]
 refine PF.t 6 (by kernel_rfl) rfl (by intro u; go_simp; try rfl) ?_
 try simp only [pz]
 refine PF.t 7 (by kernel_rfl) rfl (by intro u; go_simp; try rfl) ?_
 try simp only [pz]
 refine PF.d (by kernel_rfl) ?_
 have hlen : Ex.length = Ey.length := by have h := (congrArg List.length HEX.out).trans (congrArg List.length HEY.out).symm; rwa [List.length_map, List.length_map] at h
 have HLN := Lib.hid hlen
 have e0 : (Ex.length != Ey.length) = false := by simp [hlen]
 have e1 : ((Ex.length : Int) != (Ey.length : Int)) = false := by simp [hlen]
 clear hlen
 go_wp2_with fail
 clear e0 e1
 go_loopw [16] (fun iv wr => ∃ k : Nat, k ≤ Ex.length ∧ iv = .int .i64 k ∧ Mod (fun b => ∃ i, ∃ h : i < Ex.length, i < k ∧ lo i ≤ b ∧ b < hi i) w18 wr) (fun iv _ => Ex.length - (intOf iv).toNat)
 case atStart => exact ⟨0, Nat.zero_le _, rfl, Mod.refl _ _⟩
 case round =>
  obtain ⟨k, hk, rfl, hm⟩ := hrel
  have hns : ∀ b, (∃ i, ∃ h : i < Ex.length, i < k ∧ lo i ≤ b ∧ b < hi i) → w16.heap.size ≤ b ∧ b < w17.heap.size := fun b ⟨i, h, _, h1, h2⟩ => ⟨Nat.le_trans (HSEP.out i h).2.1 h1, Nat.lt_of_lt_of_le h2 (HSEP.out i h).2.2.1⟩
  have HMR := Lib.hid hm
  have HNS := Lib.hid hns
  have HKN := Lib.hid hk
  have HTR := Lib.hid (HT.out.trans (hm.to_below HT.out.size fun b hb e => by have h1 := hns b e; have := HBS.out; omega))
  have HX0r := Lib.hid (HX0.out.mod hm fun e => by have h1 := hns _ e; have := HBS.out; omega)
  have HX9r := Lib.hid (HX9.out.mod hm fun e => by have h1 := hns _ e; have := HBS.out; omega)
  have HWASr := Lib.hid (HWAS.out.mod hm fun b hb e => by have hb : b < w3.heap.size := hb; have h1 := hns b e; have := HBS.out; omega)
  clear hns
  by_cases hlt : k < Ex.length
  rotate_left
  ·skip
   have l0 : decide (k < Ex.length) = false := decide_eq_false hlt
   have l1 : decide ((k : Int) < (Ex.length : Int)) = false := decide_eq_false (by omega)
   clear hlt hk hm
   go_wp2_with (refine wpList_load_blk rfl (ty := 45) rfl (g := w.heap.size) rfl HX0r.out Tryz.underlying45 rfl (info_model rfl) ?_; refine wpList_load_blk rfl (ty := 45) rfl (g := g9) rfl HX9r.out Tryz.underlying45 rfl (info_model rfl) ?_; refine Hid.out ?_)
   refine Lib.hid ?_
   go_wp2_with fail
   refine (rsame_any (HM.out.below HTR.out) HWASr.out (Nat.le_trans HBL.out.1 (by decide))).mono ?_
   rintro e w20 ⟨rfl, hb⟩
   rw [show sameM M (ownM M) = true from sameM_refl M]
   have HTR := Tt HTR hb
   clear hb
   go_wp2_with fail
   refine (HAW.out _ HTR.out).mono ?_
   rintro e wa ⟨rfl, hba⟩
   go_wp2_with fail
   go_ret
   exact ⟨rfl, hba⟩
  have l0 : decide (k < Ex.length) = true := decide_eq_true hlt
  have l1 : decide ((k : Int) < (Ex.length : Int)) = true := decide_eq_true (by omega)
  have l2 : (k : Int) < (Ex.length : Int) := by omega
  have hlt2 : k < Ey.length := by rw [← HLN.out]; exact hlt
  have l3 : (k : Int) < (Ey.length : Int) := by omega
  have hs := HSEP.out k hlt
  have hrx := rows_range mdE_len (by decide) ((Reads.below HOX.out HB18.out).mod hm fun ad ea ⟨i, h, hik, h1, h2⟩ => (HSEP.out i h).2.2.2 ad.block (by rw [ea]; rfl) ⟨h1, h2⟩) hlt
  have hry := rows_range mdE_len (by decide) (HRY.out.mod hm fun ad ea e => by have h1 := HNS.out _ e; have h2 := HKY.out (by omega) ad ea; omega) hlt2
  have hxk := (hs.1.below HB18.out).mod hm fun b hb ⟨i, h, hik, h1, h2⟩ => by have := HORD.out i k hik hlt; have := hb.1; omega
  have hyk := (HMY.out _ (List.getElem_mem hlt2)).mod hm fun b hb e => by have h1 := HNS.out _ e; have hb : w17.heap.size ≤ b := hb; omega
  have heq : Ey[k].1 = Ex[k].1 := by
   have h1 : (Ex.map (·.1))[k]? = (Ey.map (·.1))[k]? := by rw [HEX.out, HEY.out]
   rw [List.getElem?_map, List.getElem?_map, List.getElem?_eq_getElem hlt, List.getElem?_eq_getElem hlt2] at h1
   injection h1 with h1
   exact h1.symm
  have hok : Okm 3000 Ex[k].1 := might_okJ HBL.out.1 HBL.out.2 (Nat.le_trans HC.out (by decide)) _ (by rw [← HEX.out]; exact List.mem_map.2 ⟨_, List.getElem_mem hlt, rfl⟩)
  generalize Ex[k] = px at hrx hxk heq hok
  generalize Ey[k] = py at hry hyk heq
  obtain ⟨X, xl, xc⟩ := px
  obtain ⟨Y, yl, yc⟩ := py
  obtain rfl : Y = X := heq
  obtain ⟨bx, ox, rfl, hbx, hgx⟩ := hrx
  obtain ⟨by_, oy, rfl, hby, hgy⟩ := hry
  have HGX : Hid (wr.rangeAt bx (ox + k * 3) (mdL Y xl xc)) := hgx
  have HGY : Hid (wr.rangeAt by_ (oy + k * 3) (mdL Y yl yc)) := hgy
  have HXK : Hid (MdW (fun b => lo k ≤ b ∧ b < hi k) wr xl xc Y) := hxk
  have HYK : Hid (MdF (fun b => w17.heap.size ≤ b) wr yl yc Y) := hyk
  have HOK := Lib.hid hok
  have HLT := Lib.hid hlt
  have hw1 : IntKind.i64.wrap ((k : Int) + 1) = ((k + 1 : Nat) : Int) := by have := HLB.out; rw [IntKind.wrap_i64]; omega
  clear hs hgx hgy hxk hyk hok hlt hlt2 hk hm hbx hby
  have HSK : Hid (w16.heap.size ≤ lo k) := (HSEP.out k HLT.out).2.1
  go_wp2_with fail
  refine PF.b (by kernel_rfl) (fun _ _ _ _ _ h => h) ?_
  have HGX : Hid (wr.drew.rangeAt bx (ox + k * 3) (mdL Y xl xc)) := HGX.out
  have HGY : Hid (wr.drew.rangeAt by_ (oy + k * 3) (mdL Y yl yc)) := HGY.out
  have HTR := Lib.hid HTR.out.drew
  have HMR := Lib.hid HMR.out.drew
  have HXK := Lib.hid (HXK.out.below ((Below.refl _ _).drew))
  have HYK := Lib.hid (HYK.out.below ((Below.refl _ _).drew))
  refine PF.t 0 (by kernel_rfl) rfl (by intro u; go_simp; try rfl) ?_
  try simp only [pz]
  refine PF.t 1 (by kernel_rfl) rfl (by intro u; go_simp; try rfl) ?_
  try simp only [pz]
  refine PF.t 2 (by kernel_rfl) rfl (by intro u; go_simp; try rfl) ?_
  try simp only [pz]
  refine PF.u 3 ((fun u => u.rangeAt bx (ox + k * 3) (mdL Y xl xc))) (by kernel_rfl) rfl (HGX.out) (fun u hu => exec_load_rg rfl rfl hu Tryz.underlying45 rfl (infoj_model3 rfl)) ?_
  try simp only [pz]
  refine PF.t 4 (by kernel_rfl) rfl (by intro u; go_simp; try rfl) ?_
  try simp only [pz]
  refine PF.t 5 (by kernel_rfl) rfl (by intro u; go_simp; try rfl) ?_
  try simp only [pz]
  refine PF.t 6 (by kernel_rfl) rfl (by intro u; go_simp; try rfl) ?_
  try simp only [pz]
  refine PF.u 7 ((fun u => u.rangeAt by_ (oy + k * 3) (mdL Y yl yc))) (by kernel_rfl) rfl (HGY.out) (fun u hu => exec_load_rg rfl rfl hu Tryz.underlying45 rfl (infoj_model3 rfl)) ?_
  try simp only [pz]
  refine PF.e 8 (by kernel_rfl) rfl fun K hK => ?_
  go_simp
  refine (rsame_any HXK.out.mdf HYK.out (Nat.le_trans HOK.out.1 (by decide))).mono ?_
  rintro e w19 ⟨rfl, hb⟩
  rw [sameM_refl]
  have HGX := Lib.hid (rg_below HGX.out hb)
  have HTR := Tt HTR hb
  have HMR := Lib.hid (HMR.out.join (T := fun _ => False) (Mod.below hb (Nat.le_refl _)) (fun _ _ h => h.elim))
  have HXK := Lib.hid (HXK.out.below hb)
  clear hb
  refine hK (by repeat (first | exact PF.n | refine PF.l ?_ | refine PF.o (by decide +kernel) ?_ | refine PF.y (by first | with_reducible exact HGX.out | with_reducible exact HGY.out) ?_)) ?_
  clear hK K
  try simp only [pz]
  refine PF.t 9 (by kernel_rfl) rfl (by intro u; go_simp; try rfl) ?_
  try simp only [pz]
  refine PF.d (by kernel_rfl) ?_
  clear HGY HYK
  go_wp2_with (refine wpList_load_rg rfl (ty := 45) rfl (b := bx) (o := ox + k * 3) rfl (vs := mdL Y xl xc) HGX.out Tryz.underlying45 rfl (infoj_model3 rfl) ?_; refine Hid.out ?_)
  refine Lib.hid ?_
  go_wp2_with fail
  refine (spoilW HXK.out (Nat.le_trans HOK.out.1 (by decide)) (Nat.le_trans HOK.out.2.1 (by decide)) HOK.out.2.2).mono ?_
  rintro e w20 ⟨rfl, hsp⟩
  have HSP := Lib.hid hsp
  clear hsp
  go_wp2_with fail
  go_roundw
  case rel =>
   exact ⟨k + 1, HLT.out, rfl, (HMR.out.mono fun b _ ⟨i, h, h1, h2⟩ => ⟨i, h, Nat.lt_succ_of_lt h1, h2⟩).trans (HSP.out.mono fun b _ h => ⟨k, HLT.out, Nat.lt_succ_self k, h⟩)⟩
  case measure => simp [intOf]; have := HLT.out; omega
end Go.Proofs.YtpjmolnkmlpfeaaGreatDoor.JudgeDoes
