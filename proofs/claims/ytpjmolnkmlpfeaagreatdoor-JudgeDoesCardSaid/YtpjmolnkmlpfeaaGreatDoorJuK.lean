/- What a read does. -/
import Derived.Test.YtpjmolnkmlpfeaaGreatDoorJY
namespace Go.Proofs.YtpjmolnkmlpfeaaGreatDoor
set_option linter.unusedVariables false
set_option linter.unusedSimpArgs false
set_option maxRecDepth 100000
open Go.RowKit

theorem read8 {M : Mdl} {C : Cal} {R : Rep} (h : R.res = 8) : readM M C R = decide (C.at_ < M.trim) := by unfold readM; rw [if_pos h]
theorem read7 {M : Mdl} {C : Cal} {R : Rep} (h : R.res = 7) : readM M C R = decide (M.trim ≤ C.at_ ∧ M.log.length ≤ C.at_) := by unfold readM; rw [if_neg (by rw [h]; decide), if_pos h]
theorem read0 {M : Mdl} {C : Cal} {R : Rep} (h : R.res = 0) : readM M C R = decide (R.at_ = C.at_ ∧ M.trim ≤ C.at_ ∧ C.at_ < M.log.length ∧ M.log.getD C.at_ zEnt = { prod := R.prod, seq := R.seq, body := R.body }) := by
 unfold readM; rw [if_neg (by rw [h]; decide), if_neg (by rw [h]; decide), if_pos h]
theorem readN {M : Mdl} {C : Cal} {R : Rep} (h8 : R.res ≠ 8) (h7 : R.res ≠ 7) (h0 : R.res ≠ 0) : readM M C R = false := by
 unfold readM; rw [if_neg h8, if_neg h7, if_neg h0]
set_option maxHeartbeats 16000000 in
theorem read_any {K K1 K' : Nat → Prop} {w : World} {vl vc v vr : Value} {M : Mdl} {C : Cal} {R : Rep} (h : SlE K w vl M.log) (hvc : vc.oneCell' = true) (hv : SlB K1 w v C.body) (hvr : SlB K' w vr R.body) (hn : M.log.length ≤ 100000) (hbl : ∀ e ∈ M.log, e.body.length ≤ 1000000) (hnr : R.body.length ≤ 140737488351232) :
  Calls Tryz.prog 40 #[.agg (mdL M vl vc).toArray, .agg (calL C v).toArray, .agg (repL R vr).toArray] w fun e w' => e = .returned (.bool (readM M C R)) ∧ Below w.heap.size w w' := by
 obtain ⟨A, c, E, rfl, hE, hr, hall, _⟩ := h
 have hl : M.log.length = E.length := by rw [← hE, List.length_map]
 obtain ⟨Db, cb, eb, _⟩ := id hv
 subst eb
 obtain ⟨Dr, cr, er, _⟩ := id hvr
 subst er
 generalize hnb : C.body.length = nb
 obtain ⟨W0, hW0⟩ : ∃ W0, W0 = ((w.alloc (.cells (mdL M (.slice A E.length c) vc).toArray 45)).alloc (.cells (calL C (.slice Db nb cb)).toArray 25)).alloc (.cells (repL R (.slice Dr R.body.length cr)).toArray 32) := ⟨_, rfl⟩
 have hX1 : Blk W0 w.heap.size 45 (mdL M (.slice A E.length c) vc).toArray := by rw [hW0]; exact ((Blk.new _ _ _).alloc _).alloc _
 have hX2 : Blk W0 (w.heap.size + 1) 25 (calL C (.slice Db nb cb)).toArray := by
  have := (Blk.new (w.alloc (.cells (mdL M (.slice A E.length c) vc).toArray 45)) 25 (calL C (.slice Db nb cb)).toArray).alloc (.cells (repL R (.slice Dr R.body.length cr)).toArray 32)
  rw [alloc_size] at this
  rw [hW0]
  exact this
 have hX3 : Blk W0 (w.heap.size + 1 + 1) 32 (repL R (.slice Dr R.body.length cr)).toArray := by
  have := Blk.new ((w.alloc (.cells (mdL M (.slice A E.length c) vc).toArray 45)).alloc (.cells (calL C (.slice Db nb cb)).toArray 25)) 32 (repL R (.slice Dr R.body.length cr)).toArray
  rw [alloc_size, alloc_size] at this
  rw [hW0]
  exact this
 have hT : Below w.heap.size w W0 := by rw [hW0]; exact (((Below.refl _ _).alloc (Nat.le_refl _) _).alloc (by simp) _).alloc (by simp; omega) _
 have m0 := (hX1.cell 0).trans (rfl : _ = some (Value.slice A E.length c))
 have m1 := (hX1.cell 1).trans (rfl : _ = some (Value.int .u64 (M.trim : Int)))
 have k7 := (hX2.cell 7).trans (rfl : _ = some (Value.int .u64 (C.at_ : Int)))
 have r3 := (hX3.cell 3).trans (rfl : _ = some (Value.int .i64 R.res))
 have r4 := (hX3.cell 4).trans (rfl : _ = some (Value.int .u64 (R.at_ : Int)))
 have r6 := (hX3.cell 6).trans (rfl : _ = some (Value.int .i64 R.prod))
 have r7 := (hX3.cell 7).trans (rfl : _ = some (Value.int .u64 (R.seq : Int)))
 have r8 := (hX3.cell 8).trans (rfl : _ = some (Value.slice Dr R.body.length cr))
 have HT := Lib.hid hT
 have HR := Lib.hid (hr.below hT)
 have HALL := Lib.hid hall
 have HEQ := Lib.hid hE
 have HVR := Lib.hid (hvr.below hT)
 have HHH : Hid (M.log.length ≤ 100000 ∧ (∀ e ∈ M.log, e.body.length ≤ 1000000) ∧ R.body.length ≤ 140737488351232 ∧ M.log.length = E.length) := ⟨hn, hbl, hnr, hl⟩
 have hw : IntKind.u64.wrap (E.length : Int) = (E.length : Int) := by rw [hl] at hn; rw [IntKind.wrap_u64]; omega
 have hlen : E.length ≤ 100000 := by omega
 clear hX1 hX2 hX3 hT hE hall hr hv hvr hn hbl hnr hnb hl
 by_cases h8 : R.res = 8
 ·have HP := Lib.hid (read8 (M := M) (C := C) (R := R) h8)
  have p8 : (R.res == 8) = true := beq_iff_eq.2 h8
  clear h8
  by_cases hs : C.at_ < M.trim
  ·skip
   have s0 : decide (C.at_ < M.trim) = true := decide_eq_true hs
   have s1 : decide ((C.at_ : Int) < (M.trim : Int)) = true := decide_eq_true (by omega)
   have HQ : Hid (readM M C R = true) := by show _ = _; rw [HP.out, s0]
   clear hs
   rw [hW0] at m0 m1 k7 r3 r4 r6 r7 r8
   have HW0 := Lib.hid hW0
   clear hW0
   go_enter Tryz.func40, Tryz.ntmps40
   go_wp2_with fail
   go_wp2_with fail
   go_ret
   refine ⟨by rw [HQ.out]; rfl, ?_⟩
   have := HT.out
   rw [HW0.out] at this
   first | exact this | exact this.drew
  ·skip
   have s0 : decide (C.at_ < M.trim) = false := decide_eq_false hs
   have s1 : decide ((C.at_ : Int) < (M.trim : Int)) = false := decide_eq_false (by omega)
   have HQ : Hid (readM M C R = false) := by show _ = _; rw [HP.out, s0]
   clear hs
   rw [hW0] at m0 m1 k7 r3 r4 r6 r7 r8
   have HW0 := Lib.hid hW0
   clear hW0
   go_enter Tryz.func40, Tryz.ntmps40
   go_wp2_with fail
   go_wp2_with fail
   go_ret
   refine ⟨by rw [HQ.out]; rfl, ?_⟩
   have := HT.out
   rw [HW0.out] at this
   first | exact this | exact this.drew
 ·skip
  have p8 : (R.res == 8) = false := beq_eq_false_iff_ne.2 h8
  by_cases h7 : R.res = 7
  ·have HP := Lib.hid (read7 (M := M) (C := C) (R := R) h7)
   have p7 : (R.res == 7) = true := beq_iff_eq.2 h7
   clear h7 h8
   by_cases hs : M.trim ≤ C.at_
   ·skip
    have s0 : decide (M.trim ≤ C.at_) = true := decide_eq_true hs
    have s1 : decide ((M.trim : Int) ≤ (C.at_ : Int)) = true := decide_eq_true (by omega)
    by_cases ht : E.length ≤ C.at_
    ·skip
     have t0 : decide (E.length ≤ C.at_) = true := decide_eq_true ht
     have t1 : decide ((E.length : Int) ≤ (C.at_ : Int)) = true := decide_eq_true (by omega)
     have HQ : Hid (readM M C R = true) := by show _ = _; rw [HP.out, HHH.out.2.2.2]; simp [hs, ht]
     clear hs ht
     rw [hW0] at m0 m1 k7 r3 r4 r6 r7 r8
     have HW0 := Lib.hid hW0
     clear hW0
     go_enter Tryz.func40, Tryz.ntmps40
     go_wp2_with fail
     go_wp2_with fail
     go_ret
     refine ⟨by rw [HQ.out]; rfl, ?_⟩
     have := HT.out
     rw [HW0.out] at this
     first | exact this | exact this.drew
    ·skip
     have t0 : decide (E.length ≤ C.at_) = false := decide_eq_false ht
     have t1 : decide ((E.length : Int) ≤ (C.at_ : Int)) = false := decide_eq_false (by omega)
     have HQ : Hid (readM M C R = false) := by show _ = _; rw [HP.out, HHH.out.2.2.2]; simp [hs, ht]
     clear hs ht
     rw [hW0] at m0 m1 k7 r3 r4 r6 r7 r8
     have HW0 := Lib.hid hW0
     clear hW0
     go_enter Tryz.func40, Tryz.ntmps40
     go_wp2_with fail
     go_wp2_with fail
     go_ret
     refine ⟨by rw [HQ.out]; rfl, ?_⟩
     have := HT.out
     rw [HW0.out] at this
     first | exact this | exact this.drew
   ·skip
    have s0 : decide (M.trim ≤ C.at_) = false := decide_eq_false hs
    have s1 : decide ((M.trim : Int) ≤ (C.at_ : Int)) = false := decide_eq_false (by omega)
    have HQ : Hid (readM M C R = false) := by show _ = _; rw [HP.out]; simp [hs]
    clear hs
    rw [hW0] at m0 m1 k7 r3 r4 r6 r7 r8
    have HW0 := Lib.hid hW0
    clear hW0
    go_enter Tryz.func40, Tryz.ntmps40
    go_wp2_with fail
    go_wp2_with fail
    go_ret
    refine ⟨by rw [HQ.out]; rfl, ?_⟩
    have := HT.out
    rw [HW0.out] at this
    first | exact this | exact this.drew
  ·skip
   have p7 : (R.res == 7) = false := beq_eq_false_iff_ne.2 h7
   by_cases h0 : R.res = 0
   ·have HP := Lib.hid (read0 (M := M) (C := C) (R := R) h0)
    have p0 : (R.res == 0) = true := beq_iff_eq.2 h0
    clear h0 h7 h8
    by_cases ha : R.at_ = C.at_
    ·skip
     have a0 : (R.at_ == C.at_) = true := beq_iff_eq.2 ha
     have a1 : ((R.at_ : Int) == (C.at_ : Int)) = true := beq_iff_eq.2 (by omega)
     by_cases hs : M.trim ≤ C.at_
     ·skip
      have s0 : decide (M.trim ≤ C.at_) = true := decide_eq_true hs
      have s1 : decide ((M.trim : Int) ≤ (C.at_ : Int)) = true := decide_eq_true (by omega)
      by_cases ht : C.at_ < E.length
      ·skip
       have t0 : decide (C.at_ < E.length) = true := decide_eq_true ht
       have t1 : decide ((C.at_ : Int) < (E.length : Int)) = true := decide_eq_true (by omega)
       obtain ⟨b, o, rfl, hbl, c0, c1, c2⟩ := en_cells HR.out ht
       have hgj := map_getD HEQ.out ht
       have hsb := HALL.out _ (List.getElem_mem ht)
       have hmem : E[C.at_].1 ∈ M.log := by rw [← HEQ.out]; exact List.mem_map.2 ⟨_, List.getElem_mem ht, rfl⟩
       have hbd := HHH.out.2.1 _ hmem
       obtain ⟨Dk, dk, eD, hzz⟩ := id hsb
       clear hzz
       rw [eD] at c2 hsb
       have HSB := Lib.hid (hsb.below HT.out)
       have HBD := Lib.hid hbd
       generalize hy : E[C.at_].1 = y at c0 c1 c2 hgj HSB HBD
       have HQ : Hid (readM M C R = decide (y = { prod := R.prod, seq := R.seq, body := R.body })) := by show _ = _; rw [HP.out, HHH.out.2.2.2, hgj]; simp [ha, hs, ht]
       have hti : (C.at_ : Int) < (E.length : Int) := by omega
       clear hsb hmem hbd hy hgj eD ha hs ht
       rw [hW0] at c0 c1 c2 HSB HVR
       rw [hW0] at m0 m1 k7 r3 r4 r6 r7 r8
       have HW0 := Lib.hid hW0
       clear hW0
       go_enter Tryz.func40, Tryz.ntmps40
       go_wp2_with fail
       refine PF.b (by kernel_rfl) (fun _ _ _ _ _ h => h) ?_
       refine PF.t 0 (by kernel_rfl) rfl (by go_simp; try rfl) ?_
       try simp only [pz]
       refine PF.m 1 ((w.heap.size+1+1)) (by kernel_rfl) rfl (fun hcu => by go_simp; try rfl) ?_
       try simp only [pz]
       refine PF.t 2 (by kernel_rfl) rfl (by go_simp; try rfl) ?_
       try simp only [pz]
       refine PF.m 3 ((w.heap.size+1)) (by kernel_rfl) rfl (fun hcu => by go_simp; try rfl) ?_
       try simp only [pz]
       refine PF.t 4 (by kernel_rfl) rfl (by go_simp; try rfl) ?_
       try simp only [pz]
       refine PF.t 5 (by kernel_rfl) rfl (by go_simp; try rfl) ?_
       try simp only [pz]
       refine PF.t 6 (by kernel_rfl) rfl (by go_simp; try rfl) ?_
       try simp only [pz]
       refine PF.m 7 ((w.heap.size+1)) (by kernel_rfl) rfl (fun hcu => by go_simp; try rfl) ?_
       try simp only [pz]
       refine PF.t 8 (by kernel_rfl) rfl (by go_simp; try rfl) ?_
       try simp only [pz]
       refine PF.m 9 (w.heap.size) (by kernel_rfl) rfl (fun hcu => by go_simp; try rfl) ?_
       try simp only [pz]
       refine PF.t 10 (by kernel_rfl) rfl (by go_simp; try rfl) ?_
       try simp only [pz]
       refine PF.t 11 (by kernel_rfl) rfl (by go_simp; try rfl) ?_
       try simp only [pz]
       refine PF.t 12 (by kernel_rfl) rfl (by go_simp; try rfl) ?_
       try simp only [pz]
       refine PF.t 13 (by kernel_rfl) rfl (by go_simp; try rfl) ?_
       try simp only [pz]
       refine PF.m 14 ((w.heap.size+1)) (by kernel_rfl) rfl (fun hcu => by go_simp; try rfl) ?_
       try simp only [pz]
       refine PF.t 15 (by kernel_rfl) rfl (by go_simp; try rfl) ?_
       try simp only [pz]
       refine PF.t 16 (by kernel_rfl) rfl (by go_simp; try rfl) ?_
       try simp only [pz]
       refine PF.t 17 (by kernel_rfl) rfl (by go_simp; try rfl) ?_
       try simp only [pz]
       refine PF.t 18 (by kernel_rfl) rfl (by go_simp; try rfl) ?_
       try simp only [pz]
       refine PF.t 19 (by kernel_rfl) rfl (by go_simp; try rfl) ?_
       try simp only [pz]
       refine PF.m 20 (w.heap.size) (by kernel_rfl) rfl (fun hcu => by go_simp; try rfl) ?_
       try simp only [pz]
       refine PF.t 21 (by kernel_rfl) rfl (by go_simp; try rfl) ?_
       try simp only [pz]
       refine PF.m 22 ((w.heap.size+1)) (by kernel_rfl) rfl (fun hcu => by go_simp; try rfl) ?_
       try simp only [pz]
       refine PF.t 23 (by kernel_rfl) rfl (by go_simp; try rfl) ?_
       try simp only [pz]
       refine PF.m 24 (b) (by kernel_rfl) rfl (fun hcu => by go_simp; try rfl) ?_
       try simp only [pz]
       refine PF.t 25 (by kernel_rfl) rfl (by go_simp; try rfl) ?_
       try simp only [pz]
       refine PF.m 26 ((w.heap.size+1+1)) (by kernel_rfl) rfl (fun hcu => by go_simp; try rfl) ?_
       try simp only [pz]
       refine PF.t 27 (by kernel_rfl) rfl (by go_simp; try rfl) ?_
       try simp only [pz]
       refine PF.m 28 ((w.heap.size+1+1)) (by kernel_rfl) rfl (fun hcu => by go_simp; try rfl) ?_
       try simp only [pz]
       refine PF.t 29 (by kernel_rfl) rfl (by go_simp; try rfl) ?_
       try simp only [pz]
       refine PF.m 30 ((w.heap.size+1+1)) (by kernel_rfl) rfl (fun hcu => by go_simp; try rfl) ?_
       try simp only [pz]
       refine PF.t 31 (by kernel_rfl) rfl (by go_simp; try rfl) ?_
       try simp only [pz]
       refine PF.e 32 (by kernel_rfl) rfl fun K hK => ?_
       go_simp
       refine (esame_any (a := y) (b := { prod := R.prod, seq := R.seq, body := R.body }) (HSB.out.below ((Below.refl _ _).drew)) (HVR.out.below ((Below.refl _ _).drew)) HBD.out HHH.out.2.2.1).mono ?_
       rintro e w5 ⟨rfl, hb5⟩
       have HT5 := Lib.hid hb5
       clear hb5
       refine hK (by repeat (first | exact PF.n | refine PF.l ?_ | refine PF.o (by decide +kernel) ?_ | refine PF.y (by first | rfl | assumption | go_simp) ?_)) ?_
       clear hK K
       try simp only [pz]
       refine PF.t 33 (by kernel_rfl) rfl (by go_simp; try rfl) ?_
       try simp only [pz]
       refine PF.t 34 (by kernel_rfl) rfl (by go_simp; try rfl) ?_
       try simp only [pz]
       refine PF.d (by kernel_rfl) ?_
       go_wp2_with fail
       go_ret
       refine ⟨by rw [HQ.out]; rfl, ?_⟩
       have h1 := HT.out
       rw [HW0.out] at h1
       exact h1.trans (((Below.refl _ _).drew.trans HT5.out).mono h1.size)
      ·skip
       have t0 : decide (C.at_ < E.length) = false := decide_eq_false ht
       have t1 : decide ((C.at_ : Int) < (E.length : Int)) = false := decide_eq_false (by omega)
       have HQ : Hid (readM M C R = false) := by show _ = _; rw [HP.out, HHH.out.2.2.2]; simp [ht]
       clear ha hs ht
       rw [hW0] at m0 m1 k7 r3 r4 r6 r7 r8
       have HW0 := Lib.hid hW0
       clear hW0
       go_enter Tryz.func40, Tryz.ntmps40
       go_wp2_with fail
       refine PF.b (by kernel_rfl) (fun _ _ _ _ _ h => h) ?_
       refine PF.t 0 (by kernel_rfl) rfl (by go_simp; try rfl) ?_
       try simp only [pz]
       refine PF.m 1 ((w.heap.size+1+1)) (by kernel_rfl) rfl (fun hcu => by go_simp; try rfl) ?_
       try simp only [pz]
       refine PF.t 2 (by kernel_rfl) rfl (by go_simp; try rfl) ?_
       try simp only [pz]
       refine PF.m 3 ((w.heap.size+1)) (by kernel_rfl) rfl (fun hcu => by go_simp; try rfl) ?_
       try simp only [pz]
       refine PF.t 4 (by kernel_rfl) rfl (by go_simp; try rfl) ?_
       try simp only [pz]
       refine PF.t 5 (by kernel_rfl) rfl (by go_simp; try rfl) ?_
       try simp only [pz]
       refine PF.t 6 (by kernel_rfl) rfl (by go_simp; try rfl) ?_
       try simp only [pz]
       refine PF.m 7 ((w.heap.size+1)) (by kernel_rfl) rfl (fun hcu => by go_simp; try rfl) ?_
       try simp only [pz]
       refine PF.t 8 (by kernel_rfl) rfl (by go_simp; try rfl) ?_
       try simp only [pz]
       refine PF.m 9 (w.heap.size) (by kernel_rfl) rfl (fun hcu => by go_simp; try rfl) ?_
       try simp only [pz]
       refine PF.t 10 (by kernel_rfl) rfl (by go_simp; try rfl) ?_
       try simp only [pz]
       refine PF.t 11 (by kernel_rfl) rfl (by go_simp; try rfl) ?_
       try simp only [pz]
       refine PF.t 12 (by kernel_rfl) rfl (by go_simp; try rfl) ?_
       try simp only [pz]
       refine PF.t 13 (by kernel_rfl) rfl (by go_simp; try rfl) ?_
       try simp only [pz]
       refine PF.m 14 ((w.heap.size+1)) (by kernel_rfl) rfl (fun hcu => by go_simp; try rfl) ?_
       try simp only [pz]
       refine PF.t 15 (by kernel_rfl) rfl (by go_simp; try rfl) ?_
       try simp only [pz]
       refine PF.t 16 (by kernel_rfl) rfl (by go_simp; try rfl) ?_
       try simp only [pz]
       refine PF.t 17 (by kernel_rfl) rfl (by go_simp; try rfl) ?_
       try simp only [pz]
       refine PF.t 18 (by kernel_rfl) rfl (by go_simp; try rfl) ?_
       try simp only [pz]
       refine PF.s 19 (by kernel_rfl) rfl ?_
       refine PF.s 20 (by kernel_rfl) rfl ?_
       refine PF.s 21 (by kernel_rfl) rfl ?_
       refine PF.s 22 (by kernel_rfl) rfl ?_
       refine PF.s 23 (by kernel_rfl) rfl ?_
       refine PF.s 24 (by kernel_rfl) rfl ?_
       refine PF.s 25 (by kernel_rfl) rfl ?_
       refine PF.s 26 (by kernel_rfl) rfl ?_
       refine PF.s 27 (by kernel_rfl) rfl ?_
       refine PF.s 28 (by kernel_rfl) rfl ?_
       refine PF.s 29 (by kernel_rfl) rfl ?_
       refine PF.s 30 (by kernel_rfl) rfl ?_
       refine PF.s 31 (by kernel_rfl) rfl ?_
       refine PF.k 32 (by kernel_rfl) rfl ?_
       try simp only [pz]
       refine PF.t 33 (by kernel_rfl) rfl (by go_simp; try rfl) ?_
       try simp only [pz]
       refine PF.t 34 (by kernel_rfl) rfl (by go_simp; try rfl) ?_
       try simp only [pz]
       refine PF.d (by kernel_rfl) ?_
       go_wp2_with fail
       go_ret
       refine ⟨by rw [HQ.out]; rfl, ?_⟩
       have := HT.out
       rw [HW0.out] at this
       first | exact this | exact this.drew
     ·skip
      have s0 : decide (M.trim ≤ C.at_) = false := decide_eq_false hs
      have s1 : decide ((M.trim : Int) ≤ (C.at_ : Int)) = false := decide_eq_false (by omega)
      have HQ : Hid (readM M C R = false) := by show _ = _; rw [HP.out]; simp [hs]
      clear ha hs
      rw [hW0] at m0 m1 k7 r3 r4 r6 r7 r8
      have HW0 := Lib.hid hW0
      clear hW0
      go_enter Tryz.func40, Tryz.ntmps40
      go_wp2_with fail
      refine PF.b (by kernel_rfl) (fun _ _ _ _ _ h => h) ?_
      refine PF.t 0 (by kernel_rfl) rfl (by go_simp; try rfl) ?_
      try simp only [pz]
      refine PF.m 1 ((w.heap.size+1+1)) (by kernel_rfl) rfl (fun hcu => by go_simp; try rfl) ?_
      try simp only [pz]
      refine PF.t 2 (by kernel_rfl) rfl (by go_simp; try rfl) ?_
      try simp only [pz]
      refine PF.m 3 ((w.heap.size+1)) (by kernel_rfl) rfl (fun hcu => by go_simp; try rfl) ?_
      try simp only [pz]
      refine PF.t 4 (by kernel_rfl) rfl (by go_simp; try rfl) ?_
      try simp only [pz]
      refine PF.t 5 (by kernel_rfl) rfl (by go_simp; try rfl) ?_
      try simp only [pz]
      refine PF.t 6 (by kernel_rfl) rfl (by go_simp; try rfl) ?_
      try simp only [pz]
      refine PF.m 7 ((w.heap.size+1)) (by kernel_rfl) rfl (fun hcu => by go_simp; try rfl) ?_
      try simp only [pz]
      refine PF.t 8 (by kernel_rfl) rfl (by go_simp; try rfl) ?_
      try simp only [pz]
      refine PF.m 9 (w.heap.size) (by kernel_rfl) rfl (fun hcu => by go_simp; try rfl) ?_
      try simp only [pz]
      refine PF.t 10 (by kernel_rfl) rfl (by go_simp; try rfl) ?_
      try simp only [pz]
      refine PF.t 11 (by kernel_rfl) rfl (by go_simp; try rfl) ?_
      try simp only [pz]
      refine PF.t 12 (by kernel_rfl) rfl (by go_simp; try rfl) ?_
      try simp only [pz]
      refine PF.s 13 (by kernel_rfl) rfl ?_
      refine PF.s 14 (by kernel_rfl) rfl ?_
      refine PF.s 15 (by kernel_rfl) rfl ?_
      refine PF.s 16 (by kernel_rfl) rfl ?_
      try simp only [pz]
      refine PF.t 17 (by kernel_rfl) rfl (by go_simp; try rfl) ?_
      try simp only [pz]
      refine PF.t 18 (by kernel_rfl) rfl (by go_simp; try rfl) ?_
      try simp only [pz]
      refine PF.s 19 (by kernel_rfl) rfl ?_
      refine PF.s 20 (by kernel_rfl) rfl ?_
      refine PF.s 21 (by kernel_rfl) rfl ?_
      refine PF.s 22 (by kernel_rfl) rfl ?_
      refine PF.s 23 (by kernel_rfl) rfl ?_
      refine PF.s 24 (by kernel_rfl) rfl ?_
      refine PF.s 25 (by kernel_rfl) rfl ?_
      refine PF.s 26 (by kernel_rfl) rfl ?_
      refine PF.s 27 (by kernel_rfl) rfl ?_
      refine PF.s 28 (by kernel_rfl) rfl ?_
      refine PF.s 29 (by kernel_rfl) rfl ?_
      refine PF.s 30 (by kernel_rfl) rfl ?_
      refine PF.s 31 (by kernel_rfl) rfl ?_
      refine PF.k 32 (by kernel_rfl) rfl ?_
      try simp only [pz]
      refine PF.t 33 (by kernel_rfl) rfl (by go_simp; try rfl) ?_
      try simp only [pz]
      refine PF.t 34 (by kernel_rfl) rfl (by go_simp; try rfl) ?_
      try simp only [pz]
      refine PF.d (by kernel_rfl) ?_
      go_wp2_with fail
      go_ret
      refine ⟨by rw [HQ.out]; rfl, ?_⟩
      have := HT.out
      rw [HW0.out] at this
      first | exact this | exact this.drew
    ·skip
     have a0 : (R.at_ == C.at_) = false := beq_eq_false_iff_ne.2 ha
     have a1 : ((R.at_ : Int) == (C.at_ : Int)) = false := beq_eq_false_iff_ne.2 (by omega)
     have HQ : Hid (readM M C R = false) := by show _ = _; rw [HP.out]; simp [ha]
     clear ha
     rw [hW0] at m0 m1 k7 r3 r4 r6 r7 r8
     have HW0 := Lib.hid hW0
     clear hW0
     go_enter Tryz.func40, Tryz.ntmps40
     go_wp2_with fail
     refine PF.b (by kernel_rfl) (fun _ _ _ _ _ h => h) ?_
     refine PF.t 0 (by kernel_rfl) rfl (by go_simp; try rfl) ?_
     try simp only [pz]
     refine PF.m 1 ((w.heap.size+1+1)) (by kernel_rfl) rfl (fun hcu => by go_simp; try rfl) ?_
     try simp only [pz]
     refine PF.t 2 (by kernel_rfl) rfl (by go_simp; try rfl) ?_
     try simp only [pz]
     refine PF.m 3 ((w.heap.size+1)) (by kernel_rfl) rfl (fun hcu => by go_simp; try rfl) ?_
     try simp only [pz]
     refine PF.t 4 (by kernel_rfl) rfl (by go_simp; try rfl) ?_
     try simp only [pz]
     refine PF.t 5 (by kernel_rfl) rfl (by go_simp; try rfl) ?_
     try simp only [pz]
     refine PF.s 6 (by kernel_rfl) rfl ?_
     refine PF.s 7 (by kernel_rfl) rfl ?_
     refine PF.s 8 (by kernel_rfl) rfl ?_
     refine PF.s 9 (by kernel_rfl) rfl ?_
     refine PF.s 10 (by kernel_rfl) rfl ?_
     try simp only [pz]
     refine PF.t 11 (by kernel_rfl) rfl (by go_simp; try rfl) ?_
     try simp only [pz]
     refine PF.t 12 (by kernel_rfl) rfl (by go_simp; try rfl) ?_
     try simp only [pz]
     refine PF.s 13 (by kernel_rfl) rfl ?_
     refine PF.s 14 (by kernel_rfl) rfl ?_
     refine PF.s 15 (by kernel_rfl) rfl ?_
     refine PF.s 16 (by kernel_rfl) rfl ?_
     try simp only [pz]
     refine PF.t 17 (by kernel_rfl) rfl (by go_simp; try rfl) ?_
     try simp only [pz]
     refine PF.t 18 (by kernel_rfl) rfl (by go_simp; try rfl) ?_
     try simp only [pz]
     refine PF.s 19 (by kernel_rfl) rfl ?_
     refine PF.s 20 (by kernel_rfl) rfl ?_
     refine PF.s 21 (by kernel_rfl) rfl ?_
     refine PF.s 22 (by kernel_rfl) rfl ?_
     refine PF.s 23 (by kernel_rfl) rfl ?_
     refine PF.s 24 (by kernel_rfl) rfl ?_
     refine PF.s 25 (by kernel_rfl) rfl ?_
     refine PF.s 26 (by kernel_rfl) rfl ?_
     refine PF.s 27 (by kernel_rfl) rfl ?_
     refine PF.s 28 (by kernel_rfl) rfl ?_
     refine PF.s 29 (by kernel_rfl) rfl ?_
     refine PF.s 30 (by kernel_rfl) rfl ?_
     refine PF.s 31 (by kernel_rfl) rfl ?_
     refine PF.k 32 (by kernel_rfl) rfl ?_
     try simp only [pz]
     refine PF.t 33 (by kernel_rfl) rfl (by go_simp; try rfl) ?_
     try simp only [pz]
     refine PF.t 34 (by kernel_rfl) rfl (by go_simp; try rfl) ?_
     try simp only [pz]
     refine PF.d (by kernel_rfl) ?_
     go_wp2_with fail
     go_ret
     refine ⟨by rw [HQ.out]; rfl, ?_⟩
     have := HT.out
     rw [HW0.out] at this
     first | exact this | exact this.drew
   ·skip
    have p0 : (R.res == 0) = false := beq_eq_false_iff_ne.2 h0
    have HQ := Lib.hid (readN (M := M) (C := C) (R := R) h8 h7 h0)
    clear h8 h7 h0
    rw [hW0] at m0 m1 k7 r3 r4 r6 r7 r8
    have HW0 := Lib.hid hW0
    clear hW0
    go_enter Tryz.func40, Tryz.ntmps40
    go_wp2_with fail
    go_wp2_with fail
    go_ret
    refine ⟨by rw [HQ.out]; rfl, ?_⟩
    have := HT.out
    rw [HW0.out] at this
    first | exact this | exact this.drew
end Go.Proofs.YtpjmolnkmlpfeaaGreatDoor
