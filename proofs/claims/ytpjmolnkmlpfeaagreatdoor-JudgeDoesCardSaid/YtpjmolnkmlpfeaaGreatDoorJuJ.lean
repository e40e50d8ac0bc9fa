/- What a publish does. -/
import Derived.Test.YtpjmolnkmlpfeaaGreatDoorJY
namespace Go.Proofs.YtpjmolnkmlpfeaaGreatDoor
set_option linter.unusedVariables false
set_option linter.unusedSimpArgs false
set_option maxRecDepth 100000
open Go.RowKit

/-- What is answered by what makes a model, or none. -/
def MadePost (B : Nat) (T : Option Mdl) (e : Ending) (w' : World) : Prop := ∃ v' N, e = .returned (.tuple #[v', .bool T.isSome]) ∧ MdVW (fun b => B ≤ b) w' v' N ∧ ∀ N', T = some N' → N' = N
theorem pub5 {M : Mdl} {C : Cal} {R : Rep} (h : R.res = 5) : publishM M C R = if longC C then some M else none := by unfold publishM; rw [if_pos h]
theorem pub6 {M : Mdl} {C : Cal} {R : Rep} (h : R.res = 6) : publishM M C R = (match lastOf M C.cl with | none => none | some k => if C.seq < (M.log.getD k zEnt).seq then some M else none) := by unfold publishM; rw [if_neg (by rw [h]; decide), if_pos h]; cases lastOf M C.cl <;> rfl
theorem pubN {M : Mdl} {C : Cal} {R : Rep} (h5 : R.res ≠ 5) (h6 : R.res ≠ 6) (h : R.res ≠ 0 ∨ longC C = true) : publishM M C R = none := by unfold publishM; rw [if_neg h5, if_neg h6, if_pos h]
theorem pubF {M : Mdl} {C : Cal} {R : Rep} (h : R.res = 0) (hl : longC C = false) (hf : freshM M C = true) : publishM M C R = if R.at_ = M.log.length then some (withM M C) else none := by
 unfold publishM; rw [if_neg (by rw [h]; decide), if_neg (by rw [h]; decide), if_neg (by simp [h, hl]), if_pos hf]
theorem pubO {M : Mdl} {C : Cal} {R : Rep} (h : R.res = 0) (hl : longC C = false) (hf : freshM M C = false) : publishM M C R = (match lastOf M C.cl with | none => none | some k => if (M.log.getD k zEnt).seq = C.seq ∧ R.at_ = k then some M else none) := by
 unfold publishM; rw [if_neg (by rw [h]; decide), if_neg (by rw [h]; decide), if_neg (by simp [h, hl]), if_neg (by rw [hf]; decide)]; cases lastOf M C.cl <;> rfl
theorem isSome_if {p : Prop} [Decidable p] {α : Type} {x : α} : (if p then some x else none).isSome = decide p := by
 by_cases h : p
 ·rw [if_pos h, decide_eq_true h]; rfl
 ·rw [if_neg h, decide_eq_false h]; rfl
theorem some_if {p : Prop} [Decidable p] {α : Type} {x y : α} (h : (if p then some x else none) = some y) : y = x := by
 by_cases hp : p
 ·rw [if_pos hp] at h; injection h with h; exact h.symm
 ·rw [if_neg hp] at h; cases h
set_option maxHeartbeats 16000000 in
theorem publish_any {X K K' : Nat → Prop} {B g : Nat} {w : World} {vl v vr : Value} {M : Mdl} {C : Cal} {R : Rep} (h : OwF X B w vl g M) (hv : SlB K w v C.body) (hvr : SlB K' w vr R.body) (hB : B ≤ w.heap.size) (hn : M.log.length ≤ 100000) (hnb : C.body.length ≤ 140737488351232) (hXw : ∀ b, X b → b < w.heap.size) :
  Calls Tryz.prog 39 #[.agg (mdL M vl (.slice (some ⟨g, 0, none⟩) 3 3)).toArray, .agg (calL C v).toArray, .agg (repL R vr).toArray] w fun e w' => MadePost B (publishM M C R) e w' ∧ Below B w w' := by
 have HXW := Lib.hid hXw
 clear hXw
 have HOF := Lib.hid h
 obtain ⟨⟨E, how, hE, hall⟩, _⟩ := id h
 have hl : M.log.length = E.length := by rw [← hE, List.length_map]
 obtain ⟨A, c, rfl, hc, hc'⟩ := own_slice how
 obtain ⟨Db, cb, eb, _⟩ := id hv
 subst eb
 obtain ⟨Dr, cr, er, _⟩ := id hvr
 subst er
 generalize hnr : R.body.length = nr
 obtain ⟨W0, hW0⟩ : ∃ W0, W0 = ((w.alloc (.cells (mdL M (.slice A E.length c) (.slice (some ⟨g, 0, none⟩) 3 3)).toArray 45)).alloc (.cells (calL C (.slice Db C.body.length cb)).toArray 25)).alloc (.cells (repL R (.slice Dr nr cr)).toArray 32) := ⟨_, rfl⟩
 have hX1 : Blk W0 w.heap.size 45 (mdL M (.slice A E.length c) (.slice (some ⟨g, 0, none⟩) 3 3)).toArray := by rw [hW0]; exact ((Blk.new _ _ _).alloc _).alloc _
 have hX2 : Blk W0 (w.heap.size + 1) 25 (calL C (.slice Db C.body.length cb)).toArray := by
  have := (Blk.new (w.alloc (.cells (mdL M (.slice A E.length c) (.slice (some ⟨g, 0, none⟩) 3 3)).toArray 45)) 25 (calL C (.slice Db C.body.length cb)).toArray).alloc (.cells (repL R (.slice Dr nr cr)).toArray 32)
  rw [alloc_size] at this
  rw [hW0]
  exact this
 have hX3 : Blk W0 (w.heap.size + 1 + 1) 32 (repL R (.slice Dr nr cr)).toArray := by
  have := Blk.new ((w.alloc (.cells (mdL M (.slice A E.length c) (.slice (some ⟨g, 0, none⟩) 3 3)).toArray 45)).alloc (.cells (calL C (.slice Db C.body.length cb)).toArray 25)) 32 (repL R (.slice Dr nr cr)).toArray
  rw [alloc_size, alloc_size] at this
  rw [hW0]
  exact this
 have hT : Below w.heap.size w W0 := by rw [hW0]; exact (((Below.refl _ _).alloc (Nat.le_refl _) _).alloc (by simp) _).alloc (by simp; omega) _
 have hsz : W0.heap.size = w.heap.size + 1 + 1 + 1 := by rw [hW0]; simp
 have HX1 := Lib.hid hX1
 have HX2 := Lib.hid hX2
 have HX3 := Lib.hid hX3
 have HT := Lib.hid hT
 have HSZ := Lib.hid hsz
 have HV := Lib.hid hv
 have HEQ := Lib.hid hE
 have HHH : Hid (B ≤ w.heap.size ∧ M.log.length ≤ 100000 ∧ C.body.length ≤ 140737488351232 ∧ M.log.length = E.length) := ⟨hB, hn, hnb, hl⟩
 clear hX1 hX2 hX3 hT hsz hE hall how h hv hvr hB hn hnb hc hc'
 go_enter Tryz.func39, Tryz.ntmps39
 have HW0 := Lib.hid hW0
 clear hW0
 go_wp2_with (refine wpList_alloc_blk rfl rfl zero_model ?_; rw [← HW0.out]; rintro g3 w3 hgz hB3 hb3; refine Hid.out ?_)
 refine Lib.hid ?_
 have HG3 : Hid (g3 = w.heap.size + 1 + 1 + 1) := by
  show _ = _
  rw [← hgz]
  exact HSZ.out
 have HT3 := Lib.hid (below_call HT.out HT.out.size hb3)
 have HB13 := Bb HX1 hb3
 have HB23 := Bb HX2 hb3
 have HB33 := Bb HX3 hb3
 have HBG3 := Lib.hid hB3
 clear hgz hb3 hB3 HX1 HX2 HX3 HT HSZ HW0
 have HLB : Hid (w.heap.size < w3.heap.size ∧ w.heap.size + 1 < w3.heap.size ∧ w.heap.size + 1 + 1 < w3.heap.size ∧ g3 < w3.heap.size) := ⟨HB13.out.lt, HB23.out.lt, HB33.out.lt, HBG3.out.lt⟩
 have d0 := (HB23.out.cell 0).trans (rfl : _ = some (Value.int .i64 C.cl))
 have d8 := (HB23.out.cell 8).trans (rfl : _ = some (Value.slice Db C.body.length cb))
 have HOF3 := Lib.hid (HOF.out.below HT3.out)
 obtain ⟨lb, hlb⟩ : ∃ lb, longC C = lb := ⟨_, rfl⟩
 have hlb1 : decide ((64 : Int) < (C.body.length : Int)) = lb := by
  rw [← hlb]
  unfold longC
  by_cases h : 64 < C.body.length
  ·rw [decide_eq_true h]; exact decide_eq_true (by omega)
  ·rw [decide_eq_false h]; exact decide_eq_false (by omega)
 have hlb2 : decide (64 < C.body.length) = lb := hlb
 have HLB2 := Lib.hid hlb
 clear hlb
 go_wp2_with fail
 refine PF.b (by kernel_rfl) (fun _ _ _ _ _ h => h) ?_
 refine PF.u 0 (fun u => Blk u w.heap.size 45 (mdL M (.slice A E.length c) (.slice (some ⟨g, 0, none⟩) 3 3)).toArray) (by kernel_rfl) rfl (HB13.out) (fun u hu => exec_load_blk rfl rfl hu Tryz.underlying45 rfl (info_model rfl)) ?_
 try simp only [pz]
 refine PF.t 1 (by kernel_rfl) rfl (by go_simp; try rfl) ?_
 try simp only [pz]
 refine PF.m 2 ((w.heap.size+1)) (by kernel_rfl) rfl (fun hcu => by go_simp; try rfl) ?_
 try simp only [pz]
 refine PF.t 4 (by kernel_rfl) rfl (by go_simp; try rfl) ?_
 try simp only [pz]
 refine PF.m 5 ((w.heap.size+1)) (by kernel_rfl) rfl (fun hcu => by go_simp; try rfl) ?_
 try simp only [pz]
 refine PF.t 6 (by kernel_rfl) rfl (by go_simp; try rfl) ?_
 try simp only [pz]
 refine PF.t 7 (by kernel_rfl) rfl (by go_simp; try rfl) ?_
 try simp only [pz]
 refine PF.e 3 (by kernel_rfl) rfl fun K hK => ?_
 go_simp
 refine (last_any (HOF3.out.below ((Below.refl _ _).drew)).mdf.1 C.cl HHH.out.2.1).mono ?_
 rintro e w4 ⟨rfl, hb4⟩
 have HT4 : Hid (Below w3.heap.size w3 w4) := ((Below.refl w3.heap.size w3).drew).trans hb4
 clear hb4
 refine hK (by repeat (first | exact PF.n | refine PF.l ?_ | refine PF.o (by decide +kernel) ?_ | refine PF.y (by first | exact HT4.out.block _ HLB.out.1 | exact HT4.out.block _ HLB.out.2.1 | exact HB13.out.below HT4.out HLB.out.1) ?_)) ?_
 clear hK K
 try simp only [pz]
 refine PF.t 8 (by kernel_rfl) rfl (by go_simp; try rfl) ?_
 try simp only [pz]
 refine PF.t 9 (by kernel_rfl) rfl (by go_simp; try rfl) ?_
 try simp only [pz]
 refine PF.d (by kernel_rfl) ?_
 have H4B := Lib.hid (HT3.out.trans (HT4.out.mono HT3.out.size))
 have HB14 := Lib.hid (HB13.out.below HT4.out HLB.out.1)
 have HB24 := Lib.hid (HB23.out.below HT4.out HLB.out.2.1)
 have HB34 := Lib.hid (HB33.out.below HT4.out HLB.out.2.2.1)
 have HBG4 := Lib.hid (HBG3.out.below HT4.out HLB.out.2.2.2)
 have HMD : Hid (MdW (fun b => B ≤ b ∧ b < w.heap.size) w4 (.slice A E.length c) (.slice (some ⟨g, 0, none⟩) 3 3) M) := (HOF.out.mdw.weak fun b hb h => ⟨h.1, hb⟩).below H4B.out
 have HL4 : Hid (w.heap.size < w4.heap.size ∧ w.heap.size + 1 < w4.heap.size ∧ w.heap.size + 1 + 1 < w4.heap.size ∧ g3 < w4.heap.size) := ⟨HB14.out.lt, HB24.out.lt, HB34.out.lt, HBG4.out.lt⟩
 have r3 := (HB34.out.cell 3).trans (rfl : _ = some (Value.int .i64 R.res))
 have r4 := (HB34.out.cell 4).trans (rfl : _ = some (Value.int .u64 (R.at_ : Int)))
 have q0 := (HB14.out.cell 0).trans (rfl : _ = some (Value.slice A E.length c))
 have q6 := (HB24.out.cell 6).trans (rfl : _ = some (Value.int .u64 (C.seq : Int)))
 have HLG : Hid (longC C = decide (64 < C.body.length)) := rfl
 have hw6 : ((C.body.length : Int) > 64) = ((64 : Int) < (C.body.length : Int)) := rfl
 clear hw6 d0 d8
 by_cases h5 : R.res = 5
 ·have p5 : (R.res == 5) = true := beq_iff_eq.2 h5
  have HQ : Hid ((publishM M C R).isSome = lb) := by show _ = _; rw [pub5 h5, HLB2.out, isSome_if]; cases lb <;> rfl
  have HS : Hid (∀ N', publishM M C R = some N' → N' = M) := fun N' h => by rw [pub5 h5] at h; exact some_if h
  clear h5
  go_wp2_with (refine wpList_load_blk rfl (ty := 45) rfl rfl HB14.out Tryz.underlying45 rfl (info_model rfl) ?_; refine Hid.out ?_)
  refine Lib.hid ?_
  go_wp2_with (refine wpList_store_blk rfl rfl rfl rfl HBG4.out rfl (info_model rfl) (mdL_one rfl rfl) ?_; rintro w9 hB9 hm9; refine Hid.out ?_)
  refine Lib.hid ?_
  have HB9 := Lib.hid hB9
  have HM9 := Lib.hid hm9
  clear hB9 hm9
  go_wp2_with fail
  refine bodyPost_ret (results_ct Tryz.results39 _ HB9.out rfl Tryz.underlying45 rfl (info_model rfl)) rfl ?_
  refine ⟨⟨_, M, by rw [HQ.out]; rfl, ⟨_, _, rfl, (HMD.out.mod HM9.out fun b hb e => by have := hb.2; have := HG3.out; omega).weak fun b _ h => h.1⟩, HS.out⟩, (H4B.out.mono HHH.out.1).trans (HM9.out.to_below (Nat.le_trans HHH.out.1 H4B.out.size) fun b hb e => by have := HHH.out.1; have := HG3.out; omega)⟩
 ·have p5 : (R.res == 5) = false := beq_eq_false_iff_ne.2 h5
  by_cases h6 : R.res = 6
  ·have p6 : (R.res == 6) = true := beq_iff_eq.2 h6
   have HP6 := Lib.hid (pub6 (M := M) (C := C) (R := R) h6)
   clear h5 h6
   cases hj : lastOf M C.cl with
   | none =>
    have n0 : lastI none = -1 := rfl
    rw [n0]
    have HQ : Hid ((publishM M C R).isSome = false) := by show _ = _; rw [HP6.out, hj]; rfl
    have HS : Hid (∀ N', publishM M C R = some N' → N' = M) := fun N' h => by rw [HP6.out, hj] at h; cases h
    clear hj
    go_wp2_with fail
    refine PF.b (by kernel_rfl) (fun _ _ _ _ _ h => h) ?_
    refine PF.u 0 (fun u => Blk u w.heap.size 45 (mdL M (.slice A E.length c) (.slice (some ⟨g, 0, none⟩) 3 3)).toArray) (by kernel_rfl) rfl (HB14.out) (fun u hu => exec_load_blk rfl rfl hu Tryz.underlying45 rfl (info_model rfl)) ?_
    try simp only [pz]
    refine PF.t 1 (by kernel_rfl) rfl (by go_simp; try rfl) ?_
    try simp only [pz]
    refine PF.t 2 (by kernel_rfl) rfl (by go_simp; try rfl) ?_
    try simp only [pz]
    refine PF.t 3 (by kernel_rfl) rfl (by go_simp; try rfl) ?_
    try simp only [pz]
    refine PF.s 4 (by kernel_rfl) rfl ?_
    refine PF.s 5 (by kernel_rfl) rfl ?_
    refine PF.s 6 (by kernel_rfl) rfl ?_
    refine PF.s 7 (by kernel_rfl) rfl ?_
    refine PF.s 8 (by kernel_rfl) rfl ?_
    refine PF.s 9 (by kernel_rfl) rfl ?_
    refine PF.s 10 (by kernel_rfl) rfl ?_
    refine PF.s 11 (by kernel_rfl) rfl ?_
    refine PF.s 12 (by kernel_rfl) rfl ?_
    try simp only [pz]
    refine PF.t 13 (by kernel_rfl) rfl (by go_simp; try rfl) ?_
    try simp only [pz]
    refine PF.e 14 (by kernel_rfl) rfl fun K hK => ?_
    refine wp_store_blk rfl rfl rfl HBG4.out rfl (info_model rfl) (mdL_one rfl rfl) ?_
    rintro w9 hB9 hm9
    have HB9 := Lib.hid hB9
    have HM9 : Hid (Mod (fun b => b = g3) w4 w9) := ((Mod.refl _ w4).drew).trans hm9
    clear hB9 hm9
    refine hK (by repeat (first | exact PF.n | refine PF.l ?_ | refine PF.o (by decide +kernel) ?_ | refine PF.y (by exact HM9.out.block _ (by have := HL4.out; omega) (fun e => by have := HG3.out; omega)) ?_)) ?_
    clear hK K
    try simp only [pz]
    refine PF.t 15 (by kernel_rfl) rfl (by go_simp; try rfl) ?_
    try simp only [pz]
    refine PF.d (by kernel_rfl) ?_
    go_wp2_with fail
    refine bodyPost_ret (results_ct Tryz.results39 _ HB9.out rfl Tryz.underlying45 rfl (info_model rfl)) rfl ?_
    refine ⟨⟨_, M, by rw [HQ.out]; rfl, ⟨_, _, rfl, (HMD.out.mod HM9.out fun b hb e => by have := hb.2; have := HG3.out; omega).weak fun b _ h => h.1⟩, HS.out⟩, (H4B.out.mono HHH.out.1).trans (HM9.out.to_below (Nat.le_trans HHH.out.1 H4B.out.size) fun b hb e => by have := HHH.out.1; have := HG3.out; omega)⟩
   | some j =>
    have hjl := lastOf_lt hj
    obtain ⟨A', c', E', e', hE', hr', _⟩ := id HMD.out.1.1
    injection e' with e1 e2 e3
    subst e1 e3
    rw [← hE', List.length_map] at hjl
    obtain ⟨b, o, rfl, hbl, dz, d1, dz'⟩ := en_cells hr' hjl
    have HBB : Hid (b < w.heap.size) := by obtain ⟨⟨E2, h1, _⟩, _⟩ := HOF.out; exact (h1.lt b rfl).2
    have hgj := map_getD hE' hjl
    generalize hy : E'[j].1 = y at d1 hgj
    have hjl2 : (j : Int) < (E.length : Int) := by omega
    have n0 : lastI (some j) = (j : Int) := rfl
    have q9 : decide ((0 : Int) ≤ (j : Int)) = true := decide_eq_true (by omega)
    rw [n0]
    have HP7 : Hid (publishM M C R = if C.seq < y.seq then some M else none) := by show _ = _; rw [HP6.out, hj]; simp only [hgj]
    have HS : Hid (∀ N', publishM M C R = some N' → N' = M) := fun N' h => by rw [HP7.out] at h; exact some_if h
    clear dz dz' hy hj hr' hgj e2 hE' hjl
    by_cases hs : C.seq < y.seq
    ·have s0 : decide (C.seq < y.seq) = true := decide_eq_true hs
     have s1 : decide ((C.seq : Int) < (y.seq : Int)) = true := decide_eq_true (by omega)
     have HQ : Hid ((publishM M C R).isSome = true) := by show _ = _; rw [HP7.out, isSome_if, s0]
     clear hs
     go_wp2_with fail
     refine PF.b (by kernel_rfl) (fun _ _ _ _ _ h => h) ?_
     refine PF.u 0 (fun u => Blk u w.heap.size 45 (mdL M (.slice (some ⟨b, o, none⟩) E.length c) (.slice (some ⟨g, 0, none⟩) 3 3)).toArray) (by kernel_rfl) rfl (HB14.out) (fun u hu => exec_load_blk rfl rfl hu Tryz.underlying45 rfl (info_model rfl)) ?_
     try simp only [pz]
     refine PF.t 1 (by kernel_rfl) rfl (by go_simp; try rfl) ?_
     try simp only [pz]
     refine PF.t 2 (by kernel_rfl) rfl (by go_simp; try rfl) ?_
     try simp only [pz]
     refine PF.t 3 (by kernel_rfl) rfl (by go_simp; try rfl) ?_
     try simp only [pz]
     refine PF.t 4 (by kernel_rfl) rfl (by go_simp; try rfl) ?_
     try simp only [pz]
     refine PF.m 5 (w.heap.size) (by kernel_rfl) rfl (fun hcu => by go_simp; try rfl) ?_
     try simp only [pz]
     refine PF.t 6 (by kernel_rfl) rfl (by go_simp; try rfl) ?_
     try simp only [pz]
     refine PF.t 7 (by kernel_rfl) rfl (by go_simp; try rfl) ?_
     try simp only [pz]
     refine PF.t 8 (by kernel_rfl) rfl (by go_simp; try rfl) ?_
     try simp only [pz]
     refine PF.m 9 (b) (by kernel_rfl) rfl (fun hcu => by go_simp; try rfl) ?_
     try simp only [pz]
     refine PF.t 10 (by kernel_rfl) rfl (by go_simp; try rfl) ?_
     try simp only [pz]
     refine PF.m 11 ((w.heap.size+1)) (by kernel_rfl) rfl (fun hcu => by go_simp; try rfl) ?_
     try simp only [pz]
     refine PF.t 12 (by kernel_rfl) rfl (by go_simp; try rfl) ?_
     try simp only [pz]
     refine PF.t 13 (by kernel_rfl) rfl (by go_simp; try rfl) ?_
     try simp only [pz]
     refine PF.e 14 (by kernel_rfl) rfl fun K hK => ?_
     refine wp_store_blk rfl rfl rfl HBG4.out rfl (info_model rfl) (mdL_one rfl rfl) ?_
     rintro w9 hB9 hm9
     have HB9 := Lib.hid hB9
     have HM9 : Hid (Mod (fun b => b = g3) w4 w9) := ((Mod.refl _ w4).drew).trans hm9
     clear hB9 hm9
     refine hK (by repeat (first | exact PF.n | refine PF.l ?_ | refine PF.o (by decide +kernel) ?_ | refine PF.y (by exact HM9.out.block _ (by have := HL4.out; have := HBB.out; omega) (fun e => by have := HG3.out; have := HBB.out; omega)) ?_)) ?_
     clear hK K
     try simp only [pz]
     refine PF.t 15 (by kernel_rfl) rfl (by go_simp; try rfl) ?_
     try simp only [pz]
     refine PF.d (by kernel_rfl) ?_
     go_wp2_with fail
     refine bodyPost_ret (results_ct Tryz.results39 _ HB9.out rfl Tryz.underlying45 rfl (info_model rfl)) rfl ?_
     refine ⟨⟨_, M, by rw [HQ.out]; rfl, ⟨_, _, rfl, (HMD.out.mod HM9.out fun b hb e => by have := hb.2; have := HG3.out; omega).weak fun b _ h => h.1⟩, HS.out⟩, (H4B.out.mono HHH.out.1).trans (HM9.out.to_below (Nat.le_trans HHH.out.1 H4B.out.size) fun b hb e => by have := HHH.out.1; have := HG3.out; omega)⟩
    ·have s0 : decide (C.seq < y.seq) = false := decide_eq_false hs
     have s1 : decide ((C.seq : Int) < (y.seq : Int)) = false := decide_eq_false (by omega)
     have HQ : Hid ((publishM M C R).isSome = false) := by show _ = _; rw [HP7.out, isSome_if, s0]
     clear hs
     go_wp2_with fail
     refine PF.b (by kernel_rfl) (fun _ _ _ _ _ h => h) ?_
     refine PF.u 0 (fun u => Blk u w.heap.size 45 (mdL M (.slice (some ⟨b, o, none⟩) E.length c) (.slice (some ⟨g, 0, none⟩) 3 3)).toArray) (by kernel_rfl) rfl (HB14.out) (fun u hu => exec_load_blk rfl rfl hu Tryz.underlying45 rfl (info_model rfl)) ?_
     try simp only [pz]
     refine PF.t 1 (by kernel_rfl) rfl (by go_simp; try rfl) ?_
     try simp only [pz]
     refine PF.t 2 (by kernel_rfl) rfl (by go_simp; try rfl) ?_
     try simp only [pz]
     refine PF.t 3 (by kernel_rfl) rfl (by go_simp; try rfl) ?_
     try simp only [pz]
     refine PF.t 4 (by kernel_rfl) rfl (by go_simp; try rfl) ?_
     try simp only [pz]
     refine PF.m 5 (w.heap.size) (by kernel_rfl) rfl (fun hcu => by go_simp; try rfl) ?_
     try simp only [pz]
     refine PF.t 6 (by kernel_rfl) rfl (by go_simp; try rfl) ?_
     try simp only [pz]
     refine PF.t 7 (by kernel_rfl) rfl (by go_simp; try rfl) ?_
     try simp only [pz]
     refine PF.t 8 (by kernel_rfl) rfl (by go_simp; try rfl) ?_
     try simp only [pz]
     refine PF.m 9 (b) (by kernel_rfl) rfl (fun hcu => by go_simp; try rfl) ?_
     try simp only [pz]
     refine PF.t 10 (by kernel_rfl) rfl (by go_simp; try rfl) ?_
     try simp only [pz]
     refine PF.m 11 ((w.heap.size+1)) (by kernel_rfl) rfl (fun hcu => by go_simp; try rfl) ?_
     try simp only [pz]
     refine PF.t 12 (by kernel_rfl) rfl (by go_simp; try rfl) ?_
     try simp only [pz]
     refine PF.t 13 (by kernel_rfl) rfl (by go_simp; try rfl) ?_
     try simp only [pz]
     refine PF.e 14 (by kernel_rfl) rfl fun K hK => ?_
     refine wp_store_blk rfl rfl rfl HBG4.out rfl (info_model rfl) (mdL_one rfl rfl) ?_
     rintro w9 hB9 hm9
     have HB9 := Lib.hid hB9
     have HM9 : Hid (Mod (fun b => b = g3) w4 w9) := ((Mod.refl _ w4).drew).trans hm9
     clear hB9 hm9
     refine hK (by repeat (first | exact PF.n | refine PF.l ?_ | refine PF.o (by decide +kernel) ?_ | refine PF.y (by exact HM9.out.block _ (by have := HL4.out; have := HBB.out; omega) (fun e => by have := HG3.out; have := HBB.out; omega)) ?_)) ?_
     clear hK K
     try simp only [pz]
     refine PF.t 15 (by kernel_rfl) rfl (by go_simp; try rfl) ?_
     try simp only [pz]
     refine PF.d (by kernel_rfl) ?_
     go_wp2_with fail
     refine bodyPost_ret (results_ct Tryz.results39 _ HB9.out rfl Tryz.underlying45 rfl (info_model rfl)) rfl ?_
     refine ⟨⟨_, M, by rw [HQ.out]; rfl, ⟨_, _, rfl, (HMD.out.mod HM9.out fun b hb e => by have := hb.2; have := HG3.out; omega).weak fun b _ h => h.1⟩, HS.out⟩, (H4B.out.mono HHH.out.1).trans (HM9.out.to_below (Nat.le_trans HHH.out.1 H4B.out.size) fun b hb e => by have := HHH.out.1; have := HG3.out; omega)⟩
  ·have p6 : (R.res == 6) = false := beq_eq_false_iff_ne.2 h6
   by_cases hx : R.res ≠ 0 ∨ lb = true
   ·have HP : Hid (publishM M C R = none) := pubN h5 h6 (by rw [HLB2.out]; exact hx)
    have HQ : Hid ((publishM M C R).isSome = false) := by show _ = _; rw [HP.out]; rfl
    have HS : Hid (∀ N', publishM M C R = some N' → N' = M) := fun N' h => by rw [HP.out] at h; cases h
    clear h5 h6
    by_cases h0 : R.res = 0
    ·have p0 : (R.res == 0) = true := beq_iff_eq.2 h0
     have p00 : (R.res != 0) = false := by rw [bne, p0]; rfl
     obtain rfl : lb = true := by rcases hx with h | h; exact absurd h0 h; exact h
     clear h0 hx
     go_wp2_with (refine wpList_load_blk rfl (ty := 45) rfl rfl HB14.out Tryz.underlying45 rfl (info_model rfl) ?_; refine Hid.out ?_)
     refine Lib.hid ?_
     go_wp2_with (refine wpList_store_blk rfl rfl rfl rfl HBG4.out rfl (info_model rfl) (mdL_one rfl rfl) ?_; rintro w9 hB9 hm9; refine Hid.out ?_)
     refine Lib.hid ?_
     have HB9 := Lib.hid hB9
     have HM9 := Lib.hid hm9
     clear hB9 hm9
     go_wp2_with fail
     refine bodyPost_ret (results_ct Tryz.results39 _ HB9.out rfl Tryz.underlying45 rfl (info_model rfl)) rfl ?_
     refine ⟨⟨_, M, by rw [HQ.out]; rfl, ⟨_, _, rfl, (HMD.out.mod HM9.out fun b hb e => by have := hb.2; have := HG3.out; omega).weak fun b _ h => h.1⟩, HS.out⟩, (H4B.out.mono HHH.out.1).trans (HM9.out.to_below (Nat.le_trans HHH.out.1 H4B.out.size) fun b hb e => by have := HHH.out.1; have := HG3.out; omega)⟩
    ·have p0 : (R.res == 0) = false := beq_eq_false_iff_ne.2 h0
     have p00 : (R.res != 0) = true := by rw [bne, p0]; rfl
     clear h0 hx
     go_wp2_with (refine wpList_load_blk rfl (ty := 45) rfl rfl HB14.out Tryz.underlying45 rfl (info_model rfl) ?_; refine Hid.out ?_)
     refine Lib.hid ?_
     go_wp2_with (refine wpList_store_blk rfl rfl rfl rfl HBG4.out rfl (info_model rfl) (mdL_one rfl rfl) ?_; rintro w9 hB9 hm9; refine Hid.out ?_)
     refine Lib.hid ?_
     have HB9 := Lib.hid hB9
     have HM9 := Lib.hid hm9
     clear hB9 hm9
     go_wp2_with fail
     refine bodyPost_ret (results_ct Tryz.results39 _ HB9.out rfl Tryz.underlying45 rfl (info_model rfl)) rfl ?_
     refine ⟨⟨_, M, by rw [HQ.out]; rfl, ⟨_, _, rfl, (HMD.out.mod HM9.out fun b hb e => by have := hb.2; have := HG3.out; omega).weak fun b _ h => h.1⟩, HS.out⟩, (H4B.out.mono HHH.out.1).trans (HM9.out.to_below (Nat.le_trans HHH.out.1 H4B.out.size) fun b hb e => by have := HHH.out.1; have := HG3.out; omega)⟩
   ·obtain ⟨h0, rfl⟩ : R.res = 0 ∧ lb = false := by
     constructor
     ·exact Classical.byContradiction fun h => hx (.inl h)
     ·cases lb
      ·rfl
      ·exact absurd (.inr rfl) hx
    have p0 : (R.res == 0) = true := beq_iff_eq.2 h0
    have p00 : (R.res != 0) = false := by rw [bne, p0]; rfl
    have HR0 := Lib.hid h0
    clear h0 hx h5 h6
    go_wp2_with (refine wpList_load_blk rfl (ty := 45) rfl rfl HB14.out Tryz.underlying45 rfl (info_model rfl) ?_; refine Hid.out ?_)
    refine Lib.hid ?_
    go_wp2_with (refine wpList_load_blk rfl (ty := 25) rfl rfl HB24.out Tryz.underlying25 rfl (info_call rfl) ?_; refine Hid.out ?_)
    refine Lib.hid ?_
    go_wp2_with fail
    refine (fresh_any HMD.out.mdf (HV.out.below H4B.out) HHH.out.2.1).mono ?_
    rintro e w5 ⟨rfl, hb5⟩
    have HT5 := Lib.hid hb5
    have H5B := Tt H4B hb5
    have HB15 := Bb HB14 hb5
    have HB25 := Bb HB24 hb5
    have HB35 := Bb HB34 hb5
    have HBG5 := Bb HBG4 hb5
    have HMD5 := Lib.hid (HMD.out.below hb5)
    have t0 := (HB15.out.cell 0).trans (rfl : _ = some (Value.slice A E.length c))
    have t4 := (HB35.out.cell 4).trans (rfl : _ = some (Value.int .u64 (R.at_ : Int)))
    have t6 := (HB25.out.cell 6).trans (rfl : _ = some (Value.int .u64 (C.seq : Int)))
    clear hb5 r3 r4 q0 q6
    cases hf : freshM M C with
    | true =>
     have HP := Lib.hid (pubF (M := M) (C := C) (R := R) HR0.out HLB2.out hf)
     have HS : Hid (∀ N', publishM M C R = some N' → N' = withM M C) := fun N' h => by rw [HP.out] at h; exact some_if h
     have hw : IntKind.u64.wrap (E.length : Int) = (E.length : Int) := by have := HHH.out.2.1; have := HHH.out.2.2.2; rw [IntKind.wrap_u64]; omega
     have HVL : Hid (∀ b, (Value.slice A E.length c).ownBlock = some b → b < w.heap.size) := fun b hb => by obtain ⟨⟨E2, h1, _⟩, _⟩ := HOF.out; exact (h1.lt b hb).2
     have HOF5 : Hid (OwF (fun b => X b ∨ w.heap.size ≤ b ∧ b < w5.heap.size) B w5 (.slice A E.length c) g M) := (HOF.out.add fun b hb h => by omega).below H5B.out
     clear hf
     by_cases ha : R.at_ = E.length
     ·have a0 : (R.at_ == E.length) = true := beq_iff_eq.2 ha
      have a1 : ((R.at_ : Int) == (E.length : Int)) = true := beq_iff_eq.2 (by omega)
      have HQ : Hid ((publishM M C R).isSome = true) := by show _ = _; rw [HP.out, isSome_if, HHH.out.2.2.2]; simpa using ha
      clear ha
      go_wp2_with fail
      refine PF.b (by kernel_rfl) (fun _ _ _ _ _ h => h) ?_
      refine PF.u 0 (fun u => Blk u w.heap.size 45 (mdL M (.slice A E.length c) (.slice (some ⟨g, 0, none⟩) 3 3)).toArray) (by kernel_rfl) rfl (HB15.out) (fun u hu => exec_load_blk rfl rfl hu Tryz.underlying45 rfl (info_model rfl)) ?_
      try simp only [pz]
      refine PF.u 1 (fun u => Blk u (w.heap.size+1) 25 (calL C (.slice Db C.body.length cb)).toArray) (by kernel_rfl) rfl (HB25.out) (fun u hu => exec_load_blk rfl rfl hu Tryz.underlying25 rfl (info_call rfl)) ?_
      try simp only [pz]
      refine PF.t 3 (by kernel_rfl) rfl (by go_simp; try rfl) ?_
      try simp only [pz]
      refine PF.m 4 ((w.heap.size+1+1)) (by kernel_rfl) rfl (fun hcu => by go_simp; try rfl) ?_
      try simp only [pz]
      refine PF.t 5 (by kernel_rfl) rfl (by go_simp; try rfl) ?_
      try simp only [pz]
      refine PF.m 6 (w.heap.size) (by kernel_rfl) rfl (fun hcu => by go_simp; try rfl) ?_
      try simp only [pz]
      refine PF.t 7 (by kernel_rfl) rfl (by go_simp; try rfl) ?_
      try simp only [pz]
      refine PF.t 8 (by kernel_rfl) rfl (by go_simp; try rfl) ?_
      try simp only [pz]
      refine PF.t 9 (by kernel_rfl) rfl (by go_simp; try rfl) ?_
      try simp only [pz]
      refine PF.e 2 (by kernel_rfl) rfl fun K hK => ?_
      go_simp
      refine (with_any (HOF5.out.below ((Below.refl _ _).drew)) ((HV.out.below H5B.out).below ((Below.refl _ _).drew)) (Nat.le_trans HHH.out.1 H5B.out.size) HHH.out.2.1 HHH.out.2.2.1 (fun b hb => hb.elim (fun h => Nat.lt_of_lt_of_le (HXW.out b h) H5B.out.size) (fun h => h.2))).mono ?_
      rintro e w6 ⟨⟨v6, rfl, hom⟩, hm6⟩
      obtain ⟨vl6, g6, rfl, hof6⟩ := hom
      have HOF6 := Lib.hid hof6
      have HM6 : Hid (Mod (fun b => (Value.slice A E.length c).ownBlock = some b) w5 w6) := ((Mod.refl _ w5).drew).trans hm6
      have HON6 : Hid (vl6.oneCell' = true) := hof6.mdf.1.one
      have HBG6 := Lib.hid (HBG5.out.mod HM6.out fun e => by have := HVL.out _ e; have := HG3.out; omega)
      clear hof6 hm6
      refine hK (by repeat (first | exact PF.n | refine PF.l ?_ | refine PF.o (by decide +kernel) ?_ | refine PF.y (by first | exact HM6.out.block _ (Nat.lt_of_lt_of_le HL4.out.1 HT5.out.size) (fun e => by have := HVL.out _ e; omega) | exact HM6.out.block _ (Nat.lt_of_lt_of_le HL4.out.2.2.1 HT5.out.size) (fun e => by have := HVL.out _ e; omega)) ?_)) ?_
      clear hK K
      try simp only [pz]
      refine PF.e 10 (by kernel_rfl) rfl fun K hK => ?_
      refine wp_store_blk rfl rfl rfl HBG6.out rfl (info_model rfl) (mdL_one HON6.out rfl) ?_
      rintro w9 hB9 hm9
      have HB9 := Lib.hid hB9
      have HM9 : Hid (Mod (fun b => b = g3) w6 w9) := hm9
      clear hB9 hm9
      refine hK (by repeat (first | exact PF.n | refine PF.l ?_ | refine PF.o (by decide +kernel) ?_ | refine PF.y (by first | exact (HM9.out.block _ (Nat.lt_of_lt_of_le (Nat.lt_of_lt_of_le HL4.out.1 HT5.out.size) HM6.out.size) (fun e => by have := HG3.out; omega)).trans (HM6.out.block _ (Nat.lt_of_lt_of_le HL4.out.1 HT5.out.size) (fun e => by have := HVL.out _ e; omega)) | exact (HM9.out.block _ (Nat.lt_of_lt_of_le (Nat.lt_of_lt_of_le HL4.out.2.2.1 HT5.out.size) HM6.out.size) (fun e => by have := HG3.out; omega)).trans (HM6.out.block _ (Nat.lt_of_lt_of_le HL4.out.2.2.1 HT5.out.size) (fun e => by have := HVL.out _ e; omega))) ?_)) ?_
      clear hK K
      try simp only [pz]
      refine PF.t 11 (by kernel_rfl) rfl (by go_simp; try rfl) ?_
      try simp only [pz]
      refine PF.d (by kernel_rfl) ?_
      go_wp2_with fail
      refine bodyPost_ret (results_ct Tryz.results39 _ HB9.out rfl Tryz.underlying45 rfl (info_model rfl)) rfl ?_
      refine ⟨⟨_, withM M C, by rw [HQ.out]; rfl, ⟨_, _, rfl, (HOF6.out.mdw.mod HM9.out fun b hb e => hb.2 (.inr ⟨by have := HG3.out; omega, by have := HL4.out; have := HT5.out.size; omega⟩)).weak fun b _ h => h.1⟩, HS.out⟩, ?_⟩
      have h1 : Mod (fun b => B ≤ b) w w9 := ((mod_below H5B.out).trans (HM6.out.mono fun b hb e => by obtain ⟨⟨E2, h1, _⟩, _⟩ := HOF.out; exact (h1.lt b e).1)).trans (HM9.out.mono fun b hb e => by have := HG3.out; have := HHH.out.1; omega)
      exact h1.to_below HHH.out.1 fun b hb e => by omega
     ·have a0 : (R.at_ == E.length) = false := beq_eq_false_iff_ne.2 ha
      have a1 : ((R.at_ : Int) == (E.length : Int)) = false := beq_eq_false_iff_ne.2 (by omega)
      have HQ : Hid ((publishM M C R).isSome = false) := by show _ = _; rw [HP.out, isSome_if, HHH.out.2.2.2]; simpa using ha
      clear ha
      go_wp2_with fail
      refine PF.b (by kernel_rfl) (fun _ _ _ _ _ h => h) ?_
      refine PF.u 0 (fun u => Blk u w.heap.size 45 (mdL M (.slice A E.length c) (.slice (some ⟨g, 0, none⟩) 3 3)).toArray) (by kernel_rfl) rfl (HB15.out) (fun u hu => exec_load_blk rfl rfl hu Tryz.underlying45 rfl (info_model rfl)) ?_
      try simp only [pz]
      refine PF.u 1 (fun u => Blk u (w.heap.size+1) 25 (calL C (.slice Db C.body.length cb)).toArray) (by kernel_rfl) rfl (HB25.out) (fun u hu => exec_load_blk rfl rfl hu Tryz.underlying25 rfl (info_call rfl)) ?_
      try simp only [pz]
      refine PF.t 3 (by kernel_rfl) rfl (by go_simp; try rfl) ?_
      try simp only [pz]
      refine PF.m 4 ((w.heap.size+1+1)) (by kernel_rfl) rfl (fun hcu => by go_simp; try rfl) ?_
      try simp only [pz]
      refine PF.t 5 (by kernel_rfl) rfl (by go_simp; try rfl) ?_
      try simp only [pz]
      refine PF.m 6 (w.heap.size) (by kernel_rfl) rfl (fun hcu => by go_simp; try rfl) ?_
      try simp only [pz]
      refine PF.t 7 (by kernel_rfl) rfl (by go_simp; try rfl) ?_
      try simp only [pz]
      refine PF.t 8 (by kernel_rfl) rfl (by go_simp; try rfl) ?_
      try simp only [pz]
      refine PF.t 9 (by kernel_rfl) rfl (by go_simp; try rfl) ?_
      try simp only [pz]
      refine PF.e 2 (by kernel_rfl) rfl fun K hK => ?_
      go_simp
      refine (with_any (HOF5.out.below ((Below.refl _ _).drew)) ((HV.out.below H5B.out).below ((Below.refl _ _).drew)) (Nat.le_trans HHH.out.1 H5B.out.size) HHH.out.2.1 HHH.out.2.2.1 (fun b hb => hb.elim (fun h => Nat.lt_of_lt_of_le (HXW.out b h) H5B.out.size) (fun h => h.2))).mono ?_
      rintro e w6 ⟨⟨v6, rfl, hom⟩, hm6⟩
      obtain ⟨vl6, g6, rfl, hof6⟩ := hom
      have HOF6 := Lib.hid hof6
      have HM6 : Hid (Mod (fun b => (Value.slice A E.length c).ownBlock = some b) w5 w6) := ((Mod.refl _ w5).drew).trans hm6
      have HON6 : Hid (vl6.oneCell' = true) := hof6.mdf.1.one
      have HBG6 := Lib.hid (HBG5.out.mod HM6.out fun e => by have := HVL.out _ e; have := HG3.out; omega)
      clear hof6 hm6
      refine hK (by repeat (first | exact PF.n | refine PF.l ?_ | refine PF.o (by decide +kernel) ?_ | refine PF.y (by first | exact HM6.out.block _ (Nat.lt_of_lt_of_le HL4.out.1 HT5.out.size) (fun e => by have := HVL.out _ e; omega) | exact HM6.out.block _ (Nat.lt_of_lt_of_le HL4.out.2.2.1 HT5.out.size) (fun e => by have := HVL.out _ e; omega)) ?_)) ?_
      clear hK K
      try simp only [pz]
      refine PF.e 10 (by kernel_rfl) rfl fun K hK => ?_
      refine wp_store_blk rfl rfl rfl HBG6.out rfl (info_model rfl) (mdL_one HON6.out rfl) ?_
      rintro w9 hB9 hm9
      have HB9 := Lib.hid hB9
      have HM9 : Hid (Mod (fun b => b = g3) w6 w9) := hm9
      clear hB9 hm9
      refine hK (by repeat (first | exact PF.n | refine PF.l ?_ | refine PF.o (by decide +kernel) ?_ | refine PF.y (by first | exact (HM9.out.block _ (Nat.lt_of_lt_of_le (Nat.lt_of_lt_of_le HL4.out.1 HT5.out.size) HM6.out.size) (fun e => by have := HG3.out; omega)).trans (HM6.out.block _ (Nat.lt_of_lt_of_le HL4.out.1 HT5.out.size) (fun e => by have := HVL.out _ e; omega)) | exact (HM9.out.block _ (Nat.lt_of_lt_of_le (Nat.lt_of_lt_of_le HL4.out.2.2.1 HT5.out.size) HM6.out.size) (fun e => by have := HG3.out; omega)).trans (HM6.out.block _ (Nat.lt_of_lt_of_le HL4.out.2.2.1 HT5.out.size) (fun e => by have := HVL.out _ e; omega))) ?_)) ?_
      clear hK K
      try simp only [pz]
      refine PF.t 11 (by kernel_rfl) rfl (by go_simp; try rfl) ?_
      try simp only [pz]
      refine PF.d (by kernel_rfl) ?_
      go_wp2_with fail
      refine bodyPost_ret (results_ct Tryz.results39 _ HB9.out rfl Tryz.underlying45 rfl (info_model rfl)) rfl ?_
      refine ⟨⟨_, withM M C, by rw [HQ.out]; rfl, ⟨_, _, rfl, (HOF6.out.mdw.mod HM9.out fun b hb e => hb.2 (.inr ⟨by have := HG3.out; omega, by have := HL4.out; have := HT5.out.size; omega⟩)).weak fun b _ h => h.1⟩, HS.out⟩, ?_⟩
      have h1 : Mod (fun b => B ≤ b) w w9 := ((mod_below H5B.out).trans (HM6.out.mono fun b hb e => by obtain ⟨⟨E2, h1, _⟩, _⟩ := HOF.out; exact (h1.lt b e).1)).trans (HM9.out.mono fun b hb e => by have := HG3.out; have := HHH.out.1; omega)
      exact h1.to_below HHH.out.1 fun b hb e => by omega
    | false =>
     have HP := Lib.hid (pubO (M := M) (C := C) (R := R) HR0.out HLB2.out hf)
     cases hj : lastOf M C.cl with
     | none =>
      unfold freshM at hf
      rw [hj] at hf
      cases hf
     | some j =>
      have hjl := lastOf_lt hj
      obtain ⟨A', c', E', e', hE', hr', _⟩ := id HMD5.out.1.1
      injection e' with e1 e2 e3
      subst e1 e3
      rw [← hE', List.length_map] at hjl
      obtain ⟨b, o, rfl, hbl, dz, d1, dz'⟩ := en_cells hr' hjl
      have HBB : Hid (b < w.heap.size) := by obtain ⟨⟨E2, h1, _⟩, _⟩ := HOF.out; exact (h1.lt b rfl).2
      have hgj := map_getD hE' hjl
      generalize hy : E'[j].1 = y at d1 hgj
      have hjl2 : (j : Int) < (E.length : Int) := by omega
      have n0 : lastI (some j) = (j : Int) := rfl
      have q9 : decide ((0 : Int) ≤ (j : Int)) = true := decide_eq_true (by omega)
      rw [n0]
      have HP7 : Hid (publishM M C R = if y.seq = C.seq ∧ R.at_ = j then some M else none) := by show _ = _; rw [HP.out, hj]; simp only [hgj]
      have HS : Hid (∀ N', publishM M C R = some N' → N' = M) := fun N' h => by rw [HP7.out] at h; exact some_if h
      have hw : IntKind.u64.wrap (j : Int) = (j : Int) := by have := HHH.out.2.1; have := HHH.out.2.2.2; rw [IntKind.wrap_u64]; omega
      clear dz dz' hy hj hr' hgj e2 hE' hjl hf
      by_cases hs : y.seq = C.seq
      ·have s0 : (y.seq == C.seq) = true := beq_iff_eq.2 hs
       have s1 : ((y.seq : Int) == (C.seq : Int)) = true := beq_iff_eq.2 (by omega)
       by_cases ha : R.at_ = j
       ·have a0 : (R.at_ == j) = true := beq_iff_eq.2 ha
        have a1 : ((R.at_ : Int) == (j : Int)) = true := beq_iff_eq.2 (by omega)
        have HQ : Hid ((publishM M C R).isSome = true) := by show _ = _; rw [HP7.out, isSome_if]; simp [hs, ha]
        clear hs ha
        go_wp2_with fail
        refine PF.b (by kernel_rfl) (fun _ _ _ _ _ h => h) ?_
        refine PF.u 0 (fun u => Blk u w.heap.size 45 (mdL M (.slice (some ⟨b, o, none⟩) E.length c) (.slice (some ⟨g, 0, none⟩) 3 3)).toArray) (by kernel_rfl) rfl (HB15.out) (fun u hu => exec_load_blk rfl rfl hu Tryz.underlying45 rfl (info_model rfl)) ?_
        try simp only [pz]
        refine PF.t 1 (by kernel_rfl) rfl (by go_simp; try rfl) ?_
        try simp only [pz]
        refine PF.m 2 (w.heap.size) (by kernel_rfl) rfl (fun hcu => by go_simp; try rfl) ?_
        try simp only [pz]
        refine PF.t 3 (by kernel_rfl) rfl (by go_simp; try rfl) ?_
        try simp only [pz]
        refine PF.t 4 (by kernel_rfl) rfl (by go_simp; try rfl) ?_
        try simp only [pz]
        refine PF.t 5 (by kernel_rfl) rfl (by go_simp; try rfl) ?_
        try simp only [pz]
        refine PF.m 6 (b) (by kernel_rfl) rfl (fun hcu => by go_simp; try rfl) ?_
        try simp only [pz]
        refine PF.t 7 (by kernel_rfl) rfl (by go_simp; try rfl) ?_
        try simp only [pz]
        refine PF.m 8 ((w.heap.size+1)) (by kernel_rfl) rfl (fun hcu => by go_simp; try rfl) ?_
        try simp only [pz]
        refine PF.t 9 (by kernel_rfl) rfl (by go_simp; try rfl) ?_
        try simp only [pz]
        refine PF.t 10 (by kernel_rfl) rfl (by go_simp; try rfl) ?_
        try simp only [pz]
        refine PF.t 11 (by kernel_rfl) rfl (by go_simp; try rfl) ?_
        try simp only [pz]
        refine PF.m 12 ((w.heap.size+1+1)) (by kernel_rfl) rfl (fun hcu => by go_simp; try rfl) ?_
        try simp only [pz]
        refine PF.t 13 (by kernel_rfl) rfl (by go_simp; try rfl) ?_
        try simp only [pz]
        refine PF.t 14 (by kernel_rfl) rfl (by go_simp; try rfl) ?_
        try simp only [pz]
        refine PF.t 15 (by kernel_rfl) rfl (by go_simp; try rfl) ?_
        try simp only [pz]
        refine PF.t 16 (by kernel_rfl) rfl (by go_simp; try rfl) ?_
        try simp only [pz]
        refine PF.e 17 (by kernel_rfl) rfl fun K hK => ?_
        refine wp_store_blk rfl rfl rfl HBG5.out rfl (info_model rfl) (mdL_one rfl rfl) ?_
        rintro w9 hB9 hm9
        have HB9 := Lib.hid hB9
        have HM9 : Hid (Mod (fun b => b = g3) w5 w9) := ((Mod.refl _ w5).drew).trans hm9
        clear hB9 hm9
        refine hK (by repeat (first | exact PF.n | refine PF.l ?_ | refine PF.o (by decide +kernel) ?_ | refine PF.y (by exact HM9.out.block _ (by have := HL4.out; have := HT5.out.size; have := HBB.out; omega) (fun e => by have := HG3.out; have := HBB.out; omega)) ?_)) ?_
        clear hK K
        try simp only [pz]
        refine PF.t 18 (by kernel_rfl) rfl (by go_simp; try rfl) ?_
        try simp only [pz]
        refine PF.d (by kernel_rfl) ?_
        go_wp2_with fail
        refine bodyPost_ret (results_ct Tryz.results39 _ HB9.out rfl Tryz.underlying45 rfl (info_model rfl)) rfl ?_
        refine ⟨⟨_, M, by rw [HQ.out]; rfl, ⟨_, _, rfl, (HMD5.out.mod HM9.out fun b hb e => by have := hb.2; have := HG3.out; omega).weak fun b _ h => h.1⟩, HS.out⟩, (H5B.out.mono HHH.out.1).trans (HM9.out.to_below (Nat.le_trans HHH.out.1 H5B.out.size) fun b hb e => by have := HHH.out.1; have := HG3.out; omega)⟩
       ·have a0 : (R.at_ == j) = false := beq_eq_false_iff_ne.2 ha
        have a1 : ((R.at_ : Int) == (j : Int)) = false := beq_eq_false_iff_ne.2 (by omega)
        have HQ : Hid ((publishM M C R).isSome = false) := by show _ = _; rw [HP7.out, isSome_if]; simp [hs, ha]
        clear hs ha
        go_wp2_with fail
        refine PF.b (by kernel_rfl) (fun _ _ _ _ _ h => h) ?_
        refine PF.u 0 (fun u => Blk u w.heap.size 45 (mdL M (.slice (some ⟨b, o, none⟩) E.length c) (.slice (some ⟨g, 0, none⟩) 3 3)).toArray) (by kernel_rfl) rfl (HB15.out) (fun u hu => exec_load_blk rfl rfl hu Tryz.underlying45 rfl (info_model rfl)) ?_
        try simp only [pz]
        refine PF.t 1 (by kernel_rfl) rfl (by go_simp; try rfl) ?_
        try simp only [pz]
        refine PF.m 2 (w.heap.size) (by kernel_rfl) rfl (fun hcu => by go_simp; try rfl) ?_
        try simp only [pz]
        refine PF.t 3 (by kernel_rfl) rfl (by go_simp; try rfl) ?_
        try simp only [pz]
        refine PF.t 4 (by kernel_rfl) rfl (by go_simp; try rfl) ?_
        try simp only [pz]
        refine PF.t 5 (by kernel_rfl) rfl (by go_simp; try rfl) ?_
        try simp only [pz]
        refine PF.m 6 (b) (by kernel_rfl) rfl (fun hcu => by go_simp; try rfl) ?_
        try simp only [pz]
        refine PF.t 7 (by kernel_rfl) rfl (by go_simp; try rfl) ?_
        try simp only [pz]
        refine PF.m 8 ((w.heap.size+1)) (by kernel_rfl) rfl (fun hcu => by go_simp; try rfl) ?_
        try simp only [pz]
        refine PF.t 9 (by kernel_rfl) rfl (by go_simp; try rfl) ?_
        try simp only [pz]
        refine PF.t 10 (by kernel_rfl) rfl (by go_simp; try rfl) ?_
        try simp only [pz]
        refine PF.t 11 (by kernel_rfl) rfl (by go_simp; try rfl) ?_
        try simp only [pz]
        refine PF.m 12 ((w.heap.size+1+1)) (by kernel_rfl) rfl (fun hcu => by go_simp; try rfl) ?_
        try simp only [pz]
        refine PF.t 13 (by kernel_rfl) rfl (by go_simp; try rfl) ?_
        try simp only [pz]
        refine PF.t 14 (by kernel_rfl) rfl (by go_simp; try rfl) ?_
        try simp only [pz]
        refine PF.t 15 (by kernel_rfl) rfl (by go_simp; try rfl) ?_
        try simp only [pz]
        refine PF.t 16 (by kernel_rfl) rfl (by go_simp; try rfl) ?_
        try simp only [pz]
        refine PF.e 17 (by kernel_rfl) rfl fun K hK => ?_
        refine wp_store_blk rfl rfl rfl HBG5.out rfl (info_model rfl) (mdL_one rfl rfl) ?_
        rintro w9 hB9 hm9
        have HB9 := Lib.hid hB9
        have HM9 : Hid (Mod (fun b => b = g3) w5 w9) := ((Mod.refl _ w5).drew).trans hm9
        clear hB9 hm9
        refine hK (by repeat (first | exact PF.n | refine PF.l ?_ | refine PF.o (by decide +kernel) ?_ | refine PF.y (by exact HM9.out.block _ (by have := HL4.out; have := HT5.out.size; have := HBB.out; omega) (fun e => by have := HG3.out; have := HBB.out; omega)) ?_)) ?_
        clear hK K
        try simp only [pz]
        refine PF.t 18 (by kernel_rfl) rfl (by go_simp; try rfl) ?_
        try simp only [pz]
        refine PF.d (by kernel_rfl) ?_
        go_wp2_with fail
        refine bodyPost_ret (results_ct Tryz.results39 _ HB9.out rfl Tryz.underlying45 rfl (info_model rfl)) rfl ?_
        refine ⟨⟨_, M, by rw [HQ.out]; rfl, ⟨_, _, rfl, (HMD5.out.mod HM9.out fun b hb e => by have := hb.2; have := HG3.out; omega).weak fun b _ h => h.1⟩, HS.out⟩, (H5B.out.mono HHH.out.1).trans (HM9.out.to_below (Nat.le_trans HHH.out.1 H5B.out.size) fun b hb e => by have := HHH.out.1; have := HG3.out; omega)⟩
      ·have s0 : (y.seq == C.seq) = false := beq_eq_false_iff_ne.2 hs
       have s1 : ((y.seq : Int) == (C.seq : Int)) = false := beq_eq_false_iff_ne.2 (by omega)
       have HQ : Hid ((publishM M C R).isSome = false) := by show _ = _; rw [HP7.out, isSome_if]; simp [hs]
       clear hs
       go_wp2_with fail
       refine PF.b (by kernel_rfl) (fun _ _ _ _ _ h => h) ?_
       refine PF.u 0 (fun u => Blk u w.heap.size 45 (mdL M (.slice (some ⟨b, o, none⟩) E.length c) (.slice (some ⟨g, 0, none⟩) 3 3)).toArray) (by kernel_rfl) rfl (HB15.out) (fun u hu => exec_load_blk rfl rfl hu Tryz.underlying45 rfl (info_model rfl)) ?_
       try simp only [pz]
       refine PF.t 1 (by kernel_rfl) rfl (by go_simp; try rfl) ?_
       try simp only [pz]
       refine PF.m 2 (w.heap.size) (by kernel_rfl) rfl (fun hcu => by go_simp; try rfl) ?_
       try simp only [pz]
       refine PF.t 3 (by kernel_rfl) rfl (by go_simp; try rfl) ?_
       try simp only [pz]
       refine PF.t 4 (by kernel_rfl) rfl (by go_simp; try rfl) ?_
       try simp only [pz]
       refine PF.t 5 (by kernel_rfl) rfl (by go_simp; try rfl) ?_
       try simp only [pz]
       refine PF.m 6 (b) (by kernel_rfl) rfl (fun hcu => by go_simp; try rfl) ?_
       try simp only [pz]
       refine PF.t 7 (by kernel_rfl) rfl (by go_simp; try rfl) ?_
       try simp only [pz]
       refine PF.m 8 ((w.heap.size+1)) (by kernel_rfl) rfl (fun hcu => by go_simp; try rfl) ?_
       try simp only [pz]
       refine PF.t 9 (by kernel_rfl) rfl (by go_simp; try rfl) ?_
       try simp only [pz]
       refine PF.t 10 (by kernel_rfl) rfl (by go_simp; try rfl) ?_
       try simp only [pz]
       refine PF.s 11 (by kernel_rfl) rfl ?_
       refine PF.s 12 (by kernel_rfl) rfl ?_
       refine PF.s 13 (by kernel_rfl) rfl ?_
       refine PF.s 14 (by kernel_rfl) rfl ?_
       refine PF.s 15 (by kernel_rfl) rfl ?_
       try simp only [pz]
       refine PF.t 16 (by kernel_rfl) rfl (by go_simp; try rfl) ?_
       try simp only [pz]
       refine PF.e 17 (by kernel_rfl) rfl fun K hK => ?_
       refine wp_store_blk rfl rfl rfl HBG5.out rfl (info_model rfl) (mdL_one rfl rfl) ?_
       rintro w9 hB9 hm9
       have HB9 := Lib.hid hB9
       have HM9 : Hid (Mod (fun b => b = g3) w5 w9) := ((Mod.refl _ w5).drew).trans hm9
       clear hB9 hm9
       refine hK (by repeat (first | exact PF.n | refine PF.l ?_ | refine PF.o (by decide +kernel) ?_ | refine PF.y (by exact HM9.out.block _ (by have := HL4.out; have := HT5.out.size; have := HBB.out; omega) (fun e => by have := HG3.out; have := HBB.out; omega)) ?_)) ?_
       clear hK K
       try simp only [pz]
       refine PF.t 18 (by kernel_rfl) rfl (by go_simp; try rfl) ?_
       try simp only [pz]
       refine PF.d (by kernel_rfl) ?_
       go_wp2_with fail
       refine bodyPost_ret (results_ct Tryz.results39 _ HB9.out rfl Tryz.underlying45 rfl (info_model rfl)) rfl ?_
       refine ⟨⟨_, M, by rw [HQ.out]; rfl, ⟨_, _, rfl, (HMD5.out.mod HM9.out fun b hb e => by have := hb.2; have := HG3.out; omega).weak fun b _ h => h.1⟩, HS.out⟩, (H5B.out.mono HHH.out.1).trans (HM9.out.to_below (Nat.le_trans HHH.out.1 H5B.out.size) fun b hb e => by have := HHH.out.1; have := HG3.out; omega)⟩
end Go.Proofs.YtpjmolnkmlpfeaaGreatDoor
