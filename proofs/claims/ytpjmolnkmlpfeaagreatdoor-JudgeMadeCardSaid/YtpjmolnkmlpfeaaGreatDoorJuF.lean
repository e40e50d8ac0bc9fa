/- Whether a publish is fresh; where a cursor is; a model in memory of its own. -/
import Derived.Test.YtpjmolnkmlpfeaaGreatDoorJuE
namespace Go.Proofs.YtpjmolnkmlpfeaaGreatDoor
set_option linter.unusedVariables false
set_option linter.unusedSimpArgs false
set_option maxRecDepth 100000
open Go.RowKit

set_option maxRecDepth 100000 in
set_option maxHeartbeats 4000000 in
theorem fresh_any {K K' : Nat → Prop} {w : World} {vl vc v : Value} {M : Mdl} {C : Cal} (h : MdF K w vl vc M) (hv : SlB K' w v C.body) (hn : M.log.length ≤ 100000) :
    Calls Tryz.prog 50 #[.agg (mdL M vl vc).toArray, .agg (calL C v).toArray] w fun e w' => e = .returned (.bool (freshM M C)) ∧ Below w.heap.size w w' := by
  obtain ⟨h1, A2, c2, rfl, _⟩ := h
  obtain ⟨Db, cb, rfl, _⟩ := hv
  generalize M.cur.length = n2
  generalize C.body.length = nb
  have HE := Lib.hid h1
  obtain ⟨A, c, E, rfl, hE, hr, hall, _⟩ := h1
  have hl : M.log.length = E.length := by rw [← hE, List.length_map]
  obtain ⟨vL, hvL⟩ : ∃ vL, vL = Value.slice A E.length c := ⟨_, rfl⟩
  have hB1 : Blk ((w.alloc (.cells (mdL M (.slice A E.length c) (.slice A2 n2 c2)).toArray 45)).alloc (.cells (calL C (.slice Db nb cb)).toArray 25)) w.heap.size 45 (mdL M (.slice A E.length c) (.slice A2 n2 c2)).toArray := (Blk.new _ _ _).alloc _
  have hB2 : Blk ((w.alloc (.cells (mdL M (.slice A E.length c) (.slice A2 n2 c2)).toArray 45)).alloc (.cells (calL C (.slice Db nb cb)).toArray 25)) (w.heap.size + 1) 25 (calL C (.slice Db nb cb)).toArray := by
    have := Blk.new (w.alloc (.cells (mdL M (.slice A E.length c) (.slice A2 n2 c2)).toArray 45)) 25 (calL C (.slice Db nb cb)).toArray
    rwa [alloc_size] at this
  have hT : Below w.heap.size w ((w.alloc (.cells (mdL M (.slice A E.length c) (.slice A2 n2 c2)).toArray 45)).alloc (.cells (calL C (.slice Db nb cb)).toArray 25)) := ((Below.refl _ _).alloc (Nat.le_refl _) _).alloc (by simp) _
  have c0 := (hB1.cell 0).trans (rfl : _ = some (Value.slice A E.length c))
  have c1 := (hB1.cell 1).trans (rfl : _ = some (Value.int .u64 (M.trim : Int)))
  have c2' := (hB1.cell 2).trans (rfl : _ = some (Value.slice A2 n2 c2))
  have d0 := (hB2.cell 0).trans (rfl : _ = some (Value.int .i64 C.cl))
  have hE2 := HE.out.below hT
  have hlast := last_any (vc := .slice A2 n2 c2) hE2 C.cl hn
  have HB1 := Lib.hid hB1
  have HB2 := Lib.hid hB2
  have HT := Lib.hid hT
  have HR := Lib.hid hr
  have HEQ := Lib.hid hE
  clear hB1 hB2 hT hE2 hr hall hE HE
  go_enter Tryz.func50, Tryz.ntmps50
  go_wp2_with fail
  refine hlast.mono ?_
  rintro e w3 ⟨rfl, hb3⟩
  have HT3 := Lib.hid (below_call HT.out HT.out.size hb3)
  have HB13 := Lib.hid (HB1.out.below hb3 HB1.out.lt)
  have HB23 := Lib.hid (HB2.out.below hb3 HB2.out.lt)
  have e0 := (HB13.out.cell 0).trans (rfl : _ = some (Value.slice A E.length c))
  have e6 := (HB23.out.cell 6).trans (rfl : _ = some (Value.int .u64 (C.seq : Int)))
  clear hlast hb3 c0 c1 c2' d0
  cases hj : lastOf M C.cl with
  | none =>
    have n0 : lastI none = -1 := rfl
    rw [n0]
    have HF : Hid (freshM M C = true) := by show _ = _; unfold freshM; rw [hj]
    clear hj
    go_wp2_with fail
    refine PF.pf_begin (by kernel_rfl) ?_
    refine PF.pf_take0 0 (by kernel_rfl) rfl (fun _ _ _ _ _ h => h) (by kernel_rfl) (fun u => by go_simp; try rfl) ?_
    try simp only [Act.put, pz0, pz1, pz2]
    refine PF.pf_take0 1 (by kernel_rfl) rfl (fun _ _ _ _ _ h => h) (by kernel_rfl) (fun u => by go_simp; try rfl) ?_
    try simp only [Act.put, pz0, pz1, pz2]
    refine PF.pf_take0 2 (by kernel_rfl) rfl (fun _ _ _ _ _ h => h) (by kernel_rfl) (fun u => by go_simp; try rfl) ?_
    try simp only [Act.put, pz0, pz1, pz2]
    refine PF.pf_skip0 3 (by kernel_rfl) rfl (fun _ _ _ _ _ h => h) (by kernel_rfl) ?_
    try simp only [Act.put, pz0, pz1, pz2]
    refine PF.pf_skip0 4 (by kernel_rfl) rfl (fun _ _ _ _ _ h => h) (by kernel_rfl) ?_
    try simp only [Act.put, pz0, pz1, pz2]
    refine PF.pf_skip0 5 (by kernel_rfl) rfl (fun _ _ _ _ _ h => h) (by kernel_rfl) ?_
    try simp only [Act.put, pz0, pz1, pz2]
    refine PF.pf_skip0 6 (by kernel_rfl) rfl (fun _ _ _ _ _ h => h) (by kernel_rfl) ?_
    try simp only [Act.put, pz0, pz1, pz2]
    refine PF.pf_skip0 7 (by kernel_rfl) rfl (fun _ _ _ _ _ h => h) (by kernel_rfl) ?_
    try simp only [Act.put, pz0, pz1, pz2]
    refine PF.pf_skip0 8 (by kernel_rfl) rfl (fun _ _ _ _ _ h => h) (by kernel_rfl) ?_
    try simp only [Act.put, pz0, pz1, pz2]
    refine PF.pf_skip0 9 (by kernel_rfl) rfl (fun _ _ _ _ _ h => h) (by kernel_rfl) ?_
    try simp only [Act.put, pz0, pz1, pz2]
    refine PF.pf_skip0 10 (by kernel_rfl) rfl (fun _ _ _ _ _ h => h) (by kernel_rfl) ?_
    try simp only [Act.put, pz0, pz1, pz2]
    refine PF.pf_skip0 11 (by kernel_rfl) rfl (fun _ _ _ _ _ h => h) (by kernel_rfl) ?_
    try simp only [Act.put, pz0, pz1, pz2]
    refine PF.pf_take0 12 (by kernel_rfl) rfl (fun _ _ _ _ _ h => h) (by kernel_rfl) (fun u => by go_simp; try rfl) ?_
    try simp only [Act.put, pz0, pz1, pz2]
    refine PF.pf_take0 13 (by kernel_rfl) rfl (fun _ _ _ _ _ h => h) (by kernel_rfl) (fun u => by go_simp; try rfl) ?_
    try simp only [Act.put, pz0, pz1, pz2]
    refine PF.pf_done (by kernel_rfl) ?_
    go_wp2_with fail
    go_ret
    exact ⟨by rw [HF.out]; rfl, HT3.out.drew⟩
  | some j =>
    have hjl := lastOf_lt hj
    rw [hl] at hjl
    have hrr := HR.out.below (HT3.out.mono (Nat.le_refl _))
    obtain ⟨b, o, rfl, hbl, dz, d1, dz'⟩ := en_cells hrr hjl
    have hgj := map_getD HEQ.out hjl
    generalize hy : E[j].1 = y at d1 hgj
    have q0 : decide ((j : Int) < 0) = false := decide_eq_false (by omega)
    have n0 : lastI (some j) = (j : Int) := rfl
    rw [n0]
    have HF : Hid (freshM M C = decide (y.seq < C.seq)) := by show _ = _; unfold freshM; rw [hj]; simp only [hgj]
    clear dz dz' hy hj hrr hgj
    by_cases hs : y.seq < C.seq
    · have s0 : decide (y.seq < C.seq) = true := decide_eq_true hs
      have s1 : decide ((y.seq : Int) < (C.seq : Int)) = true := decide_eq_true (by omega)
      clear hs
      go_wp2_with fail
      refine PF.pf_begin (by kernel_rfl) ?_
      refine PF.pf_take0 0 (by kernel_rfl) rfl (fun _ _ _ _ _ h => h) (by kernel_rfl) (fun u => by go_simp; try rfl) ?_
      try simp only [Act.put, pz0, pz1, pz2]
      refine PF.pf_take0 1 (by kernel_rfl) rfl (fun _ _ _ _ _ h => h) (by kernel_rfl) (fun u => by go_simp; try rfl) ?_
      try simp only [Act.put, pz0, pz1, pz2]
      refine PF.pf_take0 2 (by kernel_rfl) rfl (fun _ _ _ _ _ h => h) (by kernel_rfl) (fun u => by go_simp; try rfl) ?_
      try simp only [Act.put, pz0, pz1, pz2]
      refine PF.pf_take0 3 (by kernel_rfl) rfl (fun _ _ _ _ _ h => h) (by kernel_rfl) (fun u => by go_simp; try rfl) ?_
      try simp only [Act.put, pz0, pz1, pz2]
      refine PF.pf_take1 4 (PF.Same (w.heap.size) _) (by kernel_rfl) rfl (fun _ _ _ _ _ h => h) (by kernel_rfl) (PF.Same.refl _ _) (fun u hu => by have hcu := hu.cell; go_simp; try rfl) ?_
      try simp only [Act.put, pz0, pz1, pz2]
      refine PF.pf_take0 5 (by kernel_rfl) rfl (fun _ _ _ _ _ h => h) (by kernel_rfl) (fun u => by go_simp; try rfl) ?_
      try simp only [Act.put, pz0, pz1, pz2]
      refine PF.pf_take0 6 (by kernel_rfl) rfl (fun _ _ _ _ _ h => h) (by kernel_rfl) (fun u => by go_simp; try rfl) ?_
      try simp only [Act.put, pz0, pz1, pz2]
      refine PF.pf_take0 7 (by kernel_rfl) rfl (fun _ _ _ _ _ h => h) (by kernel_rfl) (fun u => by go_simp; try rfl) ?_
      try simp only [Act.put, pz0, pz1, pz2]
      refine PF.pf_take1 8 (PF.Same (b) _) (by kernel_rfl) rfl (fun _ _ _ _ _ h => h) (by kernel_rfl) (PF.Same.refl _ _) (fun u hu => by have hcu := hu.cell; go_simp; try rfl) ?_
      try simp only [Act.put, pz0, pz1, pz2]
      refine PF.pf_take0 9 (by kernel_rfl) rfl (fun _ _ _ _ _ h => h) (by kernel_rfl) (fun u => by go_simp; try rfl) ?_
      try simp only [Act.put, pz0, pz1, pz2]
      refine PF.pf_take1 10 (PF.Same ((w.heap.size+1)) _) (by kernel_rfl) rfl (fun _ _ _ _ _ h => h) (by kernel_rfl) (PF.Same.refl _ _) (fun u hu => by have hcu := hu.cell; go_simp; try rfl) ?_
      try simp only [Act.put, pz0, pz1, pz2]
      refine PF.pf_take0 11 (by kernel_rfl) rfl (fun _ _ _ _ _ h => h) (by kernel_rfl) (fun u => by go_simp; try rfl) ?_
      try simp only [Act.put, pz0, pz1, pz2]
      refine PF.pf_take0 12 (by kernel_rfl) rfl (fun _ _ _ _ _ h => h) (by kernel_rfl) (fun u => by go_simp; try rfl) ?_
      try simp only [Act.put, pz0, pz1, pz2]
      refine PF.pf_take0 13 (by kernel_rfl) rfl (fun _ _ _ _ _ h => h) (by kernel_rfl) (fun u => by go_simp; try rfl) ?_
      try simp only [Act.put, pz0, pz1, pz2]
      refine PF.pf_done (by kernel_rfl) ?_
      go_wp2_with fail
      go_ret
      exact ⟨by rw [HF.out, s0]; rfl, HT3.out.drew⟩
    · have s0 : decide (y.seq < C.seq) = false := decide_eq_false hs
      have s1 : decide ((y.seq : Int) < (C.seq : Int)) = false := decide_eq_false (by omega)
      clear hs
      go_wp2_with fail
      refine PF.pf_begin (by kernel_rfl) ?_
      refine PF.pf_take0 0 (by kernel_rfl) rfl (fun _ _ _ _ _ h => h) (by kernel_rfl) (fun u => by go_simp; try rfl) ?_
      try simp only [Act.put, pz0, pz1, pz2]
      refine PF.pf_take0 1 (by kernel_rfl) rfl (fun _ _ _ _ _ h => h) (by kernel_rfl) (fun u => by go_simp; try rfl) ?_
      try simp only [Act.put, pz0, pz1, pz2]
      refine PF.pf_take0 2 (by kernel_rfl) rfl (fun _ _ _ _ _ h => h) (by kernel_rfl) (fun u => by go_simp; try rfl) ?_
      try simp only [Act.put, pz0, pz1, pz2]
      refine PF.pf_take0 3 (by kernel_rfl) rfl (fun _ _ _ _ _ h => h) (by kernel_rfl) (fun u => by go_simp; try rfl) ?_
      try simp only [Act.put, pz0, pz1, pz2]
      refine PF.pf_take1 4 (PF.Same (w.heap.size) _) (by kernel_rfl) rfl (fun _ _ _ _ _ h => h) (by kernel_rfl) (PF.Same.refl _ _) (fun u hu => by have hcu := hu.cell; go_simp; try rfl) ?_
      try simp only [Act.put, pz0, pz1, pz2]
      refine PF.pf_take0 5 (by kernel_rfl) rfl (fun _ _ _ _ _ h => h) (by kernel_rfl) (fun u => by go_simp; try rfl) ?_
      try simp only [Act.put, pz0, pz1, pz2]
      refine PF.pf_take0 6 (by kernel_rfl) rfl (fun _ _ _ _ _ h => h) (by kernel_rfl) (fun u => by go_simp; try rfl) ?_
      try simp only [Act.put, pz0, pz1, pz2]
      refine PF.pf_take0 7 (by kernel_rfl) rfl (fun _ _ _ _ _ h => h) (by kernel_rfl) (fun u => by go_simp; try rfl) ?_
      try simp only [Act.put, pz0, pz1, pz2]
      refine PF.pf_take1 8 (PF.Same (b) _) (by kernel_rfl) rfl (fun _ _ _ _ _ h => h) (by kernel_rfl) (PF.Same.refl _ _) (fun u hu => by have hcu := hu.cell; go_simp; try rfl) ?_
      try simp only [Act.put, pz0, pz1, pz2]
      refine PF.pf_take0 9 (by kernel_rfl) rfl (fun _ _ _ _ _ h => h) (by kernel_rfl) (fun u => by go_simp; try rfl) ?_
      try simp only [Act.put, pz0, pz1, pz2]
      refine PF.pf_take1 10 (PF.Same ((w.heap.size+1)) _) (by kernel_rfl) rfl (fun _ _ _ _ _ h => h) (by kernel_rfl) (PF.Same.refl _ _) (fun u hu => by have hcu := hu.cell; go_simp; try rfl) ?_
      try simp only [Act.put, pz0, pz1, pz2]
      refine PF.pf_take0 11 (by kernel_rfl) rfl (fun _ _ _ _ _ h => h) (by kernel_rfl) (fun u => by go_simp; try rfl) ?_
      try simp only [Act.put, pz0, pz1, pz2]
      refine PF.pf_take0 12 (by kernel_rfl) rfl (fun _ _ _ _ _ h => h) (by kernel_rfl) (fun u => by go_simp; try rfl) ?_
      try simp only [Act.put, pz0, pz1, pz2]
      refine PF.pf_take0 13 (by kernel_rfl) rfl (fun _ _ _ _ _ h => h) (by kernel_rfl) (fun u => by go_simp; try rfl) ?_
      try simp only [Act.put, pz0, pz1, pz2]
      refine PF.pf_done (by kernel_rfl) ?_
      go_wp2_with fail
      go_ret
      exact ⟨by rw [HF.out, s0]; rfl, HT3.out.drew⟩
def curV (C : Cal) (g : Nat) : Value := if subOk C then .pointer (some ⟨g, (C.sub - 1).toNat, none⟩) else .pointer none
set_option maxRecDepth 100000 in
set_option maxHeartbeats 4000000 in
theorem cursor_any {K : Nat → Prop} {w : World} {vl v : Value} {M : Mdl} {C : Cal} {g : Nat} (hv1 : vl.oneCell' = true) (hv : SlB K w v C.body) :
    Calls Tryz.prog 38 #[.agg (mdL M vl (.slice (some ⟨g, 0, none⟩) 3 3)).toArray, .agg (calL C v).toArray] w fun e w' => e = .returned (curV C g) ∧ Below w.heap.size w w' := by
  obtain ⟨Db, cb, rfl, _⟩ := hv
  generalize C.body.length = nb
  have hB1 : Blk ((w.alloc (.cells (mdL M vl (.slice (some ⟨g, 0, none⟩) 3 3)).toArray 45)).alloc (.cells (calL C (.slice Db nb cb)).toArray 25)) w.heap.size 45 (mdL M vl (.slice (some ⟨g, 0, none⟩) 3 3)).toArray := (Blk.new _ _ _).alloc _
  have hB2 : Blk ((w.alloc (.cells (mdL M vl (.slice (some ⟨g, 0, none⟩) 3 3)).toArray 45)).alloc (.cells (calL C (.slice Db nb cb)).toArray 25)) (w.heap.size + 1) 25 (calL C (.slice Db nb cb)).toArray := by
    have := Blk.new (w.alloc (.cells (mdL M vl (.slice (some ⟨g, 0, none⟩) 3 3)).toArray 45)) 25 (calL C (.slice Db nb cb)).toArray
    rwa [alloc_size] at this
  have hT : Below w.heap.size w ((w.alloc (.cells (mdL M vl (.slice (some ⟨g, 0, none⟩) 3 3)).toArray 45)).alloc (.cells (calL C (.slice Db nb cb)).toArray 25)) := ((Below.refl _ _).alloc (Nat.le_refl _) _).alloc (by simp) _
  have c2' := (hB1.cell 2).trans (rfl : _ = some (Value.slice (some ⟨g, 0, none⟩) 3 3))
  have d5 := (hB2.cell 5).trans (rfl : _ = some (Value.int .i64 C.sub))
  have HT := Lib.hid hT
  clear hB1 hB2 hT
  by_cases h1 : C.sub < 1
  · have s0 : decide (C.sub < 1) = true := decide_eq_true h1
    have HR : Hid (curV C g = .pointer none) := by
      show _ = _
      unfold curV subOk
      rw [if_neg (by simp; omega)]
    clear h1
    go_enter Tryz.func38, Tryz.ntmps38
    go_wp2_with fail
    go_ret
    exact ⟨by rw [HR.out]; rfl, HT.out⟩
  · by_cases h2 : 3 < C.sub
    · have s0 : decide (C.sub < 1) = false := decide_eq_false h1
      have s1 : decide (3 < C.sub) = true := decide_eq_true h2
      have HR : Hid (curV C g = .pointer none) := by
        show _ = _
        unfold curV subOk
        rw [if_neg (by simp; omega)]
      clear h1 h2
      go_enter Tryz.func38, Tryz.ntmps38
      go_wp2_with fail
      go_ret
      exact ⟨by rw [HR.out]; rfl, HT.out⟩
    · obtain ⟨k, hk, hk2⟩ : ∃ k : Nat, C.sub = (k : Int) + 1 ∧ k < 3 := ⟨(C.sub - 1).toNat, by omega, by omega⟩
      have s0 : decide ((k : Int) + 1 < 1) = false := decide_eq_false (by omega)
      have s1 : decide ((3 : Int) < (k : Int) + 1) = false := decide_eq_false (by omega)
      have s2 : IntKind.i64.wrap ((k : Int) + 1 - 1) = (k : Int) := by rw [IntKind.wrap_i64]; omega
      have HR : Hid (curV C g = .pointer (some ⟨g, k, none⟩)) := by
        show _ = _
        unfold curV subOk
        rw [if_pos (by simp; omega), show (C.sub - 1).toNat = k by omega]
      rw [hk] at d5
      clear h1 h2
      go_enter Tryz.func38, Tryz.ntmps38
      go_wp2_with fail
      go_ret
      exact ⟨by rw [HR.out]; rfl, HT.out⟩
end Go.Proofs.YtpjmolnkmlpfeaaGreatDoor
