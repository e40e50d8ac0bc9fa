/- The document: may a call be? -/
import Derived.Test.YtpjmolnkmlpfeaaGreatDoorCliM
namespace Go.Proofs.YtpjmolnkmlpfeaaGreatDoor
set_option linter.unusedVariables false
set_option linter.unusedSimpArgs false
set_option maxRecDepth 100000
open Go.RowKit

set_option maxHeartbeats 1000000 in
theorem rcount_any (n : Nat) (w : World) : Calls Tryz.prog 31 #[.int .u64 (n : Int)] w fun e w' => e = .returned (.bool (decide (1 ≤ n ∧ n ≤ 4611686018427387903))) ∧ w' = w := by
  by_cases h1 : 1 ≤ n
  · have d0 : decide ((1 : Int) ≤ (n : Int)) = true := decide_eq_true (by omega)
    have d1 : decide (1 ≤ n) = true := decide_eq_true h1
    by_cases h2 : n ≤ 4611686018427387903
    · have d2 : decide ((n : Int) ≤ 4611686018427387903) = true := decide_eq_true (by omega)
      have d3 : decide (n ≤ 4611686018427387903) = true := decide_eq_true h2
      rw [decide_eq_true ⟨h1, h2⟩]
      clear h1 h2
      go_enter Tryz.func31, Tryz.ntmps31
      go_wp2_with fail
      go_ret
      exact ⟨rfl, rfl⟩
    · have d2 : decide ((n : Int) ≤ 4611686018427387903) = false := decide_eq_false (by omega)
      have d3 : decide (n ≤ 4611686018427387903) = false := decide_eq_false h2
      rw [decide_eq_false fun h => h2 h.2]
      clear h1 h2
      go_enter Tryz.func31, Tryz.ntmps31
      go_wp2_with fail
      go_ret
      exact ⟨rfl, rfl⟩
  · have d0 : decide ((1 : Int) ≤ (n : Int)) = false := decide_eq_false (by omega)
    have d1 : decide (1 ≤ n) = false := decide_eq_false h1
    rw [decide_eq_false fun h => h1 h.1]
    clear h1
    go_enter Tryz.func31, Tryz.ntmps31
    go_wp2_with fail
    go_ret
    exact ⟨rfl, rfl⟩
set_option maxRecDepth 100000 in
set_option maxHeartbeats 16000000 in
theorem rmay_any {K : Nat → Prop} {w : World} {C : Cal} {v : Value} (h : SlB K w v C.body) :
    Calls Tryz.prog 10 #[.agg (calL C v).toArray] w fun e w' => e = .returned (.bool (mayC C)) ∧ Below w.heap.size w w' := by
  obtain ⟨A, c, rfl, _⟩ := h
  obtain ⟨n, hn⟩ : ∃ n, n = C.body.length := ⟨_, rfl⟩
  rw [← hn]
  have HN := Lib.hid hn
  clear hn
  have hB1 : Blk (w.alloc (.cells (calL C (.slice A n c)).toArray 25)) w.heap.size 25 (calL C (.slice A n c)).toArray := Blk.new _ _ _
  have HT := Lib.hid (below_new w (.cells (calL C (.slice A n c)).toArray 25))
  have c0 : (w.alloc (.cells (calL C (.slice A n c)).toArray 25)).cell? ⟨w.heap.size, 0, none⟩ = some (.int .i64 C.cl) := (hB1.cell 0).trans rfl
  have c1 : (w.alloc (.cells (calL C (.slice A n c)).toArray 25)).cell? ⟨w.heap.size, 1, none⟩ = some (.int .u64 (C.inc : Int)) := (hB1.cell 1).trans rfl
  have c2 : (w.alloc (.cells (calL C (.slice A n c)).toArray 25)).cell? ⟨w.heap.size, 2, none⟩ = some (.int .u64 (C.n : Int)) := (hB1.cell 2).trans rfl
  have c3 : (w.alloc (.cells (calL C (.slice A n c)).toArray 25)).cell? ⟨w.heap.size, 3, none⟩ = some (.int .i64 C.kind) := (hB1.cell 3).trans rfl
  have c4 : (w.alloc (.cells (calL C (.slice A n c)).toArray 25)).cell? ⟨w.heap.size, 4, none⟩ = some (.int .i64 C.ch) := (hB1.cell 4).trans rfl
  have c5 : (w.alloc (.cells (calL C (.slice A n c)).toArray 25)).cell? ⟨w.heap.size, 5, none⟩ = some (.int .i64 C.sub) := (hB1.cell 5).trans rfl
  have c6 : (w.alloc (.cells (calL C (.slice A n c)).toArray 25)).cell? ⟨w.heap.size, 6, none⟩ = some (.int .u64 (C.seq : Int)) := (hB1.cell 6).trans rfl
  have c7 : (w.alloc (.cells (calL C (.slice A n c)).toArray 25)).cell? ⟨w.heap.size, 7, none⟩ = some (.int .u64 (C.at_ : Int)) := (hB1.cell 7).trans rfl
  have c8 : (w.alloc (.cells (calL C (.slice A n c)).toArray 25)).cell? ⟨w.heap.size, 8, none⟩ = some (.slice A n c) := (hB1.cell 8).trans rfl
  clear hB1
  by_cases hz : 0 < n
  · have z0 : decide (0 < n) = true := decide_eq_true hz
    have z1 : decide ((0 : Int) < (n : Int)) = true := decide_eq_true (by omega)
    have HZ := Lib.hid hz
    clear hz
    go_enter Tryz.func10, Tryz.ntmps10
    go_wp2_with (first | (go_at_call 31; refine (rcount_any _ _).mono ?_; rintro e w' ⟨rfl, rfl⟩))
    all_goals
      go_ret
      refine ⟨ret_bool ?_, HT.out⟩
      have hn := HN.out; have hzz := HZ.out
      unfold mayC
      try simp only [beq_iff_eq, bne_iff_ne, decide_eq_true_eq, decide_eq_false_iff_not, beq_eq_false_iff_ne, Bool.not_eq_true'] at *
      rw [Bool.eq_iff_iff]
      try simp only [beq_iff_eq, bne_iff_ne, decide_eq_true_eq, decide_eq_false_iff_not, beq_eq_false_iff_ne, Bool.not_eq_true', Bool.false_eq_true, true_iff, false_iff]
      unfold MayP
      omega
  · have z0 : decide (0 < n) = false := decide_eq_false hz
    have z1 : decide ((0 : Int) < (n : Int)) = false := decide_eq_false (by omega)
    have HZ := Lib.hid hz
    clear hz
    go_enter Tryz.func10, Tryz.ntmps10
    go_wp2_with (first | (go_at_call 31; refine (rcount_any _ _).mono ?_; rintro e w' ⟨rfl, rfl⟩))
    all_goals
      go_ret
      refine ⟨ret_bool ?_, HT.out⟩
      have hn := HN.out; have hzz := HZ.out
      unfold mayC
      try simp only [beq_iff_eq, bne_iff_ne, decide_eq_true_eq, decide_eq_false_iff_not, beq_eq_false_iff_ne, Bool.not_eq_true'] at *
      rw [Bool.eq_iff_iff]
      try simp only [beq_iff_eq, bne_iff_ne, decide_eq_true_eq, decide_eq_false_iff_not, beq_eq_false_iff_ne, Bool.not_eq_true', Bool.false_eq_true, true_iff, false_iff]
      unfold MayP
      first | omega | (simp only [Bool.or_eq_true, beq_iff_eq]; omega)
end Go.Proofs.YtpjmolnkmlpfeaaGreatDoor
