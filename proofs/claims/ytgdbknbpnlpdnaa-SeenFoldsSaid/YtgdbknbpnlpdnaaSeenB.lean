/- The small functions on marks and entries: what may be. -/
import Derived.Test.YtgdbknbpnlpdnaaSeenA
namespace Go.Proofs.Ytgdbknbpnlpdnaa
set_option linter.unusedVariables false
set_option linter.unusedSimpArgs false
open Go.RowKit

def Mk.may (m : Mk) : Bool := decide (1 ≤ m.p.toInt ∧ m.p.toInt ≤ 15 ∧ 1 ≤ m.s.toNat ∧ m.s.toNat ≤ 4611686018427387903 ∧ m.o.toNat ≤ 4611686018427387903)
def En.may (m : En) : Bool := decide (1 ≤ m.p.toInt ∧ m.p.toInt ≤ 15 ∧ 1 ≤ m.s.toNat ∧ m.s.toNat ≤ 4611686018427387903 ∧ m.n ≤ 64)
def cntB (s : UInt64) : Bool := decide (1 ≤ s.toNat ∧ s.toNat ≤ 4611686018427387903)

theorem count_any (s : UInt64) (w : World) : Calls Try.prog 58 #[.int .u64 (s.toNat : Int)] w fun e w' => e = .returned (.bool (cntB s)) ∧ w = w' := by
  go_enter Try.func58, Try.ntmps58
  go_wp2_with fail
  all_goals (go_ret; exact ⟨ret_bool (by unfold cntB; rw [Bool.eq_iff_iff]; (try simp only [decide_eq_true_eq, decide_eq_false_iff_not, Bool.false_eq_true, beq_iff_eq, Bool.and_eq_true, false_iff, true_iff] at *); omega), rfl⟩)
theorem rcount_any (s : UInt64) (w : World) : Calls Try.prog 32 #[.int .u64 (s.toNat : Int)] w fun e w' => e = .returned (.bool (cntB s)) ∧ w = w' := by
  go_enter Try.func32, Try.ntmps32
  go_wp2_with fail
  all_goals (go_ret; exact ⟨ret_bool (by unfold cntB; rw [Bool.eq_iff_iff]; (try simp only [decide_eq_true_eq, decide_eq_false_iff_not, Bool.false_eq_true, beq_iff_eq, Bool.and_eq_true, false_iff, true_iff] at *); omega), rfl⟩)
theorem may_any (m : Mk) (w : World) : Calls Try.prog 44 #[m.val] w fun e w' => e = .returned (.bool m.may) ∧ Below w.heap.size w w' := by
  unfold Mk.val
  go_enter Try.func44, Try.ntmps44
  go_wp2_with fail
  all_goals (go_ret; exact ⟨ret_bool (by unfold Mk.may; rw [Bool.eq_iff_iff]; (try simp only [decide_eq_true_eq, decide_eq_false_iff_not, Bool.false_eq_true, beq_iff_eq, Bool.and_eq_true, false_iff, true_iff] at *); omega), below_new _ _⟩)
theorem maymark_any (m : Mk) (w : World) : Calls Try.prog 45 #[m.val] w fun e w' => e = .returned (.bool m.may) ∧ Below w.heap.size w w' := by
  unfold Mk.val
  go_enter Try.func45, Try.ntmps45
  go_wp2_with (go_at_call 32; refine (rcount_any m.s _).mono ?_; rintro e w1 ⟨rfl, rfl⟩)
  all_goals (go_ret; exact ⟨ret_bool (by (try unfold cntB at *); unfold Mk.may; rw [Bool.eq_iff_iff]; (try simp only [decide_eq_true_eq, decide_eq_false_iff_not, Bool.false_eq_true, beq_iff_eq, Bool.and_eq_true, false_iff, true_iff] at *); omega), below_new _ _⟩)
theorem emay_any (m : En) (w : World) : Calls Try.prog 35 #[m.val] w fun e w' => e = .returned (.bool m.may) ∧ Below w.heap.size w w' := by
  unfold En.val
  go_enter Try.func35, Try.ntmps35
  go_wp2_with (go_at_call 58; refine (count_any m.s _).mono ?_; rintro e w1 ⟨rfl, rfl⟩)
  all_goals (go_ret; exact ⟨ret_bool (by (try unfold cntB at *); unfold En.may; rw [Bool.eq_iff_iff]; (try simp only [decide_eq_true_eq, decide_eq_false_iff_not, Bool.false_eq_true, beq_iff_eq, Bool.and_eq_true, false_iff, true_iff] at *); omega), below_new _ _⟩)
theorem remay_any (m : En) (w : World) : Calls Try.prog 11 #[m.val] w fun e w' => e = .returned (.bool m.may) ∧ Below w.heap.size w w' := by
  unfold En.val
  go_enter Try.func11, Try.ntmps11
  go_wp2_with (go_at_call 32; refine (rcount_any m.s _).mono ?_; rintro e w1 ⟨rfl, rfl⟩)
  all_goals (go_ret; exact ⟨ret_bool (by (try unfold cntB at *); unfold En.may; rw [Bool.eq_iff_iff]; (try simp only [decide_eq_true_eq, decide_eq_false_iff_not, Bool.false_eq_true, beq_iff_eq, Bool.and_eq_true, false_iff, true_iff] at *); omega), below_new _ _⟩)
/- The closures. -/
theorem mayno_pred (w : World) : PredM 43 #[] (fun m => !m.may) w := fun W m hb => by
  unfold Mk.val
  show Calls Try.prog 43 #[.agg #[.int .i64 m.p.toInt, .int .u64 (m.s.toNat : Int), .int .u64 (m.o.toNat : Int)]] W _
  go_enter Try.func43, Try.ntmps43
  go_wp2_with (go_at_call 44; refine (may_any m _).mono ?_; rintro e w1 ⟨rfl, hb1⟩)
  go_ret
  exact ⟨rfl, below_call (hb.alloc hb.size _) (by have := hb.size; simp; omega) hb1⟩
theorem emayno_pred (w : World) : PredE 34 #[] (fun m => !m.may) w := fun W m hb => by
  unfold En.val
  show Calls Try.prog 34 #[.agg #[.int .i64 m.p.toInt, .int .u64 (m.s.toNat : Int), .slice m.A m.n m.c]] W _
  go_enter Try.func34, Try.ntmps34
  go_wp2_with (go_at_call 35; refine (emay_any m _).mono ?_; rintro e w1 ⟨rfl, hb1⟩)
  go_ret
  exact ⟨rfl, below_call (hb.alloc hb.size _) (by have := hb.size; simp; omega) hb1⟩
/-- producer's, in the cell of block B. -/
theorem at_pred (q : Int64) (B : Nat) (w : World) (hB : B < w.heap.size) (hq : w.cell? ⟨B, 0, none⟩ = some (.int .i64 q.toInt)) : PredM 67 #[.pointer (some ⟨B, 0, none⟩)] (fun m => m.p.toInt == q.toInt) w := fun W m hb => by
  have hc : W.cell? ⟨B, 0, none⟩ = some (.int .i64 q.toInt) := (hb.cell (p := ⟨B, 0, none⟩) hB).trans hq
  have hBW : B < W.heap.size := Nat.lt_of_lt_of_le hB hb.size
  have hne : B ≠ W.heap.size := by omega
  unfold Mk.val
  show Calls Try.prog 67 #[.agg #[.int .i64 m.p.toInt, .int .u64 (m.s.toNat : Int), .int .u64 (m.o.toNat : Int)], .pointer (some ⟨B, 0, none⟩)] W _
  go_enter Try.func67, Try.ntmps67
  go_wp2_with fail
  go_ret
  exact ⟨rfl, hb.alloc hb.size _⟩
/-- behind a producer, of the mark in the block B. -/
theorem behind_pred (q : Int64) (B : Nat) (w : World) (hB : B < w.heap.size) (hq : w.cell? ⟨B, 0, none⟩ = some (.int .i64 q.toInt)) : PredM 60 #[.pointer (some ⟨B, 0, none⟩)] (fun m => decide (q.toInt < m.p.toInt)) w := fun W m hb => by
  have hc : W.cell? ⟨B, 0, none⟩ = some (.int .i64 q.toInt) := (hb.cell (p := ⟨B, 0, none⟩) hB).trans hq
  have hBW : B < W.heap.size := Nat.lt_of_lt_of_le hB hb.size
  have hne : B ≠ W.heap.size := by omega
  unfold Mk.val
  show Calls Try.prog 60 #[.agg #[.int .i64 m.p.toInt, .int .u64 (m.s.toNat : Int), .int .u64 (m.o.toNat : Int)], .pointer (some ⟨B, 0, none⟩)] W _
  go_enter Try.func60, Try.ntmps60
  go_wp2_with fail
  go_ret
  exact ⟨rfl, hb.alloc hb.size _⟩
/-- at an offset or behind it. -/
theorem cut_pred (q : UInt64) (B : Nat) (w : World) (hB : B < w.heap.size) (hq : w.cell? ⟨B, 0, none⟩ = some (.int .u64 (q.toNat : Int))) : PredM 51 #[.pointer (some ⟨B, 0, none⟩)] (fun m => decide (q.toNat ≤ m.o.toNat)) w := fun W m hb => by
  have hc : W.cell? ⟨B, 0, none⟩ = some (.int .u64 (q.toNat : Int)) := (hb.cell (p := ⟨B, 0, none⟩) hB).trans hq
  have hBW : B < W.heap.size := Nat.lt_of_lt_of_le hB hb.size
  have hne : B ≠ W.heap.size := by omega
  unfold Mk.val
  show Calls Try.prog 51 #[.agg #[.int .i64 m.p.toInt, .int .u64 (m.s.toNat : Int), .int .u64 (m.o.toNat : Int)], .pointer (some ⟨B, 0, none⟩)] W _
  go_enter Try.func51, Try.ntmps51
  go_wp2_with fail
  go_ret
  exact ⟨by simp, hb.alloc hb.size _⟩
theorem fold_pred (q : Int64) (B : Nat) (w : World) (hB : B < w.heap.size) (hq : w.cell? ⟨B, 0, none⟩ = some (.int .i64 q.toInt)) : PredM 53 #[.pointer (some ⟨B, 0, none⟩)] (fun m => m.p.toInt == q.toInt) w := fun W m hb => by
  have hc : W.cell? ⟨B, 0, none⟩ = some (.int .i64 q.toInt) := (hb.cell (p := ⟨B, 0, none⟩) hB).trans hq
  have hBW : B < W.heap.size := Nat.lt_of_lt_of_le hB hb.size
  have hne : B ≠ W.heap.size := by omega
  unfold Mk.val
  show Calls Try.prog 53 #[.agg #[.int .i64 m.p.toInt, .int .u64 (m.s.toNat : Int), .int .u64 (m.o.toNat : Int)], .pointer (some ⟨B, 0, none⟩)] W _
  go_enter Try.func53, Try.ntmps53
  go_wp2_with fail
  go_ret
  exact ⟨rfl, hb.alloc hb.size _⟩
/-- 'a.Producer - b.Producer' -/
theorem less_any (a b : Mk) (w : World) : Calls Try.prog 38 #[a.val, b.val] w fun e w' => e = .returned (.int .i64 (wrap64 (a.p.toInt - b.p.toInt))) ∧ Below w.heap.size w w' := by
  unfold Mk.val
  go_enter Try.func38, Try.ntmps38
  go_wp2_with fail
  go_ret
  exact ⟨rfl, (below_new _ _).alloc (by simp) _⟩
theorem alike_any (a b : Mk) (w : World) : Calls Try.prog 41 #[a.val, b.val] w fun e w' => e = .returned (.bool (a.p.toInt == b.p.toInt)) ∧ Below w.heap.size w w' := by
  unfold Mk.val
  go_enter Try.func41, Try.ntmps41
  go_wp2_with fail
  go_ret
  exact ⟨rfl, (below_new _ _).alloc (by simp) _⟩
end Go.Proofs.Ytgdbknbpnlpdnaa
