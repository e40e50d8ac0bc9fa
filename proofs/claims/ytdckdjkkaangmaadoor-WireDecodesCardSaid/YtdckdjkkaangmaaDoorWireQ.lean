/- The fields compared. -/
import Derived.Test.YtdckdjkkaangmaaDoorWireP
namespace Go.Proofs.YtdckdjkkaangmaaDoor
set_option linter.unusedVariables false
set_option linter.unusedSimpArgs false
set_option maxRecDepth 100000
open Go.RowKit

theorem bal_eql (w : World) (a b c a' b' c' : Int) : (binOp .eql 26 (.agg #[.int .u64 a, .int .i64 b, .int .u64 c]) (.agg #[.int .u64 a', .int .i64 b', .int .u64 c'])).run Tryd.prog w = .ok (.bool (decide (a = a' ∧ b = b' ∧ c = c'))) w := by
  have u3 := Tryd.underlying3
  have a3 := Tryd.isAgg3
  have z3 := Tryd.sizeOf3
  have u27 := Tryd.underlying24
  have a27 := Tryd.isAgg24
  have z27 := Tryd.sizeOf24
  have hS : Tryd.prog.underlying 26 = some (.struct (Tryd.prog.fieldsOf 26)) := by kernel_rfl
  have hp : Tryd.prog.stoodInHeld 26 = false := by kernel_rfl
  rw [run_eql_struct, show (10000 : Nat) = 9999 + 1 from rfl, run_equalIn_agg w 9999 26 _ _ hS hp]
  simp only [Program.fieldsOf, Tryd.underlying26]
  go_simp
  by_cases h0 : a = a' <;> by_cases h1 : b = b' <;> by_cases h2 : c = c' <;> simp [h0, h1, h2]
theorem bal_guard : Tryd.prog.eqGuardType Tryd.prog.depth 26 = false := by kernel_rfl
theorem pla_eql (w : World) (a b a' b' : Int) : (binOp .eql 32 (.agg #[.int .i64 a, .int .u64 b]) (.agg #[.int .i64 a', .int .u64 b'])).run Tryd.prog w = .ok (.bool (decide (a = a' ∧ b = b'))) w := by
  have u3 := Tryd.underlying3
  have a3 := Tryd.isAgg3
  have z3 := Tryd.sizeOf3
  have u27 := Tryd.underlying24
  have a27 := Tryd.isAgg24
  have z27 := Tryd.sizeOf24
  have hS : Tryd.prog.underlying 32 = some (.struct (Tryd.prog.fieldsOf 32)) := by kernel_rfl
  have hp : Tryd.prog.stoodInHeld 32 = false := by kernel_rfl
  rw [run_eql_struct, show (10000 : Nat) = 9999 + 1 from rfl, run_equalIn_agg w 9999 32 _ _ hS hp]
  simp only [Program.fieldsOf, Tryd.underlying32]
  go_simp
  by_cases h0 : a = a' <;> by_cases h1 : b = b' <;> simp [h0, h1]
theorem pla_guard : Tryd.prog.eqGuardType Tryd.prog.depth 32 = false := by kernel_rfl
set_option maxHeartbeats 16000000 in
theorem ssays_any {w : World} {a0 a1 a2 a3 a4 a5 a6 a7 a8 a9 a10 b0 b1 b2 b3 b4 b5 b6 b7 b8 b9 b10 : Int} {A B : Option Addr} {c d : Nat} {xs ys : List UInt8} (hA : Bytes w A xs) (hB : Bytes w B ys) (hn : xs.length ≤ 9223372036854775806) (hm : ys.length ≤ 9223372036854775806) :
    Calls Tryd.prog 41 #[.agg #[.int .i64 a0, .int .i64 a1, .int .u64 a2, .int .i64 a3, .int .u64 a4, .int .u64 a5, .int .i64 a6, .int .u64 a7, .int .u64 a8, .int .i64 a9, .int .u64 a10, .slice A xs.length c], .agg #[.int .i64 b0, .int .i64 b1, .int .u64 b2, .int .i64 b3, .int .u64 b4, .int .u64 b5, .int .i64 b6, .int .u64 b7, .int .u64 b8, .int .i64 b9, .int .u64 b10, .slice B ys.length d]] w fun e w' => e = .returned (.bool (decide ((a0 = b0 ∧ a1 = b1 ∧ a2 = b2 ∧ a3 = b3 ∧ a4 = b4 ∧ a5 = b5 ∧ a6 = b6 ∧ a7 = b7 ∧ a8 = b8 ∧ a9 = b9 ∧ a10 = b10) ∧ xs = ys))) ∧ Below w.heap.size w w' := by
  have hq := bal_eql
  have hg := bal_guard
  have hq2 := pla_eql
  have hg2 := pla_guard
  have HB : Hid (∀ (o o' : Obj), Below w.heap.size w ((w.alloc o).alloc o')) := fun o o' => (below_new w o).alloc (by simp) o'
  go_enter Tryd.func41, Tryd.ntmps41
  go_wp2_with fail
  · refine (eqb_any _ _ _ _ _ _ _ (hA.below (HB.out _ _)) (hB.below (HB.out _ _)) hn hm).mono ?_
    rintro e w2 ⟨rfl, q, rfl⟩
    go_wp2_with fail
    go_ret
    exact ⟨ret_bool (decide_eq_decide.2 ⟨fun h => ⟨by omega, h⟩, fun h => h.2⟩), below_drewN (HB.out _ _) q⟩
  all_goals
    go_ret
    exact ⟨ret_bool (by symm; rw [decide_eq_false_iff_not]; intro h; omega), HB.out _ _⟩
set_option maxHeartbeats 16000000 in
theorem sreq_any {w : World} {a0 a1 a2 a3 a4 a5 a6 a7 b0 b1 b2 b3 b4 b5 b6 b7 : Int} {A B : Option Addr} {c d : Nat} {xs ys : List UInt8} {A2 B2 : Option Addr} {c2 d2 : Nat} {us vs : List Nat} (hA : Bytes w A xs) (hB : Bytes w B ys) (hn : xs.length ≤ 9223372036854775806) (hm : ys.length ≤ 9223372036854775806) (hA2 : Keeps w A2 us) (hB2 : Keeps w B2 vs) (hn2 : us.length ≤ 9223372036854775806) (hm2 : vs.length ≤ 9223372036854775806) :
    Calls Tryd.prog 42 #[.agg #[.int .i64 a0, .int .u64 a1, .int .i64 a2, .int .u64 a3, .int .u64 a4, .int .u64 a5, .int .u64 a6, .int .i64 a7, .slice A xs.length c, .slice A2 us.length c2], .agg #[.int .i64 b0, .int .u64 b1, .int .i64 b2, .int .u64 b3, .int .u64 b4, .int .u64 b5, .int .u64 b6, .int .i64 b7, .slice B ys.length d, .slice B2 vs.length d2]] w fun e w' => e = .returned (.bool (decide ((a0 = b0 ∧ a1 = b1 ∧ a2 = b2 ∧ a3 = b3 ∧ a4 = b4 ∧ a5 = b5 ∧ a6 = b6 ∧ a7 = b7) ∧ xs = ys ∧ us = vs))) ∧ Below w.heap.size w w' := by
  have hq := bal_eql
  have hg := bal_guard
  have hq2 := pla_eql
  have hg2 := pla_guard
  have HB : Hid (∀ (o o' : Obj), Below w.heap.size w ((w.alloc o).alloc o')) := fun o o' => (below_new w o).alloc (by simp) o'
  go_enter Tryd.func42, Tryd.ntmps42
  go_wp2_with fail
  · refine (eqb_any _ _ _ _ _ _ _ (hA.below (HB.out _ _)) (hB.below (HB.out _ _)) hn hm).mono ?_
    rintro e w2 ⟨rfl, q, rfl⟩
    by_cases hxy : xs = ys
    · have hd : decide (xs = ys) = true := decide_eq_true hxy
      have HXY := Lib.hid hxy
      clear hxy
      go_wp2_with fail
      refine (eqk_any _ _ _ _ _ _ _ (Reads.below hA2 (below_drewN (HB.out _ _) q)) (Reads.below hB2 (below_drewN (HB.out _ _) q)) hn2 hm2).mono ?_
      rintro e w3 ⟨rfl, q2, rfl⟩
      go_wp2_with fail
      go_ret
      exact ⟨ret_bool (decide_eq_decide.2 ⟨fun h => ⟨by omega, HXY.out, h⟩, fun h => h.2.2⟩), below_drewN (HB.out _ _) _⟩
    · have hd : decide (xs = ys) = false := decide_eq_false hxy
      have HXY := Lib.hid hxy
      clear hxy
      go_wp2_with fail
      go_ret
      exact ⟨ret_bool (by symm; rw [decide_eq_false_iff_not]; exact fun h => HXY.out h.2.1), below_drewN (HB.out _ _) q⟩
  all_goals
    go_ret
    exact ⟨ret_bool (by symm; rw [decide_eq_false_iff_not]; intro h; omega), HB.out _ _⟩
set_option maxHeartbeats 16000000 in
theorem sresp_any {w : World} {a0 a1 a2 a3 a4 a5 a6 a7 b0 b1 b2 b3 b4 b5 b6 b7 : Int} {A B : Option Addr} {c d : Nat} {xs ys : List UInt8} (hA : Bytes w A xs) (hB : Bytes w B ys) (hn : xs.length ≤ 9223372036854775806) (hm : ys.length ≤ 9223372036854775806) :
    Calls Tryd.prog 43 #[.agg #[.int .i64 a0, .int .u64 a1, .int .i64 a2, .int .i64 a3, .int .u64 a4, .int .u64 a5, .int .u64 a6, .int .u64 a7, .slice A xs.length c], .agg #[.int .i64 b0, .int .u64 b1, .int .i64 b2, .int .i64 b3, .int .u64 b4, .int .u64 b5, .int .u64 b6, .int .u64 b7, .slice B ys.length d]] w fun e w' => e = .returned (.bool (decide ((a0 = b0 ∧ a1 = b1 ∧ a2 = b2 ∧ a3 = b3 ∧ a4 = b4 ∧ a5 = b5 ∧ a6 = b6 ∧ a7 = b7) ∧ xs = ys))) ∧ Below w.heap.size w w' := by
  have hq := bal_eql
  have hg := bal_guard
  have hq2 := pla_eql
  have hg2 := pla_guard
  have HB : Hid (∀ (o o' : Obj), Below w.heap.size w ((w.alloc o).alloc o')) := fun o o' => (below_new w o).alloc (by simp) o'
  go_enter Tryd.func43, Tryd.ntmps43
  go_wp2_with fail
  · refine (eqb_any _ _ _ _ _ _ _ (hA.below (HB.out _ _)) (hB.below (HB.out _ _)) hn hm).mono ?_
    rintro e w2 ⟨rfl, q, rfl⟩
    go_wp2_with fail
    go_ret
    exact ⟨ret_bool (decide_eq_decide.2 ⟨fun h => ⟨by omega, h⟩, fun h => h.2⟩), below_drewN (HB.out _ _) q⟩
  all_goals
    go_ret
    exact ⟨ret_bool (by symm; rw [decide_eq_false_iff_not]; intro h; omega), HB.out _ _⟩
set_option maxHeartbeats 16000000 in
theorem scall_any {w : World} {a0 a1 a2 a3 a4 a5 a6 a7 b0 b1 b2 b3 b4 b5 b6 b7 : Int} {A B : Option Addr} {c d : Nat} {xs ys : List UInt8} (hA : Bytes w A xs) (hB : Bytes w B ys) (hn : xs.length ≤ 9223372036854775806) (hm : ys.length ≤ 9223372036854775806) :
    Calls Tryd.prog 44 #[.agg #[.int .i64 a0, .int .u64 a1, .int .u64 a2, .int .i64 a3, .int .i64 a4, .int .i64 a5, .int .u64 a6, .int .u64 a7, .slice A xs.length c], .agg #[.int .i64 b0, .int .u64 b1, .int .u64 b2, .int .i64 b3, .int .i64 b4, .int .i64 b5, .int .u64 b6, .int .u64 b7, .slice B ys.length d]] w fun e w' => e = .returned (.bool (decide ((a0 = b0 ∧ a1 = b1 ∧ a2 = b2 ∧ a3 = b3 ∧ a4 = b4 ∧ a5 = b5 ∧ a6 = b6 ∧ a7 = b7) ∧ xs = ys))) ∧ Below w.heap.size w w' := by
  have hq := bal_eql
  have hg := bal_guard
  have hq2 := pla_eql
  have hg2 := pla_guard
  have HB : Hid (∀ (o o' : Obj), Below w.heap.size w ((w.alloc o).alloc o')) := fun o o' => (below_new w o).alloc (by simp) o'
  go_enter Tryd.func44, Tryd.ntmps44
  go_wp2_with fail
  · refine (eqb_any _ _ _ _ _ _ _ (hA.below (HB.out _ _)) (hB.below (HB.out _ _)) hn hm).mono ?_
    rintro e w2 ⟨rfl, q, rfl⟩
    go_wp2_with fail
    go_ret
    exact ⟨ret_bool (decide_eq_decide.2 ⟨fun h => ⟨by omega, h⟩, fun h => h.2⟩), below_drewN (HB.out _ _) q⟩
  all_goals
    go_ret
    exact ⟨ret_bool (by symm; rw [decide_eq_false_iff_not]; intro h; omega), HB.out _ _⟩
set_option maxHeartbeats 16000000 in
theorem sreply_any {w : World} {a0 a1 a2 a3 a4 a5 a6 a7 b0 b1 b2 b3 b4 b5 b6 b7 : Int} {A B : Option Addr} {c d : Nat} {xs ys : List UInt8} (hA : Bytes w A xs) (hB : Bytes w B ys) (hn : xs.length ≤ 9223372036854775806) (hm : ys.length ≤ 9223372036854775806) :
    Calls Tryd.prog 45 #[.agg #[.int .i64 a0, .int .u64 a1, .int .u64 a2, .int .i64 a3, .int .u64 a4, .int .i64 a5, .int .i64 a6, .int .u64 a7, .slice A xs.length c], .agg #[.int .i64 b0, .int .u64 b1, .int .u64 b2, .int .i64 b3, .int .u64 b4, .int .i64 b5, .int .i64 b6, .int .u64 b7, .slice B ys.length d]] w fun e w' => e = .returned (.bool (decide ((a0 = b0 ∧ a1 = b1 ∧ a2 = b2 ∧ a3 = b3 ∧ a4 = b4 ∧ a5 = b5 ∧ a6 = b6 ∧ a7 = b7) ∧ xs = ys))) ∧ Below w.heap.size w w' := by
  have hq := bal_eql
  have hg := bal_guard
  have hq2 := pla_eql
  have hg2 := pla_guard
  have HB : Hid (∀ (o o' : Obj), Below w.heap.size w ((w.alloc o).alloc o')) := fun o o' => (below_new w o).alloc (by simp) o'
  go_enter Tryd.func45, Tryd.ntmps45
  go_wp2_with fail
  · refine (eqb_any _ _ _ _ _ _ _ (hA.below (HB.out _ _)) (hB.below (HB.out _ _)) hn hm).mono ?_
    rintro e w2 ⟨rfl, q, rfl⟩
    go_wp2_with fail
    go_ret
    exact ⟨ret_bool (decide_eq_decide.2 ⟨fun h => ⟨by omega, h⟩, fun h => h.2⟩), below_drewN (HB.out _ _) q⟩
  all_goals
    go_ret
    exact ⟨ret_bool (by symm; rw [decide_eq_false_iff_not]; intro h; omega), HB.out _ _⟩
end Go.Proofs.YtdckdjkkaangmaaDoor
