/- A client's calls: mine. -/
import Derived.Test.YtpbaofabflgpkaaCliD
namespace Go.Proofs.Ytpbaofabflgpkaa
set_option linter.unusedVariables false
set_option linter.unusedSimpArgs false
open Go.RowKit

set_option maxRecDepth 100000 in
set_option maxHeartbeats 8000000 in
theorem mine_0 {B : Nat} {w : World} {g : Nat} {X : Cli} {now : Nat} {S : Option (Int × Cal)} {R : Rep} {vr : Value} (h : Wk B w g X now S)  (m0 : ¬ X.busy = 1) :
    Calls Try.prog 26 #[.pointer (some ⟨g, 0, none⟩), .agg (repL R vr).toArray] w fun e w' => e = .returned (.bool false) ∧ Below w.heap.size w w' := by
  obtain ⟨_, vb, vc, sv, h2, _⟩ := h
  have hB1 : Blk (w.alloc (.cells (repL R vr).toArray 36)) w.heap.size 36 (repL R vr).toArray := Blk.new _ _ _
  have hb1 := below_new w (.cells (repL R vr).toArray 36)
  have h3 := h2.below hb1 h2.lt
  have g4 : (w.alloc (.cells (repL R vr).toArray 36)).cell? ⟨g, 4, none⟩ = some (.int .i64 X.busy) := (h3.cell 4).trans rfl
  have g5 : (w.alloc (.cells (repL R vr).toArray 36)).cell? ⟨g, 5, none⟩ = some (.int .i64 X.call.cl) := (h3.cell 5).trans rfl
  have g6 : (w.alloc (.cells (repL R vr).toArray 36)).cell? ⟨g, 6, none⟩ = some (.int .u64 (X.call.inc : Int)) := (h3.cell 6).trans rfl
  have g7 : (w.alloc (.cells (repL R vr).toArray 36)).cell? ⟨g, 7, none⟩ = some (.int .u64 (X.call.n : Int)) := (h3.cell 7).trans rfl
  have r0 : (w.alloc (.cells (repL R vr).toArray 36)).cell? ⟨w.heap.size, 0, none⟩ = some (.int .i64 R.cl) := (hB1.cell 0).trans rfl
  have r1 : (w.alloc (.cells (repL R vr).toArray 36)).cell? ⟨w.heap.size, 1, none⟩ = some (.int .u64 (R.inc : Int)) := (hB1.cell 1).trans rfl
  have r2 : (w.alloc (.cells (repL R vr).toArray 36)).cell? ⟨w.heap.size, 2, none⟩ = some (.int .u64 (R.n : Int)) := (hB1.cell 2).trans rfl
  have HT := Lib.hid hb1
  have d0 : decide (X.busy = 1) = false := decide_eq_false m0
  have e0 : (X.busy == 1) = false := beq_eq_false_iff_ne.2 m0
  clear hB1 hb1 h2 h3 m0
  go_enter Try.func26, Try.ntmps26
  go_wp2_with fail
  refine PF.pf_begin (by kernel_rfl) ?_
  refine PF.pf_take0 0 (by kernel_rfl) rfl (fun _ _ _ _ _ h => h) (by kernel_rfl) (fun u => by go_simp; try rfl) ?_
  try simp only [Act.put, pz0, pz1, pz2]
  refine PF.pf_take0 1 (by kernel_rfl) rfl (fun _ _ _ _ _ h => h) (by kernel_rfl) (fun u => by go_simp; try rfl) ?_
  try simp only [Act.put, pz0, pz1, pz2]
  refine PF.pf_take0 2 (by kernel_rfl) rfl (fun _ _ _ _ _ h => h) (by kernel_rfl) (fun u => by go_simp; try rfl) ?_
  try simp only [Act.put, pz0, pz1, pz2]
  refine PF.pf_take0 3 (by kernel_rfl) rfl (fun _ _ _ _ _ h => h) (by kernel_rfl) (fun u => by go_simp; try rfl) ?_
  try simp only [Act.put, pz0, pz1, pz2]
  refine PF.pf_take1 4 (PF.Same (g) _) (by kernel_rfl) rfl (fun _ _ _ _ _ h => h) (by kernel_rfl) (PF.Same.refl _ _) (fun u hu => by have hcu := hu.cell; go_simp; try rfl) ?_
  try simp only [Act.put, pz0, pz1, pz2]
  refine PF.pf_take0 5 (by kernel_rfl) rfl (fun _ _ _ _ _ h => h) (by kernel_rfl) (fun u => by go_simp; try rfl) ?_
  try simp only [Act.put, pz0, pz1, pz2]
  refine PF.pf_take0 6 (by kernel_rfl) rfl (fun _ _ _ _ _ h => h) (by kernel_rfl) (fun u => by go_simp; try rfl) ?_
  try simp only [Act.put, pz0, pz1, pz2]
  refine PF.pf_skip0 7 (by kernel_rfl) rfl (fun _ _ _ _ _ h => h) (by kernel_rfl) ?_
  try simp only [Act.put, pz0, pz1, pz2]
  refine PF.pf_skip0 8 (by kernel_rfl) rfl (fun _ _ _ _ _ h => h) (by kernel_rfl) ?_
  try simp only [Act.put, pz0, pz1, pz2]
  refine PF.pf_skip0 9 (by kernel_rfl) rfl (fun _ _ _ _ _ h => h) (by kernel_rfl) ?_
  try simp only [Act.put, pz0, pz1, pz2]
  refine PF.pf_skip0 10 (by kernel_rfl) rfl (fun _ _ _ _ _ h => h) (by kernel_rfl) ?_
  try simp only [Act.put, pz0, pz1, pz2]
  refine PF.pf_skip0 11 (by kernel_rfl) rfl (fun _ _ _ _ _ h => h) (by kernel_rfl) ?_
  try simp only [Act.put, pz0, pz1, pz2]
  refine PF.pf_skip0 12 (by kernel_rfl) rfl (fun _ _ _ _ _ h => h) (by kernel_rfl) ?_
  try simp only [Act.put, pz0, pz1, pz2]
  refine PF.pf_skip0 13 (by kernel_rfl) rfl (fun _ _ _ _ _ h => h) (by kernel_rfl) ?_
  try simp only [Act.put, pz0, pz1, pz2]
  refine PF.pf_skip0 14 (by kernel_rfl) rfl (fun _ _ _ _ _ h => h) (by kernel_rfl) ?_
  try simp only [Act.put, pz0, pz1, pz2]
  refine PF.pf_skip0 15 (by kernel_rfl) rfl (fun _ _ _ _ _ h => h) (by kernel_rfl) ?_
  try simp only [Act.put, pz0, pz1, pz2]
  refine PF.pf_take0 16 (by kernel_rfl) rfl (fun _ _ _ _ _ h => h) (by kernel_rfl) (fun u => by go_simp; try rfl) ?_
  try simp only [Act.put, pz0, pz1, pz2]
  refine PF.pf_take0 17 (by kernel_rfl) rfl (fun _ _ _ _ _ h => h) (by kernel_rfl) (fun u => by go_simp; try rfl) ?_
  try simp only [Act.put, pz0, pz1, pz2]
  refine PF.pf_skip0 18 (by kernel_rfl) rfl (fun _ _ _ _ _ h => h) (by kernel_rfl) ?_
  try simp only [Act.put, pz0, pz1, pz2]
  refine PF.pf_skip0 19 (by kernel_rfl) rfl (fun _ _ _ _ _ h => h) (by kernel_rfl) ?_
  try simp only [Act.put, pz0, pz1, pz2]
  refine PF.pf_skip0 20 (by kernel_rfl) rfl (fun _ _ _ _ _ h => h) (by kernel_rfl) ?_
  try simp only [Act.put, pz0, pz1, pz2]
  refine PF.pf_skip0 21 (by kernel_rfl) rfl (fun _ _ _ _ _ h => h) (by kernel_rfl) ?_
  try simp only [Act.put, pz0, pz1, pz2]
  refine PF.pf_skip0 22 (by kernel_rfl) rfl (fun _ _ _ _ _ h => h) (by kernel_rfl) ?_
  try simp only [Act.put, pz0, pz1, pz2]
  refine PF.pf_skip0 23 (by kernel_rfl) rfl (fun _ _ _ _ _ h => h) (by kernel_rfl) ?_
  try simp only [Act.put, pz0, pz1, pz2]
  refine PF.pf_skip0 24 (by kernel_rfl) rfl (fun _ _ _ _ _ h => h) (by kernel_rfl) ?_
  try simp only [Act.put, pz0, pz1, pz2]
  refine PF.pf_skip0 25 (by kernel_rfl) rfl (fun _ _ _ _ _ h => h) (by kernel_rfl) ?_
  try simp only [Act.put, pz0, pz1, pz2]
  refine PF.pf_skip0 26 (by kernel_rfl) rfl (fun _ _ _ _ _ h => h) (by kernel_rfl) ?_
  try simp only [Act.put, pz0, pz1, pz2]
  refine PF.pf_take0 27 (by kernel_rfl) rfl (fun _ _ _ _ _ h => h) (by kernel_rfl) (fun u => by go_simp; try rfl) ?_
  try simp only [Act.put, pz0, pz1, pz2]
  refine PF.pf_take0 28 (by kernel_rfl) rfl (fun _ _ _ _ _ h => h) (by kernel_rfl) (fun u => by go_simp; try rfl) ?_
  try simp only [Act.put, pz0, pz1, pz2]
  refine PF.pf_skip0 29 (by kernel_rfl) rfl (fun _ _ _ _ _ h => h) (by kernel_rfl) ?_
  try simp only [Act.put, pz0, pz1, pz2]
  refine PF.pf_skip0 30 (by kernel_rfl) rfl (fun _ _ _ _ _ h => h) (by kernel_rfl) ?_
  try simp only [Act.put, pz0, pz1, pz2]
  refine PF.pf_skip0 31 (by kernel_rfl) rfl (fun _ _ _ _ _ h => h) (by kernel_rfl) ?_
  try simp only [Act.put, pz0, pz1, pz2]
  refine PF.pf_skip0 32 (by kernel_rfl) rfl (fun _ _ _ _ _ h => h) (by kernel_rfl) ?_
  try simp only [Act.put, pz0, pz1, pz2]
  refine PF.pf_skip0 33 (by kernel_rfl) rfl (fun _ _ _ _ _ h => h) (by kernel_rfl) ?_
  try simp only [Act.put, pz0, pz1, pz2]
  refine PF.pf_skip0 34 (by kernel_rfl) rfl (fun _ _ _ _ _ h => h) (by kernel_rfl) ?_
  try simp only [Act.put, pz0, pz1, pz2]
  refine PF.pf_skip0 35 (by kernel_rfl) rfl (fun _ _ _ _ _ h => h) (by kernel_rfl) ?_
  try simp only [Act.put, pz0, pz1, pz2]
  refine PF.pf_skip0 36 (by kernel_rfl) rfl (fun _ _ _ _ _ h => h) (by kernel_rfl) ?_
  try simp only [Act.put, pz0, pz1, pz2]
  refine PF.pf_skip0 37 (by kernel_rfl) rfl (fun _ _ _ _ _ h => h) (by kernel_rfl) ?_
  try simp only [Act.put, pz0, pz1, pz2]
  refine PF.pf_take0 38 (by kernel_rfl) rfl (fun _ _ _ _ _ h => h) (by kernel_rfl) (fun u => by go_simp; try rfl) ?_
  try simp only [Act.put, pz0, pz1, pz2]
  refine PF.pf_take0 39 (by kernel_rfl) rfl (fun _ _ _ _ _ h => h) (by kernel_rfl) (fun u => by go_simp; try rfl) ?_
  try simp only [Act.put, pz0, pz1, pz2]
  refine PF.pf_done (by kernel_rfl) ?_
  go_wp2_with fail
  go_ret
  exact ⟨rfl, HT.out.drew⟩
set_option maxRecDepth 100000 in
set_option maxHeartbeats 8000000 in
theorem mine_1 {B : Nat} {w : World} {g : Nat} {X : Cli} {now : Nat} {S : Option (Int × Cal)} {R : Rep} {vr : Value} (h : Wk B w g X now S) (m0 : X.busy = 1) (m1 : ¬ R.cl = X.call.cl) :
    Calls Try.prog 26 #[.pointer (some ⟨g, 0, none⟩), .agg (repL R vr).toArray] w fun e w' => e = .returned (.bool false) ∧ Below w.heap.size w w' := by
  obtain ⟨_, vb, vc, sv, h2, _⟩ := h
  have hB1 : Blk (w.alloc (.cells (repL R vr).toArray 36)) w.heap.size 36 (repL R vr).toArray := Blk.new _ _ _
  have hb1 := below_new w (.cells (repL R vr).toArray 36)
  have h3 := h2.below hb1 h2.lt
  have g4 : (w.alloc (.cells (repL R vr).toArray 36)).cell? ⟨g, 4, none⟩ = some (.int .i64 X.busy) := (h3.cell 4).trans rfl
  have g5 : (w.alloc (.cells (repL R vr).toArray 36)).cell? ⟨g, 5, none⟩ = some (.int .i64 X.call.cl) := (h3.cell 5).trans rfl
  have g6 : (w.alloc (.cells (repL R vr).toArray 36)).cell? ⟨g, 6, none⟩ = some (.int .u64 (X.call.inc : Int)) := (h3.cell 6).trans rfl
  have g7 : (w.alloc (.cells (repL R vr).toArray 36)).cell? ⟨g, 7, none⟩ = some (.int .u64 (X.call.n : Int)) := (h3.cell 7).trans rfl
  have r0 : (w.alloc (.cells (repL R vr).toArray 36)).cell? ⟨w.heap.size, 0, none⟩ = some (.int .i64 R.cl) := (hB1.cell 0).trans rfl
  have r1 : (w.alloc (.cells (repL R vr).toArray 36)).cell? ⟨w.heap.size, 1, none⟩ = some (.int .u64 (R.inc : Int)) := (hB1.cell 1).trans rfl
  have r2 : (w.alloc (.cells (repL R vr).toArray 36)).cell? ⟨w.heap.size, 2, none⟩ = some (.int .u64 (R.n : Int)) := (hB1.cell 2).trans rfl
  have HT := Lib.hid hb1
  have d0 : decide (X.busy = 1) = true := decide_eq_true m0
  have e0 : (X.busy == 1) = true := beq_iff_eq.2 m0
  have d1 : decide (R.cl = X.call.cl) = false := decide_eq_false m1
  have e1 : (R.cl == X.call.cl) = false := beq_eq_false_iff_ne.2 m1
  clear hB1 hb1 h2 h3 m0 m1
  go_enter Try.func26, Try.ntmps26
  go_wp2_with fail
  refine PF.pf_begin (by kernel_rfl) ?_
  refine PF.pf_take0 0 (by kernel_rfl) rfl (fun _ _ _ _ _ h => h) (by kernel_rfl) (fun u => by go_simp; try rfl) ?_
  try simp only [Act.put, pz0, pz1, pz2]
  refine PF.pf_take0 1 (by kernel_rfl) rfl (fun _ _ _ _ _ h => h) (by kernel_rfl) (fun u => by go_simp; try rfl) ?_
  try simp only [Act.put, pz0, pz1, pz2]
  refine PF.pf_take0 2 (by kernel_rfl) rfl (fun _ _ _ _ _ h => h) (by kernel_rfl) (fun u => by go_simp; try rfl) ?_
  try simp only [Act.put, pz0, pz1, pz2]
  refine PF.pf_take0 3 (by kernel_rfl) rfl (fun _ _ _ _ _ h => h) (by kernel_rfl) (fun u => by go_simp; try rfl) ?_
  try simp only [Act.put, pz0, pz1, pz2]
  refine PF.pf_take1 4 (PF.Same (g) _) (by kernel_rfl) rfl (fun _ _ _ _ _ h => h) (by kernel_rfl) (PF.Same.refl _ _) (fun u hu => by have hcu := hu.cell; go_simp; try rfl) ?_
  try simp only [Act.put, pz0, pz1, pz2]
  refine PF.pf_take0 5 (by kernel_rfl) rfl (fun _ _ _ _ _ h => h) (by kernel_rfl) (fun u => by go_simp; try rfl) ?_
  try simp only [Act.put, pz0, pz1, pz2]
  refine PF.pf_take0 6 (by kernel_rfl) rfl (fun _ _ _ _ _ h => h) (by kernel_rfl) (fun u => by go_simp; try rfl) ?_
  try simp only [Act.put, pz0, pz1, pz2]
  refine PF.pf_take0 7 (by kernel_rfl) rfl (fun _ _ _ _ _ h => h) (by kernel_rfl) (fun u => by go_simp; try rfl) ?_
  try simp only [Act.put, pz0, pz1, pz2]
  refine PF.pf_take1 8 (PF.Same (w.heap.size) _) (by kernel_rfl) rfl (fun _ _ _ _ _ h => h) (by kernel_rfl) (PF.Same.refl _ _) (fun u hu => by have hcu := hu.cell; go_simp; try rfl) ?_
  try simp only [Act.put, pz0, pz1, pz2]
  refine PF.pf_take0 9 (by kernel_rfl) rfl (fun _ _ _ _ _ h => h) (by kernel_rfl) (fun u => by go_simp; try rfl) ?_
  try simp only [Act.put, pz0, pz1, pz2]
  refine PF.pf_take0 10 (by kernel_rfl) rfl (fun _ _ _ _ _ h => h) (by kernel_rfl) (fun u => by go_simp; try rfl) ?_
  try simp only [Act.put, pz0, pz1, pz2]
  refine PF.pf_take0 11 (by kernel_rfl) rfl (fun _ _ _ _ _ h => h) (by kernel_rfl) (fun u => by go_simp; try rfl) ?_
  try simp only [Act.put, pz0, pz1, pz2]
  refine PF.pf_take0 12 (by kernel_rfl) rfl (fun _ _ _ _ _ h => h) (by kernel_rfl) (fun u => by go_simp; try rfl) ?_
  try simp only [Act.put, pz0, pz1, pz2]
  refine PF.pf_take0 13 (by kernel_rfl) rfl (fun _ _ _ _ _ h => h) (by kernel_rfl) (fun u => by go_simp; try rfl) ?_
  try simp only [Act.put, pz0, pz1, pz2]
  refine PF.pf_take1 14 (PF.Same (g) _) (by kernel_rfl) rfl (fun _ _ _ _ _ h => h) (by kernel_rfl) (PF.Same.refl _ _) (fun u hu => by have hcu := hu.cell; go_simp; try rfl) ?_
  try simp only [Act.put, pz0, pz1, pz2]
  refine PF.pf_take0 15 (by kernel_rfl) rfl (fun _ _ _ _ _ h => h) (by kernel_rfl) (fun u => by go_simp; try rfl) ?_
  try simp only [Act.put, pz0, pz1, pz2]
  refine PF.pf_take0 16 (by kernel_rfl) rfl (fun _ _ _ _ _ h => h) (by kernel_rfl) (fun u => by go_simp; try rfl) ?_
  try simp only [Act.put, pz0, pz1, pz2]
  refine PF.pf_take0 17 (by kernel_rfl) rfl (fun _ _ _ _ _ h => h) (by kernel_rfl) (fun u => by go_simp; try rfl) ?_
  try simp only [Act.put, pz0, pz1, pz2]
  refine PF.pf_skip0 18 (by kernel_rfl) rfl (fun _ _ _ _ _ h => h) (by kernel_rfl) ?_
  try simp only [Act.put, pz0, pz1, pz2]
  refine PF.pf_skip0 19 (by kernel_rfl) rfl (fun _ _ _ _ _ h => h) (by kernel_rfl) ?_
  try simp only [Act.put, pz0, pz1, pz2]
  refine PF.pf_skip0 20 (by kernel_rfl) rfl (fun _ _ _ _ _ h => h) (by kernel_rfl) ?_
  try simp only [Act.put, pz0, pz1, pz2]
  refine PF.pf_skip0 21 (by kernel_rfl) rfl (fun _ _ _ _ _ h => h) (by kernel_rfl) ?_
  try simp only [Act.put, pz0, pz1, pz2]
  refine PF.pf_skip0 22 (by kernel_rfl) rfl (fun _ _ _ _ _ h => h) (by kernel_rfl) ?_
  try simp only [Act.put, pz0, pz1, pz2]
  refine PF.pf_skip0 23 (by kernel_rfl) rfl (fun _ _ _ _ _ h => h) (by kernel_rfl) ?_
  try simp only [Act.put, pz0, pz1, pz2]
  refine PF.pf_skip0 24 (by kernel_rfl) rfl (fun _ _ _ _ _ h => h) (by kernel_rfl) ?_
  try simp only [Act.put, pz0, pz1, pz2]
  refine PF.pf_skip0 25 (by kernel_rfl) rfl (fun _ _ _ _ _ h => h) (by kernel_rfl) ?_
  try simp only [Act.put, pz0, pz1, pz2]
  refine PF.pf_skip0 26 (by kernel_rfl) rfl (fun _ _ _ _ _ h => h) (by kernel_rfl) ?_
  try simp only [Act.put, pz0, pz1, pz2]
  refine PF.pf_take0 27 (by kernel_rfl) rfl (fun _ _ _ _ _ h => h) (by kernel_rfl) (fun u => by go_simp; try rfl) ?_
  try simp only [Act.put, pz0, pz1, pz2]
  refine PF.pf_take0 28 (by kernel_rfl) rfl (fun _ _ _ _ _ h => h) (by kernel_rfl) (fun u => by go_simp; try rfl) ?_
  try simp only [Act.put, pz0, pz1, pz2]
  refine PF.pf_skip0 29 (by kernel_rfl) rfl (fun _ _ _ _ _ h => h) (by kernel_rfl) ?_
  try simp only [Act.put, pz0, pz1, pz2]
  refine PF.pf_skip0 30 (by kernel_rfl) rfl (fun _ _ _ _ _ h => h) (by kernel_rfl) ?_
  try simp only [Act.put, pz0, pz1, pz2]
  refine PF.pf_skip0 31 (by kernel_rfl) rfl (fun _ _ _ _ _ h => h) (by kernel_rfl) ?_
  try simp only [Act.put, pz0, pz1, pz2]
  refine PF.pf_skip0 32 (by kernel_rfl) rfl (fun _ _ _ _ _ h => h) (by kernel_rfl) ?_
  try simp only [Act.put, pz0, pz1, pz2]
  refine PF.pf_skip0 33 (by kernel_rfl) rfl (fun _ _ _ _ _ h => h) (by kernel_rfl) ?_
  try simp only [Act.put, pz0, pz1, pz2]
  refine PF.pf_skip0 34 (by kernel_rfl) rfl (fun _ _ _ _ _ h => h) (by kernel_rfl) ?_
  try simp only [Act.put, pz0, pz1, pz2]
  refine PF.pf_skip0 35 (by kernel_rfl) rfl (fun _ _ _ _ _ h => h) (by kernel_rfl) ?_
  try simp only [Act.put, pz0, pz1, pz2]
  refine PF.pf_skip0 36 (by kernel_rfl) rfl (fun _ _ _ _ _ h => h) (by kernel_rfl) ?_
  try simp only [Act.put, pz0, pz1, pz2]
  refine PF.pf_skip0 37 (by kernel_rfl) rfl (fun _ _ _ _ _ h => h) (by kernel_rfl) ?_
  try simp only [Act.put, pz0, pz1, pz2]
  refine PF.pf_take0 38 (by kernel_rfl) rfl (fun _ _ _ _ _ h => h) (by kernel_rfl) (fun u => by go_simp; try rfl) ?_
  try simp only [Act.put, pz0, pz1, pz2]
  refine PF.pf_take0 39 (by kernel_rfl) rfl (fun _ _ _ _ _ h => h) (by kernel_rfl) (fun u => by go_simp; try rfl) ?_
  try simp only [Act.put, pz0, pz1, pz2]
  refine PF.pf_done (by kernel_rfl) ?_
  go_wp2_with fail
  go_ret
  exact ⟨rfl, HT.out.drew⟩
set_option maxRecDepth 100000 in
set_option maxHeartbeats 8000000 in
theorem mine_2 {B : Nat} {w : World} {g : Nat} {X : Cli} {now : Nat} {S : Option (Int × Cal)} {R : Rep} {vr : Value} (h : Wk B w g X now S) (m0 : X.busy = 1) (m1 : R.cl = X.call.cl) (m2 : ¬ R.inc = X.call.inc) :
    Calls Try.prog 26 #[.pointer (some ⟨g, 0, none⟩), .agg (repL R vr).toArray] w fun e w' => e = .returned (.bool false) ∧ Below w.heap.size w w' := by
  obtain ⟨_, vb, vc, sv, h2, _⟩ := h
  have hB1 : Blk (w.alloc (.cells (repL R vr).toArray 36)) w.heap.size 36 (repL R vr).toArray := Blk.new _ _ _
  have hb1 := below_new w (.cells (repL R vr).toArray 36)
  have h3 := h2.below hb1 h2.lt
  have g4 : (w.alloc (.cells (repL R vr).toArray 36)).cell? ⟨g, 4, none⟩ = some (.int .i64 X.busy) := (h3.cell 4).trans rfl
  have g5 : (w.alloc (.cells (repL R vr).toArray 36)).cell? ⟨g, 5, none⟩ = some (.int .i64 X.call.cl) := (h3.cell 5).trans rfl
  have g6 : (w.alloc (.cells (repL R vr).toArray 36)).cell? ⟨g, 6, none⟩ = some (.int .u64 (X.call.inc : Int)) := (h3.cell 6).trans rfl
  have g7 : (w.alloc (.cells (repL R vr).toArray 36)).cell? ⟨g, 7, none⟩ = some (.int .u64 (X.call.n : Int)) := (h3.cell 7).trans rfl
  have r0 : (w.alloc (.cells (repL R vr).toArray 36)).cell? ⟨w.heap.size, 0, none⟩ = some (.int .i64 R.cl) := (hB1.cell 0).trans rfl
  have r1 : (w.alloc (.cells (repL R vr).toArray 36)).cell? ⟨w.heap.size, 1, none⟩ = some (.int .u64 (R.inc : Int)) := (hB1.cell 1).trans rfl
  have r2 : (w.alloc (.cells (repL R vr).toArray 36)).cell? ⟨w.heap.size, 2, none⟩ = some (.int .u64 (R.n : Int)) := (hB1.cell 2).trans rfl
  have HT := Lib.hid hb1
  have d0 : decide (X.busy = 1) = true := decide_eq_true m0
  have e0 : (X.busy == 1) = true := beq_iff_eq.2 m0
  have d1 : decide (R.cl = X.call.cl) = true := decide_eq_true m1
  have e1 : (R.cl == X.call.cl) = true := beq_iff_eq.2 m1
  have d2 : decide (R.inc = X.call.inc) = false := decide_eq_false m2
  have e2 : (R.inc == X.call.inc) = false := beq_eq_false_iff_ne.2 m2
  have i2 : decide ((R.inc : Int) = (X.call.inc : Int)) = false := decide_eq_false (by omega)
  have j2 : ((R.inc : Int) == (X.call.inc : Int)) = false := beq_eq_false_iff_ne.2 (by omega)
  clear hB1 hb1 h2 h3 m0 m1 m2
  go_enter Try.func26, Try.ntmps26
  go_wp2_with fail
  refine PF.pf_begin (by kernel_rfl) ?_
  refine PF.pf_take0 0 (by kernel_rfl) rfl (fun _ _ _ _ _ h => h) (by kernel_rfl) (fun u => by go_simp; try rfl) ?_
  try simp only [Act.put, pz0, pz1, pz2]
  refine PF.pf_take0 1 (by kernel_rfl) rfl (fun _ _ _ _ _ h => h) (by kernel_rfl) (fun u => by go_simp; try rfl) ?_
  try simp only [Act.put, pz0, pz1, pz2]
  refine PF.pf_take0 2 (by kernel_rfl) rfl (fun _ _ _ _ _ h => h) (by kernel_rfl) (fun u => by go_simp; try rfl) ?_
  try simp only [Act.put, pz0, pz1, pz2]
  refine PF.pf_take0 3 (by kernel_rfl) rfl (fun _ _ _ _ _ h => h) (by kernel_rfl) (fun u => by go_simp; try rfl) ?_
  try simp only [Act.put, pz0, pz1, pz2]
  refine PF.pf_take1 4 (PF.Same (g) _) (by kernel_rfl) rfl (fun _ _ _ _ _ h => h) (by kernel_rfl) (PF.Same.refl _ _) (fun u hu => by have hcu := hu.cell; go_simp; try rfl) ?_
  try simp only [Act.put, pz0, pz1, pz2]
  refine PF.pf_take0 5 (by kernel_rfl) rfl (fun _ _ _ _ _ h => h) (by kernel_rfl) (fun u => by go_simp; try rfl) ?_
  try simp only [Act.put, pz0, pz1, pz2]
  refine PF.pf_take0 6 (by kernel_rfl) rfl (fun _ _ _ _ _ h => h) (by kernel_rfl) (fun u => by go_simp; try rfl) ?_
  try simp only [Act.put, pz0, pz1, pz2]
  refine PF.pf_take0 7 (by kernel_rfl) rfl (fun _ _ _ _ _ h => h) (by kernel_rfl) (fun u => by go_simp; try rfl) ?_
  try simp only [Act.put, pz0, pz1, pz2]
  refine PF.pf_take1 8 (PF.Same (w.heap.size) _) (by kernel_rfl) rfl (fun _ _ _ _ _ h => h) (by kernel_rfl) (PF.Same.refl _ _) (fun u hu => by have hcu := hu.cell; go_simp; try rfl) ?_
  try simp only [Act.put, pz0, pz1, pz2]
  refine PF.pf_take0 9 (by kernel_rfl) rfl (fun _ _ _ _ _ h => h) (by kernel_rfl) (fun u => by go_simp; try rfl) ?_
  try simp only [Act.put, pz0, pz1, pz2]
  refine PF.pf_take0 10 (by kernel_rfl) rfl (fun _ _ _ _ _ h => h) (by kernel_rfl) (fun u => by go_simp; try rfl) ?_
  try simp only [Act.put, pz0, pz1, pz2]
  refine PF.pf_take0 11 (by kernel_rfl) rfl (fun _ _ _ _ _ h => h) (by kernel_rfl) (fun u => by go_simp; try rfl) ?_
  try simp only [Act.put, pz0, pz1, pz2]
  refine PF.pf_take0 12 (by kernel_rfl) rfl (fun _ _ _ _ _ h => h) (by kernel_rfl) (fun u => by go_simp; try rfl) ?_
  try simp only [Act.put, pz0, pz1, pz2]
  refine PF.pf_take0 13 (by kernel_rfl) rfl (fun _ _ _ _ _ h => h) (by kernel_rfl) (fun u => by go_simp; try rfl) ?_
  try simp only [Act.put, pz0, pz1, pz2]
  refine PF.pf_take1 14 (PF.Same (g) _) (by kernel_rfl) rfl (fun _ _ _ _ _ h => h) (by kernel_rfl) (PF.Same.refl _ _) (fun u hu => by have hcu := hu.cell; go_simp; try rfl) ?_
  try simp only [Act.put, pz0, pz1, pz2]
  refine PF.pf_take0 15 (by kernel_rfl) rfl (fun _ _ _ _ _ h => h) (by kernel_rfl) (fun u => by go_simp; try rfl) ?_
  try simp only [Act.put, pz0, pz1, pz2]
  refine PF.pf_take0 16 (by kernel_rfl) rfl (fun _ _ _ _ _ h => h) (by kernel_rfl) (fun u => by go_simp; try rfl) ?_
  try simp only [Act.put, pz0, pz1, pz2]
  refine PF.pf_take0 17 (by kernel_rfl) rfl (fun _ _ _ _ _ h => h) (by kernel_rfl) (fun u => by go_simp; try rfl) ?_
  try simp only [Act.put, pz0, pz1, pz2]
  refine PF.pf_take0 18 (by kernel_rfl) rfl (fun _ _ _ _ _ h => h) (by kernel_rfl) (fun u => by go_simp; try rfl) ?_
  try simp only [Act.put, pz0, pz1, pz2]
  refine PF.pf_take1 19 (PF.Same (w.heap.size) _) (by kernel_rfl) rfl (fun _ _ _ _ _ h => h) (by kernel_rfl) (PF.Same.refl _ _) (fun u hu => by have hcu := hu.cell; go_simp; try rfl) ?_
  try simp only [Act.put, pz0, pz1, pz2]
  refine PF.pf_take0 20 (by kernel_rfl) rfl (fun _ _ _ _ _ h => h) (by kernel_rfl) (fun u => by go_simp; try rfl) ?_
  try simp only [Act.put, pz0, pz1, pz2]
  refine PF.pf_take0 21 (by kernel_rfl) rfl (fun _ _ _ _ _ h => h) (by kernel_rfl) (fun u => by go_simp; try rfl) ?_
  try simp only [Act.put, pz0, pz1, pz2]
  refine PF.pf_take0 22 (by kernel_rfl) rfl (fun _ _ _ _ _ h => h) (by kernel_rfl) (fun u => by go_simp; try rfl) ?_
  try simp only [Act.put, pz0, pz1, pz2]
  refine PF.pf_take0 23 (by kernel_rfl) rfl (fun _ _ _ _ _ h => h) (by kernel_rfl) (fun u => by go_simp; try rfl) ?_
  try simp only [Act.put, pz0, pz1, pz2]
  refine PF.pf_take0 24 (by kernel_rfl) rfl (fun _ _ _ _ _ h => h) (by kernel_rfl) (fun u => by go_simp; try rfl) ?_
  try simp only [Act.put, pz0, pz1, pz2]
  refine PF.pf_take1 25 (PF.Same (g) _) (by kernel_rfl) rfl (fun _ _ _ _ _ h => h) (by kernel_rfl) (PF.Same.refl _ _) (fun u hu => by have hcu := hu.cell; go_simp; try rfl) ?_
  try simp only [Act.put, pz0, pz1, pz2]
  refine PF.pf_take0 26 (by kernel_rfl) rfl (fun _ _ _ _ _ h => h) (by kernel_rfl) (fun u => by go_simp; try rfl) ?_
  try simp only [Act.put, pz0, pz1, pz2]
  refine PF.pf_take0 27 (by kernel_rfl) rfl (fun _ _ _ _ _ h => h) (by kernel_rfl) (fun u => by go_simp; try rfl) ?_
  try simp only [Act.put, pz0, pz1, pz2]
  refine PF.pf_take0 28 (by kernel_rfl) rfl (fun _ _ _ _ _ h => h) (by kernel_rfl) (fun u => by go_simp; try rfl) ?_
  try simp only [Act.put, pz0, pz1, pz2]
  refine PF.pf_skip0 29 (by kernel_rfl) rfl (fun _ _ _ _ _ h => h) (by kernel_rfl) ?_
  try simp only [Act.put, pz0, pz1, pz2]
  refine PF.pf_skip0 30 (by kernel_rfl) rfl (fun _ _ _ _ _ h => h) (by kernel_rfl) ?_
  try simp only [Act.put, pz0, pz1, pz2]
  refine PF.pf_skip0 31 (by kernel_rfl) rfl (fun _ _ _ _ _ h => h) (by kernel_rfl) ?_
  try simp only [Act.put, pz0, pz1, pz2]
  refine PF.pf_skip0 32 (by kernel_rfl) rfl (fun _ _ _ _ _ h => h) (by kernel_rfl) ?_
  try simp only [Act.put, pz0, pz1, pz2]
  refine PF.pf_skip0 33 (by kernel_rfl) rfl (fun _ _ _ _ _ h => h) (by kernel_rfl) ?_
  try simp only [Act.put, pz0, pz1, pz2]
  refine PF.pf_skip0 34 (by kernel_rfl) rfl (fun _ _ _ _ _ h => h) (by kernel_rfl) ?_
  try simp only [Act.put, pz0, pz1, pz2]
  refine PF.pf_skip0 35 (by kernel_rfl) rfl (fun _ _ _ _ _ h => h) (by kernel_rfl) ?_
  try simp only [Act.put, pz0, pz1, pz2]
  refine PF.pf_skip0 36 (by kernel_rfl) rfl (fun _ _ _ _ _ h => h) (by kernel_rfl) ?_
  try simp only [Act.put, pz0, pz1, pz2]
  refine PF.pf_skip0 37 (by kernel_rfl) rfl (fun _ _ _ _ _ h => h) (by kernel_rfl) ?_
  try simp only [Act.put, pz0, pz1, pz2]
  refine PF.pf_take0 38 (by kernel_rfl) rfl (fun _ _ _ _ _ h => h) (by kernel_rfl) (fun u => by go_simp; try rfl) ?_
  try simp only [Act.put, pz0, pz1, pz2]
  refine PF.pf_take0 39 (by kernel_rfl) rfl (fun _ _ _ _ _ h => h) (by kernel_rfl) (fun u => by go_simp; try rfl) ?_
  try simp only [Act.put, pz0, pz1, pz2]
  refine PF.pf_done (by kernel_rfl) ?_
  go_wp2_with fail
  go_ret
  exact ⟨rfl, HT.out.drew⟩
set_option maxRecDepth 100000 in
set_option maxHeartbeats 8000000 in
theorem mine_3 {B : Nat} {w : World} {g : Nat} {X : Cli} {now : Nat} {S : Option (Int × Cal)} {R : Rep} {vr : Value} (h : Wk B w g X now S) (m0 : X.busy = 1) (m1 : R.cl = X.call.cl) (m2 : R.inc = X.call.inc) (m3 : ¬ R.n = X.call.n) :
    Calls Try.prog 26 #[.pointer (some ⟨g, 0, none⟩), .agg (repL R vr).toArray] w fun e w' => e = .returned (.bool false) ∧ Below w.heap.size w w' := by
  obtain ⟨_, vb, vc, sv, h2, _⟩ := h
  have hB1 : Blk (w.alloc (.cells (repL R vr).toArray 36)) w.heap.size 36 (repL R vr).toArray := Blk.new _ _ _
  have hb1 := below_new w (.cells (repL R vr).toArray 36)
  have h3 := h2.below hb1 h2.lt
  have g4 : (w.alloc (.cells (repL R vr).toArray 36)).cell? ⟨g, 4, none⟩ = some (.int .i64 X.busy) := (h3.cell 4).trans rfl
  have g5 : (w.alloc (.cells (repL R vr).toArray 36)).cell? ⟨g, 5, none⟩ = some (.int .i64 X.call.cl) := (h3.cell 5).trans rfl
  have g6 : (w.alloc (.cells (repL R vr).toArray 36)).cell? ⟨g, 6, none⟩ = some (.int .u64 (X.call.inc : Int)) := (h3.cell 6).trans rfl
  have g7 : (w.alloc (.cells (repL R vr).toArray 36)).cell? ⟨g, 7, none⟩ = some (.int .u64 (X.call.n : Int)) := (h3.cell 7).trans rfl
  have r0 : (w.alloc (.cells (repL R vr).toArray 36)).cell? ⟨w.heap.size, 0, none⟩ = some (.int .i64 R.cl) := (hB1.cell 0).trans rfl
  have r1 : (w.alloc (.cells (repL R vr).toArray 36)).cell? ⟨w.heap.size, 1, none⟩ = some (.int .u64 (R.inc : Int)) := (hB1.cell 1).trans rfl
  have r2 : (w.alloc (.cells (repL R vr).toArray 36)).cell? ⟨w.heap.size, 2, none⟩ = some (.int .u64 (R.n : Int)) := (hB1.cell 2).trans rfl
  have HT := Lib.hid hb1
  have d0 : decide (X.busy = 1) = true := decide_eq_true m0
  have e0 : (X.busy == 1) = true := beq_iff_eq.2 m0
  have d1 : decide (R.cl = X.call.cl) = true := decide_eq_true m1
  have e1 : (R.cl == X.call.cl) = true := beq_iff_eq.2 m1
  have d2 : decide (R.inc = X.call.inc) = true := decide_eq_true m2
  have e2 : (R.inc == X.call.inc) = true := beq_iff_eq.2 m2
  have i2 : decide ((R.inc : Int) = (X.call.inc : Int)) = true := decide_eq_true (by omega)
  have j2 : ((R.inc : Int) == (X.call.inc : Int)) = true := beq_iff_eq.2 (by omega)
  have d3 : decide (R.n = X.call.n) = false := decide_eq_false m3
  have e3 : (R.n == X.call.n) = false := beq_eq_false_iff_ne.2 m3
  have i3 : decide ((R.n : Int) = (X.call.n : Int)) = false := decide_eq_false (by omega)
  have j3 : ((R.n : Int) == (X.call.n : Int)) = false := beq_eq_false_iff_ne.2 (by omega)
  clear hB1 hb1 h2 h3 m0 m1 m2 m3
  go_enter Try.func26, Try.ntmps26
  go_wp2_with fail
  refine PF.pf_begin (by kernel_rfl) ?_
  refine PF.pf_take0 0 (by kernel_rfl) rfl (fun _ _ _ _ _ h => h) (by kernel_rfl) (fun u => by go_simp; try rfl) ?_
  try simp only [Act.put, pz0, pz1, pz2]
  refine PF.pf_take0 1 (by kernel_rfl) rfl (fun _ _ _ _ _ h => h) (by kernel_rfl) (fun u => by go_simp; try rfl) ?_
  try simp only [Act.put, pz0, pz1, pz2]
  refine PF.pf_take0 2 (by kernel_rfl) rfl (fun _ _ _ _ _ h => h) (by kernel_rfl) (fun u => by go_simp; try rfl) ?_
  try simp only [Act.put, pz0, pz1, pz2]
  refine PF.pf_take0 3 (by kernel_rfl) rfl (fun _ _ _ _ _ h => h) (by kernel_rfl) (fun u => by go_simp; try rfl) ?_
  try simp only [Act.put, pz0, pz1, pz2]
  refine PF.pf_take1 4 (PF.Same (g) _) (by kernel_rfl) rfl (fun _ _ _ _ _ h => h) (by kernel_rfl) (PF.Same.refl _ _) (fun u hu => by have hcu := hu.cell; go_simp; try rfl) ?_
  try simp only [Act.put, pz0, pz1, pz2]
  refine PF.pf_take0 5 (by kernel_rfl) rfl (fun _ _ _ _ _ h => h) (by kernel_rfl) (fun u => by go_simp; try rfl) ?_
  try simp only [Act.put, pz0, pz1, pz2]
  refine PF.pf_take0 6 (by kernel_rfl) rfl (fun _ _ _ _ _ h => h) (by kernel_rfl) (fun u => by go_simp; try rfl) ?_
  try simp only [Act.put, pz0, pz1, pz2]
  refine PF.pf_take0 7 (by kernel_rfl) rfl (fun _ _ _ _ _ h => h) (by kernel_rfl) (fun u => by go_simp; try rfl) ?_
  try simp only [Act.put, pz0, pz1, pz2]
  refine PF.pf_take1 8 (PF.Same (w.heap.size) _) (by kernel_rfl) rfl (fun _ _ _ _ _ h => h) (by kernel_rfl) (PF.Same.refl _ _) (fun u hu => by have hcu := hu.cell; go_simp; try rfl) ?_
  try simp only [Act.put, pz0, pz1, pz2]
  refine PF.pf_take0 9 (by kernel_rfl) rfl (fun _ _ _ _ _ h => h) (by kernel_rfl) (fun u => by go_simp; try rfl) ?_
  try simp only [Act.put, pz0, pz1, pz2]
  refine PF.pf_take0 10 (by kernel_rfl) rfl (fun _ _ _ _ _ h => h) (by kernel_rfl) (fun u => by go_simp; try rfl) ?_
  try simp only [Act.put, pz0, pz1, pz2]
  refine PF.pf_take0 11 (by kernel_rfl) rfl (fun _ _ _ _ _ h => h) (by kernel_rfl) (fun u => by go_simp; try rfl) ?_
  try simp only [Act.put, pz0, pz1, pz2]
  refine PF.pf_take0 12 (by kernel_rfl) rfl (fun _ _ _ _ _ h => h) (by kernel_rfl) (fun u => by go_simp; try rfl) ?_
  try simp only [Act.put, pz0, pz1, pz2]
  refine PF.pf_take0 13 (by kernel_rfl) rfl (fun _ _ _ _ _ h => h) (by kernel_rfl) (fun u => by go_simp; try rfl) ?_
  try simp only [Act.put, pz0, pz1, pz2]
  refine PF.pf_take1 14 (PF.Same (g) _) (by kernel_rfl) rfl (fun _ _ _ _ _ h => h) (by kernel_rfl) (PF.Same.refl _ _) (fun u hu => by have hcu := hu.cell; go_simp; try rfl) ?_
  try simp only [Act.put, pz0, pz1, pz2]
  refine PF.pf_take0 15 (by kernel_rfl) rfl (fun _ _ _ _ _ h => h) (by kernel_rfl) (fun u => by go_simp; try rfl) ?_
  try simp only [Act.put, pz0, pz1, pz2]
  refine PF.pf_take0 16 (by kernel_rfl) rfl (fun _ _ _ _ _ h => h) (by kernel_rfl) (fun u => by go_simp; try rfl) ?_
  try simp only [Act.put, pz0, pz1, pz2]
  refine PF.pf_take0 17 (by kernel_rfl) rfl (fun _ _ _ _ _ h => h) (by kernel_rfl) (fun u => by go_simp; try rfl) ?_
  try simp only [Act.put, pz0, pz1, pz2]
  refine PF.pf_take0 18 (by kernel_rfl) rfl (fun _ _ _ _ _ h => h) (by kernel_rfl) (fun u => by go_simp; try rfl) ?_
  try simp only [Act.put, pz0, pz1, pz2]
  refine PF.pf_take1 19 (PF.Same (w.heap.size) _) (by kernel_rfl) rfl (fun _ _ _ _ _ h => h) (by kernel_rfl) (PF.Same.refl _ _) (fun u hu => by have hcu := hu.cell; go_simp; try rfl) ?_
  try simp only [Act.put, pz0, pz1, pz2]
  refine PF.pf_take0 20 (by kernel_rfl) rfl (fun _ _ _ _ _ h => h) (by kernel_rfl) (fun u => by go_simp; try rfl) ?_
  try simp only [Act.put, pz0, pz1, pz2]
  refine PF.pf_take0 21 (by kernel_rfl) rfl (fun _ _ _ _ _ h => h) (by kernel_rfl) (fun u => by go_simp; try rfl) ?_
  try simp only [Act.put, pz0, pz1, pz2]
  refine PF.pf_take0 22 (by kernel_rfl) rfl (fun _ _ _ _ _ h => h) (by kernel_rfl) (fun u => by go_simp; try rfl) ?_
  try simp only [Act.put, pz0, pz1, pz2]
  refine PF.pf_take0 23 (by kernel_rfl) rfl (fun _ _ _ _ _ h => h) (by kernel_rfl) (fun u => by go_simp; try rfl) ?_
  try simp only [Act.put, pz0, pz1, pz2]
  refine PF.pf_take0 24 (by kernel_rfl) rfl (fun _ _ _ _ _ h => h) (by kernel_rfl) (fun u => by go_simp; try rfl) ?_
  try simp only [Act.put, pz0, pz1, pz2]
  refine PF.pf_take1 25 (PF.Same (g) _) (by kernel_rfl) rfl (fun _ _ _ _ _ h => h) (by kernel_rfl) (PF.Same.refl _ _) (fun u hu => by have hcu := hu.cell; go_simp; try rfl) ?_
  try simp only [Act.put, pz0, pz1, pz2]
  refine PF.pf_take0 26 (by kernel_rfl) rfl (fun _ _ _ _ _ h => h) (by kernel_rfl) (fun u => by go_simp; try rfl) ?_
  try simp only [Act.put, pz0, pz1, pz2]
  refine PF.pf_take0 27 (by kernel_rfl) rfl (fun _ _ _ _ _ h => h) (by kernel_rfl) (fun u => by go_simp; try rfl) ?_
  try simp only [Act.put, pz0, pz1, pz2]
  refine PF.pf_take0 28 (by kernel_rfl) rfl (fun _ _ _ _ _ h => h) (by kernel_rfl) (fun u => by go_simp; try rfl) ?_
  try simp only [Act.put, pz0, pz1, pz2]
  refine PF.pf_take0 29 (by kernel_rfl) rfl (fun _ _ _ _ _ h => h) (by kernel_rfl) (fun u => by go_simp; try rfl) ?_
  try simp only [Act.put, pz0, pz1, pz2]
  refine PF.pf_take1 30 (PF.Same (w.heap.size) _) (by kernel_rfl) rfl (fun _ _ _ _ _ h => h) (by kernel_rfl) (PF.Same.refl _ _) (fun u hu => by have hcu := hu.cell; go_simp; try rfl) ?_
  try simp only [Act.put, pz0, pz1, pz2]
  refine PF.pf_take0 31 (by kernel_rfl) rfl (fun _ _ _ _ _ h => h) (by kernel_rfl) (fun u => by go_simp; try rfl) ?_
  try simp only [Act.put, pz0, pz1, pz2]
  refine PF.pf_take0 32 (by kernel_rfl) rfl (fun _ _ _ _ _ h => h) (by kernel_rfl) (fun u => by go_simp; try rfl) ?_
  try simp only [Act.put, pz0, pz1, pz2]
  refine PF.pf_take0 33 (by kernel_rfl) rfl (fun _ _ _ _ _ h => h) (by kernel_rfl) (fun u => by go_simp; try rfl) ?_
  try simp only [Act.put, pz0, pz1, pz2]
  refine PF.pf_take0 34 (by kernel_rfl) rfl (fun _ _ _ _ _ h => h) (by kernel_rfl) (fun u => by go_simp; try rfl) ?_
  try simp only [Act.put, pz0, pz1, pz2]
  refine PF.pf_take0 35 (by kernel_rfl) rfl (fun _ _ _ _ _ h => h) (by kernel_rfl) (fun u => by go_simp; try rfl) ?_
  try simp only [Act.put, pz0, pz1, pz2]
  refine PF.pf_take1 36 (PF.Same (g) _) (by kernel_rfl) rfl (fun _ _ _ _ _ h => h) (by kernel_rfl) (PF.Same.refl _ _) (fun u hu => by have hcu := hu.cell; go_simp; try rfl) ?_
  try simp only [Act.put, pz0, pz1, pz2]
  refine PF.pf_take0 37 (by kernel_rfl) rfl (fun _ _ _ _ _ h => h) (by kernel_rfl) (fun u => by go_simp; try rfl) ?_
  try simp only [Act.put, pz0, pz1, pz2]
  refine PF.pf_take0 38 (by kernel_rfl) rfl (fun _ _ _ _ _ h => h) (by kernel_rfl) (fun u => by go_simp; try rfl) ?_
  try simp only [Act.put, pz0, pz1, pz2]
  refine PF.pf_take0 39 (by kernel_rfl) rfl (fun _ _ _ _ _ h => h) (by kernel_rfl) (fun u => by go_simp; try rfl) ?_
  try simp only [Act.put, pz0, pz1, pz2]
  refine PF.pf_done (by kernel_rfl) ?_
  go_wp2_with fail
  go_ret
  exact ⟨rfl, HT.out.drew⟩
set_option maxRecDepth 100000 in
set_option maxHeartbeats 8000000 in
theorem mine_4 {B : Nat} {w : World} {g : Nat} {X : Cli} {now : Nat} {S : Option (Int × Cal)} {R : Rep} {vr : Value} (h : Wk B w g X now S) (m0 : X.busy = 1) (m1 : R.cl = X.call.cl) (m2 : R.inc = X.call.inc) (m3 : R.n = X.call.n) :
    Calls Try.prog 26 #[.pointer (some ⟨g, 0, none⟩), .agg (repL R vr).toArray] w fun e w' => e = .returned (.bool true) ∧ Below w.heap.size w w' := by
  obtain ⟨_, vb, vc, sv, h2, _⟩ := h
  have hB1 : Blk (w.alloc (.cells (repL R vr).toArray 36)) w.heap.size 36 (repL R vr).toArray := Blk.new _ _ _
  have hb1 := below_new w (.cells (repL R vr).toArray 36)
  have h3 := h2.below hb1 h2.lt
  have g4 : (w.alloc (.cells (repL R vr).toArray 36)).cell? ⟨g, 4, none⟩ = some (.int .i64 X.busy) := (h3.cell 4).trans rfl
  have g5 : (w.alloc (.cells (repL R vr).toArray 36)).cell? ⟨g, 5, none⟩ = some (.int .i64 X.call.cl) := (h3.cell 5).trans rfl
  have g6 : (w.alloc (.cells (repL R vr).toArray 36)).cell? ⟨g, 6, none⟩ = some (.int .u64 (X.call.inc : Int)) := (h3.cell 6).trans rfl
  have g7 : (w.alloc (.cells (repL R vr).toArray 36)).cell? ⟨g, 7, none⟩ = some (.int .u64 (X.call.n : Int)) := (h3.cell 7).trans rfl
  have r0 : (w.alloc (.cells (repL R vr).toArray 36)).cell? ⟨w.heap.size, 0, none⟩ = some (.int .i64 R.cl) := (hB1.cell 0).trans rfl
  have r1 : (w.alloc (.cells (repL R vr).toArray 36)).cell? ⟨w.heap.size, 1, none⟩ = some (.int .u64 (R.inc : Int)) := (hB1.cell 1).trans rfl
  have r2 : (w.alloc (.cells (repL R vr).toArray 36)).cell? ⟨w.heap.size, 2, none⟩ = some (.int .u64 (R.n : Int)) := (hB1.cell 2).trans rfl
  have HT := Lib.hid hb1
  have d0 : decide (X.busy = 1) = true := decide_eq_true m0
  have e0 : (X.busy == 1) = true := beq_iff_eq.2 m0
  have d1 : decide (R.cl = X.call.cl) = true := decide_eq_true m1
  have e1 : (R.cl == X.call.cl) = true := beq_iff_eq.2 m1
  have d2 : decide (R.inc = X.call.inc) = true := decide_eq_true m2
  have e2 : (R.inc == X.call.inc) = true := beq_iff_eq.2 m2
  have i2 : decide ((R.inc : Int) = (X.call.inc : Int)) = true := decide_eq_true (by omega)
  have j2 : ((R.inc : Int) == (X.call.inc : Int)) = true := beq_iff_eq.2 (by omega)
  have d3 : decide (R.n = X.call.n) = true := decide_eq_true m3
  have e3 : (R.n == X.call.n) = true := beq_iff_eq.2 m3
  have i3 : decide ((R.n : Int) = (X.call.n : Int)) = true := decide_eq_true (by omega)
  have j3 : ((R.n : Int) == (X.call.n : Int)) = true := beq_iff_eq.2 (by omega)
  clear hB1 hb1 h2 h3 m0 m1 m2 m3
  go_enter Try.func26, Try.ntmps26
  go_wp2_with fail
  refine PF.pf_begin (by kernel_rfl) ?_
  refine PF.pf_take0 0 (by kernel_rfl) rfl (fun _ _ _ _ _ h => h) (by kernel_rfl) (fun u => by go_simp; try rfl) ?_
  try simp only [Act.put, pz0, pz1, pz2]
  refine PF.pf_take0 1 (by kernel_rfl) rfl (fun _ _ _ _ _ h => h) (by kernel_rfl) (fun u => by go_simp; try rfl) ?_
  try simp only [Act.put, pz0, pz1, pz2]
  refine PF.pf_take0 2 (by kernel_rfl) rfl (fun _ _ _ _ _ h => h) (by kernel_rfl) (fun u => by go_simp; try rfl) ?_
  try simp only [Act.put, pz0, pz1, pz2]
  refine PF.pf_take0 3 (by kernel_rfl) rfl (fun _ _ _ _ _ h => h) (by kernel_rfl) (fun u => by go_simp; try rfl) ?_
  try simp only [Act.put, pz0, pz1, pz2]
  refine PF.pf_take1 4 (PF.Same (g) _) (by kernel_rfl) rfl (fun _ _ _ _ _ h => h) (by kernel_rfl) (PF.Same.refl _ _) (fun u hu => by have hcu := hu.cell; go_simp; try rfl) ?_
  try simp only [Act.put, pz0, pz1, pz2]
  refine PF.pf_take0 5 (by kernel_rfl) rfl (fun _ _ _ _ _ h => h) (by kernel_rfl) (fun u => by go_simp; try rfl) ?_
  try simp only [Act.put, pz0, pz1, pz2]
  refine PF.pf_take0 6 (by kernel_rfl) rfl (fun _ _ _ _ _ h => h) (by kernel_rfl) (fun u => by go_simp; try rfl) ?_
  try simp only [Act.put, pz0, pz1, pz2]
  refine PF.pf_take0 7 (by kernel_rfl) rfl (fun _ _ _ _ _ h => h) (by kernel_rfl) (fun u => by go_simp; try rfl) ?_
  try simp only [Act.put, pz0, pz1, pz2]
  refine PF.pf_take1 8 (PF.Same (w.heap.size) _) (by kernel_rfl) rfl (fun _ _ _ _ _ h => h) (by kernel_rfl) (PF.Same.refl _ _) (fun u hu => by have hcu := hu.cell; go_simp; try rfl) ?_
  try simp only [Act.put, pz0, pz1, pz2]
  refine PF.pf_take0 9 (by kernel_rfl) rfl (fun _ _ _ _ _ h => h) (by kernel_rfl) (fun u => by go_simp; try rfl) ?_
  try simp only [Act.put, pz0, pz1, pz2]
  refine PF.pf_take0 10 (by kernel_rfl) rfl (fun _ _ _ _ _ h => h) (by kernel_rfl) (fun u => by go_simp; try rfl) ?_
  try simp only [Act.put, pz0, pz1, pz2]
  refine PF.pf_take0 11 (by kernel_rfl) rfl (fun _ _ _ _ _ h => h) (by kernel_rfl) (fun u => by go_simp; try rfl) ?_
  try simp only [Act.put, pz0, pz1, pz2]
  refine PF.pf_take0 12 (by kernel_rfl) rfl (fun _ _ _ _ _ h => h) (by kernel_rfl) (fun u => by go_simp; try rfl) ?_
  try simp only [Act.put, pz0, pz1, pz2]
  refine PF.pf_take0 13 (by kernel_rfl) rfl (fun _ _ _ _ _ h => h) (by kernel_rfl) (fun u => by go_simp; try rfl) ?_
  try simp only [Act.put, pz0, pz1, pz2]
  refine PF.pf_take1 14 (PF.Same (g) _) (by kernel_rfl) rfl (fun _ _ _ _ _ h => h) (by kernel_rfl) (PF.Same.refl _ _) (fun u hu => by have hcu := hu.cell; go_simp; try rfl) ?_
  try simp only [Act.put, pz0, pz1, pz2]
  refine PF.pf_take0 15 (by kernel_rfl) rfl (fun _ _ _ _ _ h => h) (by kernel_rfl) (fun u => by go_simp; try rfl) ?_
  try simp only [Act.put, pz0, pz1, pz2]
  refine PF.pf_take0 16 (by kernel_rfl) rfl (fun _ _ _ _ _ h => h) (by kernel_rfl) (fun u => by go_simp; try rfl) ?_
  try simp only [Act.put, pz0, pz1, pz2]
  refine PF.pf_take0 17 (by kernel_rfl) rfl (fun _ _ _ _ _ h => h) (by kernel_rfl) (fun u => by go_simp; try rfl) ?_
  try simp only [Act.put, pz0, pz1, pz2]
  refine PF.pf_take0 18 (by kernel_rfl) rfl (fun _ _ _ _ _ h => h) (by kernel_rfl) (fun u => by go_simp; try rfl) ?_
  try simp only [Act.put, pz0, pz1, pz2]
  refine PF.pf_take1 19 (PF.Same (w.heap.size) _) (by kernel_rfl) rfl (fun _ _ _ _ _ h => h) (by kernel_rfl) (PF.Same.refl _ _) (fun u hu => by have hcu := hu.cell; go_simp; try rfl) ?_
  try simp only [Act.put, pz0, pz1, pz2]
  refine PF.pf_take0 20 (by kernel_rfl) rfl (fun _ _ _ _ _ h => h) (by kernel_rfl) (fun u => by go_simp; try rfl) ?_
  try simp only [Act.put, pz0, pz1, pz2]
  refine PF.pf_take0 21 (by kernel_rfl) rfl (fun _ _ _ _ _ h => h) (by kernel_rfl) (fun u => by go_simp; try rfl) ?_
  try simp only [Act.put, pz0, pz1, pz2]
  refine PF.pf_take0 22 (by kernel_rfl) rfl (fun _ _ _ _ _ h => h) (by kernel_rfl) (fun u => by go_simp; try rfl) ?_
  try simp only [Act.put, pz0, pz1, pz2]
  refine PF.pf_take0 23 (by kernel_rfl) rfl (fun _ _ _ _ _ h => h) (by kernel_rfl) (fun u => by go_simp; try rfl) ?_
  try simp only [Act.put, pz0, pz1, pz2]
  refine PF.pf_take0 24 (by kernel_rfl) rfl (fun _ _ _ _ _ h => h) (by kernel_rfl) (fun u => by go_simp; try rfl) ?_
  try simp only [Act.put, pz0, pz1, pz2]
  refine PF.pf_take1 25 (PF.Same (g) _) (by kernel_rfl) rfl (fun _ _ _ _ _ h => h) (by kernel_rfl) (PF.Same.refl _ _) (fun u hu => by have hcu := hu.cell; go_simp; try rfl) ?_
  try simp only [Act.put, pz0, pz1, pz2]
  refine PF.pf_take0 26 (by kernel_rfl) rfl (fun _ _ _ _ _ h => h) (by kernel_rfl) (fun u => by go_simp; try rfl) ?_
  try simp only [Act.put, pz0, pz1, pz2]
  refine PF.pf_take0 27 (by kernel_rfl) rfl (fun _ _ _ _ _ h => h) (by kernel_rfl) (fun u => by go_simp; try rfl) ?_
  try simp only [Act.put, pz0, pz1, pz2]
  refine PF.pf_take0 28 (by kernel_rfl) rfl (fun _ _ _ _ _ h => h) (by kernel_rfl) (fun u => by go_simp; try rfl) ?_
  try simp only [Act.put, pz0, pz1, pz2]
  refine PF.pf_take0 29 (by kernel_rfl) rfl (fun _ _ _ _ _ h => h) (by kernel_rfl) (fun u => by go_simp; try rfl) ?_
  try simp only [Act.put, pz0, pz1, pz2]
  refine PF.pf_take1 30 (PF.Same (w.heap.size) _) (by kernel_rfl) rfl (fun _ _ _ _ _ h => h) (by kernel_rfl) (PF.Same.refl _ _) (fun u hu => by have hcu := hu.cell; go_simp; try rfl) ?_
  try simp only [Act.put, pz0, pz1, pz2]
  refine PF.pf_take0 31 (by kernel_rfl) rfl (fun _ _ _ _ _ h => h) (by kernel_rfl) (fun u => by go_simp; try rfl) ?_
  try simp only [Act.put, pz0, pz1, pz2]
  refine PF.pf_take0 32 (by kernel_rfl) rfl (fun _ _ _ _ _ h => h) (by kernel_rfl) (fun u => by go_simp; try rfl) ?_
  try simp only [Act.put, pz0, pz1, pz2]
  refine PF.pf_take0 33 (by kernel_rfl) rfl (fun _ _ _ _ _ h => h) (by kernel_rfl) (fun u => by go_simp; try rfl) ?_
  try simp only [Act.put, pz0, pz1, pz2]
  refine PF.pf_take0 34 (by kernel_rfl) rfl (fun _ _ _ _ _ h => h) (by kernel_rfl) (fun u => by go_simp; try rfl) ?_
  try simp only [Act.put, pz0, pz1, pz2]
  refine PF.pf_take0 35 (by kernel_rfl) rfl (fun _ _ _ _ _ h => h) (by kernel_rfl) (fun u => by go_simp; try rfl) ?_
  try simp only [Act.put, pz0, pz1, pz2]
  refine PF.pf_take1 36 (PF.Same (g) _) (by kernel_rfl) rfl (fun _ _ _ _ _ h => h) (by kernel_rfl) (PF.Same.refl _ _) (fun u hu => by have hcu := hu.cell; go_simp; try rfl) ?_
  try simp only [Act.put, pz0, pz1, pz2]
  refine PF.pf_take0 37 (by kernel_rfl) rfl (fun _ _ _ _ _ h => h) (by kernel_rfl) (fun u => by go_simp; try rfl) ?_
  try simp only [Act.put, pz0, pz1, pz2]
  refine PF.pf_take0 38 (by kernel_rfl) rfl (fun _ _ _ _ _ h => h) (by kernel_rfl) (fun u => by go_simp; try rfl) ?_
  try simp only [Act.put, pz0, pz1, pz2]
  refine PF.pf_take0 39 (by kernel_rfl) rfl (fun _ _ _ _ _ h => h) (by kernel_rfl) (fun u => by go_simp; try rfl) ?_
  try simp only [Act.put, pz0, pz1, pz2]
  refine PF.pf_done (by kernel_rfl) ?_
  go_wp2_with fail
  go_ret
  exact ⟨rfl, HT.out.drew⟩
theorem mine_any {B : Nat} {w : World} {g : Nat} {X : Cli} {now : Nat} {S : Option (Int × Cal)} {R : Rep} {vr : Value} (h : Wk B w g X now S) :
    Calls Try.prog 26 #[.pointer (some ⟨g, 0, none⟩), .agg (repL R vr).toArray] w fun e w' => e = .returned (.bool (decide (mineX X R))) ∧ Below w.heap.size w w' := by
  by_cases h0 : X.busy = 1
  · by_cases h1 : R.cl = X.call.cl
    · by_cases h2 : R.inc = X.call.inc
      · by_cases h3 : R.n = X.call.n
        · rw [decide_eq_true (show mineX X R from ⟨h0, h1, h2, h3⟩)]
          exact mine_4 h h0 h1 h2 h3
        · rw [decide_eq_false (fun m : mineX X R => h3 m.2.2.2)]
          exact mine_3 h h0 h1 h2 h3
      · rw [decide_eq_false (fun m : mineX X R => h2 m.2.2.1)]
        exact mine_2 h h0 h1 h2
    · rw [decide_eq_false (fun m : mineX X R => h1 m.2.1)]
      exact mine_1 h h0 h1
  · rw [decide_eq_false (fun m : mineX X R => h0 m.1)]
    exact mine_0 h h0
end Go.Proofs.Ytpbaofabflgpkaa
