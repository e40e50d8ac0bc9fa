/- bytes.Clone; a new reader; what is left, whether there was a fault. -/
import Derived.Test.YtcklbhplhpohpaaDoorCodeH
import Derived.Test.YtcklbhplhpohpaaDoorClone
namespace Go.Proofs.YtcklbhplhpohpaaDoor
open Go.RowKit

set_option maxHeartbeats 400000 in
theorem newreader_any (A : Option Addr) (c : Nat) (l : List UInt8) (w : World) (hA : Bytes w A l) (hn : l.length ≤ 140737488355328) :
    Calls Tryd.prog 17 #[.slice A l.length c] w fun e w' => ∃ r A' c', e = .returned (.pointer (some ⟨r, 0, none⟩)) ∧ RdB w' r A' c' l 0 false ∧ w.heap.size ≤ r ∧ Below w.heap.size w w' := by
  go_enter Tryd.func17, Tryd.ntmps17
  go_wp2_with fail
  refine (bclone_any A c l w hA hn).mono ?_
  rintro e w1 ⟨⟨A1, c1, rfl, hown⟩, hb⟩
  go_wp2_with fail
  go_ret
  obtain ⟨_, _, e1, h1, h2⟩ := own_slice hown
  injection e1 with _ _ e3
  subst e3
  have hr := row_at_head hown
  have hB : Bytes w1 A1 l := own_bytes hown
  refine ⟨w1.heap.size, A1, c1, rfl, ⟨Blk.new _ _ _, hB.below (below_new _ _), h1, by simpa [maxLen] using h2, Nat.zero_le _, fun ad e => ⟨by have := (hr ad e).2.2.2; omega, (hr ad e).1⟩, fun ad e => by have := (hr ad e).2.2.2; simp; omega⟩, hb.size, hb.alloc hb.size _⟩

section
variable (r : Nat) (A : Option Addr) (c : Nat) (l : List UInt8) (p : Nat) (f : Bool) (w : World)
theorem err_any (h : RdB w r A c l p f) : Calls Tryd.prog 20 #[.pointer (some ⟨r, 0, none⟩)] w fun e w' => e = .returned (.int .i64 (if f then 2 else 0)) ∧ w = w' := by
  have c2 : w.cell? ⟨r, 2, none⟩ = some (.bool f) := h.rd.cell 2
  clear h
  cases f
  all_goals
    go_enter Tryd.func20, Tryd.ntmps20
    go_wp2_with fail
    go_ret
    exact ⟨rfl, rfl⟩
theorem err_nil : Calls Tryd.prog 20 #[.pointer none] w fun e w' => e = .returned (.int .i64 2) ∧ w = w' := by
  go_enter Tryd.func20, Tryd.ntmps20
  go_wp2_with fail
  go_ret
  exact ⟨rfl, rfl⟩
theorem left_any (h : RdB w r A c l p f) : Calls Tryd.prog 19 #[.pointer (some ⟨r, 0, none⟩)] w fun e w' => e = .returned (.int .i64 ((l.length - p : Nat) : Int)) ∧ ∃ q, w' = w.drewN q := by
  have c0 : w.cell? ⟨r, 0, none⟩ = some (.slice A l.length c) := h.rd.cell 0
  have c1 : w.cell? ⟨r, 1, none⟩ = some (.int .i64 (p : Int)) := h.rd.cell 1
  have hpl := h.pl
  have hlc := h.lc
  have hcc := h.cc
  have hw1 : IntKind.i64.wrap ((l.length : Int) - (p : Int)) = (l.length : Int) - (p : Int) := IntWalk.i64_in _ (by omega)
  clear h
  go_enter Tryd.func19, Tryd.ntmps19
  go_wp2_with fail
  refine PF.pf_begin (by kernel_rfl) ?_
  refine PF.pf_take0 0 (by kernel_rfl) rfl (fun _ _ _ _ _ h => h) (by kernel_rfl) (fun u => by go_simp; try rfl) ?_
  try simp only [Act.put, List.setIfInBounds_toArray, List.set_cons_zero, List.set_cons_succ]
  refine PF.pf_take0 1 (by kernel_rfl) rfl (fun _ _ _ _ _ h => h) (by kernel_rfl) (fun u => by go_simp; try rfl) ?_
  try simp only [Act.put, List.setIfInBounds_toArray, List.set_cons_zero, List.set_cons_succ]
  refine PF.pf_take0 2 (by kernel_rfl) rfl (fun _ _ _ _ _ h => h) (by kernel_rfl) (fun u => by go_simp; try rfl) ?_
  try simp only [Act.put, List.setIfInBounds_toArray, List.set_cons_zero, List.set_cons_succ]
  refine PF.pf_take1 3 (PF.Same (r) _) (by kernel_rfl) rfl (fun _ _ _ _ _ h => h) (by kernel_rfl) (PF.Same.refl _ _) (fun u hu => by have hcu := hu.cell; go_simp; try rfl) ?_
  try simp only [Act.put, List.setIfInBounds_toArray, List.set_cons_zero, List.set_cons_succ]
  refine PF.pf_take0 4 (by kernel_rfl) rfl (fun _ _ _ _ _ h => h) (by kernel_rfl) (fun u => by go_simp; try rfl) ?_
  try simp only [Act.put, List.setIfInBounds_toArray, List.set_cons_zero, List.set_cons_succ]
  refine PF.pf_take0 5 (by kernel_rfl) rfl (fun _ _ _ _ _ h => h) (by kernel_rfl) (fun u => by go_simp; try rfl) ?_
  try simp only [Act.put, List.setIfInBounds_toArray, List.set_cons_zero, List.set_cons_succ]
  refine PF.pf_take0 6 (by kernel_rfl) rfl (fun _ _ _ _ _ h => h) (by kernel_rfl) (fun u => by go_simp; try rfl) ?_
  try simp only [Act.put, List.setIfInBounds_toArray, List.set_cons_zero, List.set_cons_succ]
  refine PF.pf_take0 7 (by kernel_rfl) rfl (fun _ _ _ _ _ h => h) (by kernel_rfl) (fun u => by go_simp; try rfl) ?_
  try simp only [Act.put, List.setIfInBounds_toArray, List.set_cons_zero, List.set_cons_succ]
  refine PF.pf_take1 8 (PF.Same (r) _) (by kernel_rfl) rfl (fun _ _ _ _ _ h => h) (by kernel_rfl) (PF.Same.refl _ _) (fun u hu => by have hcu := hu.cell; go_simp; try rfl) ?_
  try simp only [Act.put, List.setIfInBounds_toArray, List.set_cons_zero, List.set_cons_succ]
  refine PF.pf_take0 9 (by kernel_rfl) rfl (fun _ _ _ _ _ h => h) (by kernel_rfl) (fun u => by go_simp; try rfl) ?_
  try simp only [Act.put, List.setIfInBounds_toArray, List.set_cons_zero, List.set_cons_succ]
  refine PF.pf_take0 10 (by kernel_rfl) rfl (fun _ _ _ _ _ h => h) (by kernel_rfl) (fun u => by go_simp; try rfl) ?_
  try simp only [Act.put, List.setIfInBounds_toArray, List.set_cons_zero, List.set_cons_succ]
  refine PF.pf_done (by kernel_rfl) ?_
  go_wp2_with fail
  go_ret
  exact ⟨ret_int (by omega), 1, rfl⟩
theorem left_nil : Calls Tryd.prog 19 #[.pointer none] w fun e w' => e = .returned (.int .i64 0) ∧ w = w' := by
  go_enter Tryd.func19, Tryd.ntmps19
  go_wp2_with fail
  go_ret
  exact ⟨rfl, rfl⟩
end
end Go.Proofs.YtcklbhplhpohpaaDoor
