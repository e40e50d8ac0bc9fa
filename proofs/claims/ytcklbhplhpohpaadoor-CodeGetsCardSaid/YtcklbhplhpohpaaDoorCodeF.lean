/- The reader's part: what a way reads, or a fault. -/
import Derived.Test.YtcklbhplhpohpaaDoorCodeE
import Derived.Defers
import Derived.Recover
import Derived.Shelf.Abstract
namespace Go.Proofs.YtcklbhplhpohpaaDoor
open Go.RowKit

theorem catch_idle (a b : Value) (w : World) :
    CallsD Tryd.prog 58 #[a, b] .returning w fun e u' w' => e = .returned (.tuple #[]) ∧ u' = .returning ∧ w = w' := by
  refine callsD_of_wpS Tryd.func58 rfl fun c₀ cs hu => ?_
  apply wpS_seq
  apply wpS_region
  simp [wpOpsS, go_sem, recoverD, hu, Tryd.ntmps58, Exit.thenS]
  apply wpS_seq
  apply wpS_region
  simp [wpOpsS, go_sem, Exit.thenS]
  refine wpS_cond (t := false) (by simp [Act.eval, Array.replicate]) ?_
  simp only [Bool.false_eq_true, if_false]
  refine wpS_of_wp (wp_skip ?_)
  cases c₀
  simp_all [bodyPostS, results, Tryd.results58]
theorem catch_gave (W B r : Nat) (p : Int) (x y : Value) (w : World) (h0 : w.cell? ⟨W, 0, none⟩ = some (.int .i64 p)) (h1 : w.cell? ⟨B, 0, none⟩ = some (.pointer (some ⟨r, 0, none⟩)))
    (c1 : w.cell? ⟨r, 1, none⟩ = some x) (c2 : w.cell? ⟨r, 2, none⟩ = some y) (f1 : w.frozen? ⟨r, 1, none⟩ = false) (f2 : w.frozen? ⟨r, 2, none⟩ = false) :
    CallsD Tryd.prog 58 #[.pointer (some ⟨W, 0, none⟩), .pointer (some ⟨B, 0, none⟩)] (.panicking gaveUp) w fun e u' w' =>
      e = .returned (.tuple #[]) ∧ u' = .panicking [{ v := .iface 88 (.agg #[]), recovered := true }] ∧ w' = (w.setCell ⟨r, 1, none⟩ (.int .i64 p)).setCell ⟨r, 2, none⟩ (.bool true) := by
  refine callsD_of_wpS Tryd.func58 rfl fun c₀ cs hu => ?_
  apply wpS_seq
  apply wpS_region
  simp [wpOpsS, go_sem, recoverD, hu, gaveUp, Tryd.ntmps58, Exit.thenS]
  apply wpS_seq
  apply wpS_region
  simp [wpOpsS, go_sem, Exit.thenS]
  refine wpS_cond (t := true) (by simp [Act.eval, Array.replicate]) ?_
  simp only [if_true]
  refine wpS_of_wp ?_
  have hta : ∀ W : World, (Instr.typeAssert (.iface 88 (.agg #[])) 20 88 false).run Tryd.prog W = .ok (.agg #[]) W := fun _ => by kernel_rfl
  simp only [Array.replicate_succ, Array.replicate_zero, List.push_toArray, List.setIfInBounds_toArray, List.append_toArray, List.set_cons_zero, List.set_cons_succ, List.nil_append, List.cons_append]
  go_wp2_with fail
  cases c₀
  simp_all [bodyPostS, results, Tryd.results58]
/-- A way that reads. -/
theorem part_good (g : Nat) (lb : Array Value) (eg : ∀ args w, (callFunc g args).run Tryd.prog w = .ok (.enter g args) w) (r : Nat) (A : Option Addr) (c : Nat) (l : List UInt8) (p : Nat) (w : World) (h : RdB w r A c l p false) (Good : World → Prop)
    (hway : ∀ W, Below w.heap.size w W → Calls Tryd.prog g lb W fun e w' => e = .returned (.tuple #[]) ∧ Good w') :
    Calls Tryd.prog 46 #[.pointer (some ⟨r, 0, none⟩), .func (.func g) #[] lb] w fun e w' => e = .returned (.tuple #[]) ∧ Good w' := by
  have hmf : ∀ (fn : Fn) (first cap : Array Value) (w : World), (Instr.makeFunc fn first cap).run Tryd.prog w = .ok (.func fn first cap) w := fun _ _ _ _ => rfl
  have hrl := h.lt
  have hc := h.below (w' := w.alloc (.cells #[.pointer (some ⟨r, 0, none⟩)] 41)) (below_new _ _)
  have c1 := Blk.cell hc.rd 1
  have c2 := Blk.cell hc.rd 2
  simp only [List.getElem?_toArray, List.getElem?_cons_succ, List.getElem?_cons_zero] at c1 c2
  go_enter_defers Tryd.func46, Tryd.ntmps46
  go_wp2_with fail
  refine (hway _ ((below_new _ _).trans ((below_new _ _).mono (by simp)))).mono ?_
  rintro e w3 ⟨rfl, hgood⟩
  go_wp2_with fail
  refine leaves_cons (f := 58) (args := #[.pointer (some ⟨w.heap.size + 1, 0, none⟩), .pointer (some ⟨w.heap.size, 0, none⟩)]) (by simp) (by simp [go_sem]) ?_
  refine (catch_idle _ _ _).mono ?_
  rintro e u' w'' ⟨rfl, rfl, rfl⟩
  simp [Leaves, settle, results, Tryd.results46, go_sem]
  exact hgood
/-- A way that gives up. -/
theorem part_bad (g : Nat) (lb : Array Value) (eg : ∀ args w, (callFunc g args).run Tryd.prog w = .ok (.enter g args) w) (r : Nat) (A : Option Addr) (c : Nat) (l : List UInt8) (p : Nat) (w : World) (h : RdB w r A c l p false) (Q : World → Prop)
    (hway : ∀ W, Below w.heap.size w W → Calls Tryd.prog g lb W fun e w' => e = .panicked gaveUp ∧ (∃ p', RdB w' r A c l p' false) ∧ (∀ k, w.heap.size ≤ k → k < W.heap.size → w'.heap[k]? = W.heap[k]?) ∧ Q w') :
    Calls Tryd.prog 46 #[.pointer (some ⟨r, 0, none⟩), .func (.func g) #[] lb] w fun e w' => e = .returned (.tuple #[]) ∧ RdB w' r A c l p true ∧ ∃ w3, Q w3 ∧ w' = (w3.setCell ⟨r, 1, none⟩ (.int .i64 (p : Int))).setCell ⟨r, 2, none⟩ (.bool true) := by
  have hmf : ∀ (fn : Fn) (first cap : Array Value) (w : World), (Instr.makeFunc fn first cap).run Tryd.prog w = .ok (.func fn first cap) w := fun _ _ _ _ => rfl
  have hrl := h.lt
  have HP := Lib.hid h.pl
  have hc := h.below (w' := w.alloc (.cells #[.pointer (some ⟨r, 0, none⟩)] 41)) (below_new _ _)
  have c1 := Blk.cell hc.rd 1
  have c2 := Blk.cell hc.rd 2
  simp only [List.getElem?_toArray, List.getElem?_cons_succ, List.getElem?_cons_zero] at c1 c2
  go_enter_defers Tryd.func46, Tryd.ntmps46
  go_wp2_with fail
  refine (hway _ ((below_new _ _).trans ((below_new _ _).mono (by simp)))).mono ?_
  rintro e w3 ⟨rfl, ⟨p', hR⟩, hk, hq⟩
  have hB := hk w.heap.size (Nat.le_refl _) (by simp; omega)
  have hW := hk (w.heap.size + 1) (by omega) (by simp)
  rw [Below.heap_alloc _ _ _ (by simp), heap_alloc_new] at hB
  have hn := heap_alloc_new (w.alloc (.cells #[.pointer (some ⟨r, 0, none⟩)] 41)) (.cells #[.int .i64 (p : Int)] 3)
  rw [alloc_size] at hn
  rw [hn] at hW
  have d0 : w3.cell? ⟨w.heap.size, 0, none⟩ = some (.pointer (some ⟨r, 0, none⟩)) := cell_of_row w3 _ 0 _ _ _ hB
  have d1 : w3.cell? ⟨w.heap.size + 1, 0, none⟩ = some (.int .i64 (p : Int)) := cell_of_row w3 _ 0 _ _ _ hW
  clear hk hB hW hn
  go_wp2_with fail
  refine leaves_cons (f := 58) (args := #[.pointer (some ⟨w.heap.size + 1, 0, none⟩), .pointer (some ⟨w.heap.size, 0, none⟩)]) (by simp) (by simp [go_sem]) ?_
  refine (catch_gave _ _ r p _ _ _ d1 d0 (Blk.cell hR.rd 1) (Blk.cell hR.rd 2) (Blk.free hR.rd 1) (Blk.free hR.rd 2)).mono ?_
  rintro e u' w'' ⟨rfl, rfl, rfl⟩
  have hg : w3.grownBy ((w3.setCell ⟨r, 1, none⟩ (.int .i64 (p : Int))).setCell ⟨r, 2, none⟩ (.bool true)) (some r) := only_set (only_set (only_refl _ _) 1 _) 2 _
  have hfin : RdB ((w3.setCell ⟨r, 1, none⟩ (.int .i64 (p : Int))).setCell ⟨r, 2, none⟩ (.bool true)) r A c l p true := hR.only hg (Blk.put (Blk.put hR.rd 1 _) 2 _) HP.out
  simp [Leaves, settle, results, Tryd.results46, go_sem]
  exact ⟨hfin, _, hq, rfl⟩
end Go.Proofs.YtcklbhplhpohpaaDoor
