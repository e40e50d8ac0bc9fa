/- bytes.Buffer: Len, grow. -/
import Derived.Test.YtcklbhplhpohpaaDoorBufA
import Derived.Lib.BufferGrow
namespace Go.Proofs.YtcklbhplhpohpaaDoor
open Go.RowKit

theorem buf_len (T : TypeId) (b : Nat) (A : Option Addr) (n c : Nat) (lr : Int) (w : World) (h : Blk w b T #[.slice A n c, .int .i64 0, .int .i8 lr]) (hn : n ≤ 9223372036854775807) :
    Calls Tryd.prog 43 #[.pointer (some ⟨b, 0, none⟩)] w fun e w' => e = .returned (.int .i64 (n : Int)) ∧ ∃ q, w' = w.drewN q := by
  have c0 : w.cell? ⟨b, 0, none⟩ = some (.slice A n c) := h.cell 0
  have c1 : w.cell? ⟨b, 1, none⟩ = some (.int .i64 0) := h.cell 1
  have hw : IntKind.i64.wrap (n : Int) = n := IntWalk.i64_in _ (by omega)
  clear h
  go_enter Tryd.func43, Tryd.ntmps43
  go_wp2_with fail
  refine PF.pf_begin (by kernel_rfl) ?_
  refine PF.pf_take0 0 (by kernel_rfl) rfl (fun _ _ _ _ _ h => h) (by kernel_rfl) (fun u => by go_simp; try rfl) ?_
  try simp only [Act.put, List.setIfInBounds_toArray, List.set_cons_zero, List.set_cons_succ]
  refine PF.pf_take0 1 (by kernel_rfl) rfl (fun _ _ _ _ _ h => h) (by kernel_rfl) (fun u => by go_simp; try rfl) ?_
  try simp only [Act.put, List.setIfInBounds_toArray, List.set_cons_zero, List.set_cons_succ]
  refine PF.pf_take0 2 (by kernel_rfl) rfl (fun _ _ _ _ _ h => h) (by kernel_rfl) (fun u => by go_simp; try rfl) ?_
  try simp only [Act.put, List.setIfInBounds_toArray, List.set_cons_zero, List.set_cons_succ]
  refine PF.pf_take1 3 (PF.Same (b) _) (by kernel_rfl) rfl (fun _ _ _ _ _ h => h) (by kernel_rfl) (PF.Same.refl _ _) (fun u hu => by have hcu := hu.cell; go_simp; try rfl) ?_
  try simp only [Act.put, List.setIfInBounds_toArray, List.set_cons_zero, List.set_cons_succ]
  refine PF.pf_take0 4 (by kernel_rfl) rfl (fun _ _ _ _ _ h => h) (by kernel_rfl) (fun u => by go_simp; try rfl) ?_
  try simp only [Act.put, List.setIfInBounds_toArray, List.set_cons_zero, List.set_cons_succ]
  refine PF.pf_take0 5 (by kernel_rfl) rfl (fun _ _ _ _ _ h => h) (by kernel_rfl) (fun u => by go_simp; try rfl) ?_
  try simp only [Act.put, List.setIfInBounds_toArray, List.set_cons_zero, List.set_cons_succ]
  refine PF.pf_take0 6 (by kernel_rfl) rfl (fun _ _ _ _ _ h => h) (by kernel_rfl) (fun u => by go_simp; try rfl) ?_
  try simp only [Act.put, List.setIfInBounds_toArray, List.set_cons_zero, List.set_cons_succ]
  refine PF.pf_take0 7 (by kernel_rfl) rfl (fun _ _ _ _ _ h => h) (by kernel_rfl) (fun u => by go_simp; try rfl) ?_
  try simp only [Act.put, List.setIfInBounds_toArray, List.set_cons_zero, List.set_cons_succ]
  refine PF.pf_take1 8 (PF.Same (b) _) (by kernel_rfl) rfl (fun _ _ _ _ _ h => h) (by kernel_rfl) (PF.Same.refl _ _) (fun u hu => by have hcu := hu.cell; go_simp; try rfl) ?_
  try simp only [Act.put, List.setIfInBounds_toArray, List.set_cons_zero, List.set_cons_succ]
  refine PF.pf_take0 9 (by kernel_rfl) rfl (fun _ _ _ _ _ h => h) (by kernel_rfl) (fun u => by go_simp; try rfl) ?_
  try simp only [Act.put, List.setIfInBounds_toArray, List.set_cons_zero, List.set_cons_succ]
  refine PF.pf_take0 10 (by kernel_rfl) rfl (fun _ _ _ _ _ h => h) (by kernel_rfl) (fun u => by go_simp; try rfl) ?_
  try simp only [Act.put, List.setIfInBounds_toArray, List.set_cons_zero, List.set_cons_succ]
  refine PF.pf_done (by kernel_rfl) ?_
  go_wp2_with fail
  go_ret
  exact ⟨rfl, 1, rfl⟩

/-- The buffer in the block b has a new row: it begins with the cells xs, and is k cells longer. -/
def Bigger (T : TypeId) (b n k : Nat) (lr : Int) (xs : List Value) (w : World) (e : Ending) (w' : World) : Prop :=
  e = .returned (.int .i64 (n : Int)) ∧ ∃ g cap2 cells, w.heap.size ≤ g ∧ Blk w' b T #[.slice (some ⟨g, 0, none⟩) (n + k) cap2, .int .i64 0, .int .i8 lr] ∧ w'.heap[g]? = some (.cells cells 5 (0, 0)) ∧
    cells.size = cap2 ∧ cells.toList.take n = xs ∧ n + k ≤ cap2 ∧ cap2 ≤ maxLen ∧ Mod (· = b) w w'

theorem bigger_of {T : TypeId} {b n k cap2 : Nat} {lr : Int} {xs : List Value} {w w1 w2 : World} {cells : Array Value} {v0 : Value} {p : Nat} (hw1 : ∃ q, w1 = w.drewN q) (hb : Blk w b T #[v0, .int .i64 0, .int .i8 lr]) (hp : p = w1.heap.size) (hN : w2.heap[p]? = some (.cells cells 5 (0, 0)))
    (hs : cells.size = cap2) (ht : cells.toList.take n = xs) (hc : n + k ≤ cap2) (hm : cap2 ≤ maxLen) (hbel : Below w1.heap.size w1 w2) (v1 : Value) :
    Bigger T b n k lr xs w (.returned (.int .i64 (n : Int))) (((w2.setCell ⟨b, 0, none⟩ v1).setCell ⟨b, 1, none⟩ (.int .i64 0)).setCell ⟨b, 0, none⟩ (.slice (some ⟨p, 0, none⟩) (n + k) cap2)) := by
  obtain ⟨q, rfl⟩ := hw1
  have hlt : b < w.heap.size := hb.lt
  subst hp
  have hb2 : Blk w2 b T #[v0, .int .i64 0, .int .i8 lr] := (hb.drewN q).below hbel hlt
  have hne : w.heap.size ≠ b := by omega
  refine ⟨rfl, w.heap.size, cap2, cells, Nat.le_refl _, ((hb2.put 0 v1).put 1 _).put 0 _, ?_, hs, ht, hc, hm, ?_⟩
  · rw [Below.heap_setCell _ _ _ _ hne, Below.heap_setCell _ _ _ _ hne, Below.heap_setCell _ _ _ _ hne]
    exact hN
  · have h0 : Mod (· = b) w w2 := ⟨hbel.os, hbel.tape, hbel.output, hbel.size, fun k hk _ => hbel.block k hk⟩
    exact ((h0.set (p := ⟨b, 0, none⟩) (fun _ => rfl) _).set (p := ⟨b, 1, none⟩) (fun _ => rfl) _).set (p := ⟨b, 0, none⟩) (fun _ => rfl) _

set_option maxRecDepth 100000 in
set_option maxHeartbeats 1000000 in
theorem grow_row (T : TypeId) (b g n c k : Nat) (lr : Int) (xs : List Value) (w : World) (h : Blk w b T #[.slice (some ⟨g, 0, none⟩) n c, .int .i64 0, .int .i8 lr]) (hx : Reads w 1 (some ⟨g, 0, none⟩) n xs) (h1 : ∀ v ∈ xs, v.oneCell' = true) (hnc : n ≤ c) (hk : c < n + k) (hlim : n + k ≤ 140737488355328) :
    Calls Tryd.prog 63 #[.pointer (some ⟨b, 0, none⟩), .int .i64 (k : Int)] w (Bigger T b n k lr xs w) := by
  have hnil : ∀ W, (binOp .eql 27 (.slice (some ⟨g, 0, none⟩) n c) (.slice none 0 0)).run Tryd.prog W = .ok (.bool false) W := fun W => Lib.run_eql_slice_some_nil W _ _ _ Tryd.underlying27
  have hw1 : IntKind.i64.wrap (k : Int) = k := IntWalk.i64_in _ (by omega)
  have hn0 : n = 0 ∨ ((n : Int) == 0) = false := by
    rcases Nat.eq_zero_or_pos n with h0 | h0
    · exact .inl h0
    · exact .inr (by rw [beq_eq_false_iff_ne]; omega)
  have hkk : decide ((k : Int) ≤ (c : Int) / 2 - (n : Int)) = false := by rw [decide_eq_false_iff_not]; omega
  have H := Lib.hid h
  have HX := Lib.hid hx
  have H1 := Lib.hid h1
  clear h hx h1
  rcases hn0 with rfl | hn0
  all_goals
    go_enter Tryd.func63, Tryd.ntmps63
    go_wp2_with fail
    refine (buf_len T b _ _ c lr _ H.out (by omega)).mono ?_
    rintro e w1 ⟨rfl, q, hw1'⟩
    have HW1 := Lib.hid hw1'
    have hb1 := H.out.drewN q
    have hx1 := HX.out.drewN q
    rw [← hw1'] at hb1 hx1
    clear hw1'
    have c0 := hb1.cell 0
    have c1 := hb1.cell 1
    have f0 := hb1.free 0
    have f1 := hb1.free 1
    simp only [List.getElem?_toArray, List.getElem?_cons_succ, List.getElem?_cons_zero] at c0 c1
    go_wp2_with fail
    refine (reslice_full T b _ _ c k lr _ hb1 (by omega) hk (by omega)).mono ?_
    rintro e w2 ⟨rfl, rfl⟩
    go_wp2_with fail
    refine PF.pf_begin (by kernel_rfl) ?_
    refine PF.pf_take0 0 (by kernel_rfl) rfl (fun _ _ _ _ _ h => h) (by kernel_rfl) (fun u => by go_simp; try rfl) ?_
    try simp only [Act.put, List.setIfInBounds_toArray, List.set_cons_zero, List.set_cons_succ]
    refine PF.pf_take0 1 (by kernel_rfl) rfl (fun _ _ _ _ _ h => h) (by kernel_rfl) (fun u => by go_simp; try rfl) ?_
    try simp only [Act.put, List.setIfInBounds_toArray, List.set_cons_zero, List.set_cons_succ]
    refine PF.pf_take0 2 (by kernel_rfl) rfl (fun _ _ _ _ _ h => h) (by kernel_rfl) (fun u => by go_simp; try rfl) ?_
    try simp only [Act.put, List.setIfInBounds_toArray, List.set_cons_zero, List.set_cons_succ]
    refine PF.pf_take0 3 (by kernel_rfl) rfl (fun _ _ _ _ _ h => h) (by kernel_rfl) (fun u => by go_simp; try rfl) ?_
    try simp only [Act.put, List.setIfInBounds_toArray, List.set_cons_zero, List.set_cons_succ]
    refine PF.pf_take1 4 (PF.Same (b) _) (by kernel_rfl) rfl (fun _ _ _ _ _ h => h) (by kernel_rfl) (PF.Same.refl _ _) (fun u hu => by have hcu := hu.cell; go_simp; try rfl) ?_
    try simp only [Act.put, List.setIfInBounds_toArray, List.set_cons_zero, List.set_cons_succ]
    refine PF.pf_take0 5 (by kernel_rfl) rfl (fun _ _ _ _ _ h => h) (by kernel_rfl) (fun u => by go_simp; try rfl) ?_
    try simp only [Act.put, List.setIfInBounds_toArray, List.set_cons_zero, List.set_cons_succ]
    refine PF.pf_take0 6 (by kernel_rfl) rfl (fun _ _ _ _ _ h => h) (by kernel_rfl) (fun u => by go_simp; try rfl) ?_
    try simp only [Act.put, List.setIfInBounds_toArray, List.set_cons_zero, List.set_cons_succ]
    refine PF.pf_take0 7 (by kernel_rfl) rfl (fun _ _ _ _ _ h => h) (by kernel_rfl) (fun u => by go_simp; try rfl) ?_
    try simp only [Act.put, List.setIfInBounds_toArray, List.set_cons_zero, List.set_cons_succ]
    refine PF.pf_take1 8 (PF.Same (b) _) (by kernel_rfl) rfl (fun _ _ _ _ _ h => h) (by kernel_rfl) (PF.Same.refl _ _) (fun u hu => by have hcu := hu.cell; go_simp; try rfl) ?_
    try simp only [Act.put, List.setIfInBounds_toArray, List.set_cons_zero, List.set_cons_succ]
    refine PF.pf_take0 9 (by kernel_rfl) rfl (fun _ _ _ _ _ h => h) (by kernel_rfl) (fun u => by go_simp; try rfl) ?_
    try simp only [Act.put, List.setIfInBounds_toArray, List.set_cons_zero, List.set_cons_succ]
    refine PF.pf_take0 10 (by kernel_rfl) rfl (fun _ _ _ _ _ h => h) (by kernel_rfl) (fun u => by go_simp; try rfl) ?_
    try simp only [Act.put, List.setIfInBounds_toArray, List.set_cons_zero, List.set_cons_succ]
    refine PF.pf_take0 11 (by kernel_rfl) rfl (fun _ _ _ _ _ h => h) (by kernel_rfl) (fun u => by go_simp; try rfl) ?_
    try simp only [Act.put, List.setIfInBounds_toArray, List.set_cons_zero, List.set_cons_succ]
    refine PF.pf_take0 12 (by kernel_rfl) rfl (fun _ _ _ _ _ h => h) (by kernel_rfl) (fun u => by go_simp; try rfl) ?_
    try simp only [Act.put, List.setIfInBounds_toArray, List.set_cons_zero, List.set_cons_succ]
    refine PF.pf_take1 13 (PF.Same (b) _) (by kernel_rfl) rfl (fun _ _ _ _ _ h => h) (by kernel_rfl) (PF.Same.refl _ _) (fun u hu => by have hcu := hu.cell; go_simp; try rfl) ?_
    try simp only [Act.put, List.setIfInBounds_toArray, List.set_cons_zero, List.set_cons_succ]
    refine PF.pf_take0 14 (by kernel_rfl) rfl (fun _ _ _ _ _ h => h) (by kernel_rfl) (fun u => by go_simp; try rfl) ?_
    try simp only [Act.put, List.setIfInBounds_toArray, List.set_cons_zero, List.set_cons_succ]
    refine PF.pf_take0 15 (by kernel_rfl) rfl (fun _ _ _ _ _ h => h) (by kernel_rfl) (fun u => by go_simp; try rfl) ?_
    try simp only [Act.put, List.setIfInBounds_toArray, List.set_cons_zero, List.set_cons_succ]
    refine PF.pf_exec 16 (by kernel_rfl) rfl (by kernel_rfl) (fun K hK => ?_)
    go_simp
    refine (growslice_any _ _ c k xs _ (Reads.drew hx1) (fun e => by cases e) (fun ad e => ⟨g, by injection e with e; exact e.symm⟩) H1.out hnc (by omega) hlim (by omega)).mono ?_
    rintro e w2 ⟨cap2, cells, rfl, hN, hcs, htk, hcap2, hcm2, hbel⟩
    have hb2 := (Blk.drew hb1).below hbel hb1.lt
    have d0 := hb2.cell 0
    have d1 := hb2.cell 1
    have e0 := hb2.free 0
    have e1 := hb2.free 1
    simp only [List.getElem?_toArray, List.getElem?_cons_succ, List.getElem?_cons_zero] at d0 d1
    refine hK _ _ (by repeat (first | exact PF.owes_nil | refine PF.owes_left ?_ | refine PF.owes_no (by decide +kernel) ?_ | refine PF.owes_yes (by first | rfl | assumption | go_simp) ?_)) ?_
    clear hK K
    try simp only [Act.put, List.setIfInBounds_toArray, List.set_cons_zero, List.set_cons_succ]
    refine PF.pf_take0 17 (by kernel_rfl) rfl (fun _ _ _ _ _ h => h) (by kernel_rfl) (fun u => by go_simp; try rfl) ?_
    try simp only [Act.put, List.setIfInBounds_toArray, List.set_cons_zero, List.set_cons_succ]
    refine PF.pf_take0 18 (by kernel_rfl) rfl (fun _ _ _ _ _ h => h) (by kernel_rfl) (fun u => by go_simp; try rfl) ?_
    try simp only [Act.put, List.setIfInBounds_toArray, List.set_cons_zero, List.set_cons_succ]
    refine PF.pf_exec 19 (by kernel_rfl) rfl (by kernel_rfl) (fun K hK => ?_)
    go_simp
    refine hK _ _ (by repeat (first | exact PF.owes_nil | refine PF.owes_left ?_ | refine PF.owes_no (by decide +kernel) ?_ | refine PF.owes_yes (by first | rfl | assumption | go_simp) ?_)) ?_
    clear hK K
    try simp only [Act.put, List.setIfInBounds_toArray, List.set_cons_zero, List.set_cons_succ]
    refine PF.pf_done (by kernel_rfl) ?_
    go_wp2_with fail
    go_ret
    have hh := bigger_of (w1 := w1.drew) ⟨q + 1, by rw [HW1.out]; rfl⟩ H.out rfl hN hcs htk hcap2 hcm2 hbel
    first | exact hh _ | (simp only [Nat.zero_add] at hh; exact hh _)
end Go.Proofs.YtcklbhplhpohpaaDoor
