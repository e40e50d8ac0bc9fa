/- bytes.Buffer: grow of a buffer that has nothing yet; Write. -/
import Derived.Test.YtcklbhplhpohpaaDoorBufB
namespace Go.Proofs.YtcklbhplhpohpaaDoor
open Go.RowKit

set_option maxRecDepth 100000 in
set_option maxHeartbeats 1000000 in
theorem grow_nil_big (T : TypeId) (b k : Nat) (lr : Int) (w : World) (h : Blk w b T #[.slice none 0 0, .int .i64 0, .int .i8 lr]) (hk : 64 < k) (hlim : k ≤ 140737488355328) :
    Calls Tryd.prog 63 #[.pointer (some ⟨b, 0, none⟩), .int .i64 (k : Int)] w (Bigger T b 0 k lr [] w) := by
  have hnil : ∀ W, (binOp .eql 27 (.slice none 0 0) (.slice none 0 0)).run Tryd.prog W = .ok (.bool true) W := fun W => Lib.run_eql_slice_nil_nil W _ _ Tryd.underlying27
  have hw1 : IntKind.i64.wrap (k : Int) = k := IntWalk.i64_in _ (by omega)
  have hk64 : decide ((k : Int) ≤ 64) = false := by rw [decide_eq_false_iff_not]; omega
  have hkk : decide ((k : Int) ≤ 0) = false := by rw [decide_eq_false_iff_not]; omega
  have H := Lib.hid h
  clear h
  go_enter Tryd.func63, Tryd.ntmps63
  go_wp2_with fail
  refine (buf_len T b _ _ 0 lr _ H.out (by omega)).mono ?_
  rintro e w1 ⟨rfl, q, hw1'⟩
  have HW1 := Lib.hid hw1'
  have hb1 := H.out.drewN q
  rw [← hw1'] at hb1
  clear hw1'
  have c0 := hb1.cell 0
  have c1 := hb1.cell 1
  have f0 := hb1.free 0
  have f1 := hb1.free 1
  simp only [List.getElem?_toArray, List.getElem?_cons_succ, List.getElem?_cons_zero] at c0 c1
  go_wp2_with fail
  refine (reslice_full T b _ _ 0 k lr _ hb1 (by omega) (by omega) (by omega)).mono ?_
  rintro e w2 ⟨rfl, rfl⟩
  go_wp2_with fail
  refine PF.pf_begin (by kernel_rfl) ?_
  refine PF.pf_take0 0 (by kernel_rfl) rfl (fun _ _ _ _ _ h => h) (by kernel_rfl) (fun u => by go_simp; try rfl) ?_
  try simp only [Act.put, List.setIfInBounds_toArray, List.set_cons_zero, List.set_cons_succ]
  refine PF.pf_take0 1 (by kernel_rfl) rfl (fun _ _ _ _ _ h => h) (by kernel_rfl) (fun u => by go_simp; try rfl) ?_
  try simp only [Act.put, List.setIfInBounds_toArray, List.set_cons_zero, List.set_cons_succ]
  refine PF.pf_take0 2 (by kernel_rfl) rfl (fun _ _ _ _ _ h => h) (by kernel_rfl) (fun u => by go_simp; try rfl) ?_
  try simp only [Act.put, List.setIfInBounds_toArray, List.set_cons_zero, List.set_cons_succ]
  refine PF.pf_take0 3 (by kernel_rfl) rfl (fun _ _ _ _ _ h => h) (by kernel_rfl) (fun u => by go_simp; try rfl) ?_
  try simp only [Act.put, List.setIfInBounds_toArray, List.set_cons_zero, List.set_cons_succ]
  refine PF.pf_take1 4 (PF.Same (b) _) (by kernel_rfl) rfl (fun _ _ _ _ _ h => h) (by kernel_rfl) (PF.Same.refl _ _) (fun u hu => by have hcu := hu.cell; go_simp; try rfl) ?_
  try simp only [Act.put, List.setIfInBounds_toArray, List.set_cons_zero, List.set_cons_succ]
  refine PF.pf_take0 5 (by kernel_rfl) rfl (fun _ _ _ _ _ h => h) (by kernel_rfl) (fun u => by go_simp; try rfl) ?_
  try simp only [Act.put, List.setIfInBounds_toArray, List.set_cons_zero, List.set_cons_succ]
  refine PF.pf_take0 6 (by kernel_rfl) rfl (fun _ _ _ _ _ h => h) (by kernel_rfl) (fun u => by go_simp; try rfl) ?_
  try simp only [Act.put, List.setIfInBounds_toArray, List.set_cons_zero, List.set_cons_succ]
  refine PF.pf_take0 7 (by kernel_rfl) rfl (fun _ _ _ _ _ h => h) (by kernel_rfl) (fun u => by go_simp; try rfl) ?_
  try simp only [Act.put, List.setIfInBounds_toArray, List.set_cons_zero, List.set_cons_succ]
  refine PF.pf_take1 8 (PF.Same (b) _) (by kernel_rfl) rfl (fun _ _ _ _ _ h => h) (by kernel_rfl) (PF.Same.refl _ _) (fun u hu => by have hcu := hu.cell; go_simp; try rfl) ?_
  try simp only [Act.put, List.setIfInBounds_toArray, List.set_cons_zero, List.set_cons_succ]
  refine PF.pf_take0 9 (by kernel_rfl) rfl (fun _ _ _ _ _ h => h) (by kernel_rfl) (fun u => by go_simp; try rfl) ?_
  try simp only [Act.put, List.setIfInBounds_toArray, List.set_cons_zero, List.set_cons_succ]
  refine PF.pf_take0 10 (by kernel_rfl) rfl (fun _ _ _ _ _ h => h) (by kernel_rfl) (fun u => by go_simp; try rfl) ?_
  try simp only [Act.put, List.setIfInBounds_toArray, List.set_cons_zero, List.set_cons_succ]
  refine PF.pf_take0 11 (by kernel_rfl) rfl (fun _ _ _ _ _ h => h) (by kernel_rfl) (fun u => by go_simp; try rfl) ?_
  try simp only [Act.put, List.setIfInBounds_toArray, List.set_cons_zero, List.set_cons_succ]
  refine PF.pf_take0 12 (by kernel_rfl) rfl (fun _ _ _ _ _ h => h) (by kernel_rfl) (fun u => by go_simp; try rfl) ?_
  try simp only [Act.put, List.setIfInBounds_toArray, List.set_cons_zero, List.set_cons_succ]
  refine PF.pf_take1 13 (PF.Same (b) _) (by kernel_rfl) rfl (fun _ _ _ _ _ h => h) (by kernel_rfl) (PF.Same.refl _ _) (fun u hu => by have hcu := hu.cell; go_simp; try rfl) ?_
  try simp only [Act.put, List.setIfInBounds_toArray, List.set_cons_zero, List.set_cons_succ]
  refine PF.pf_take0 14 (by kernel_rfl) rfl (fun _ _ _ _ _ h => h) (by kernel_rfl) (fun u => by go_simp; try rfl) ?_
  try simp only [Act.put, List.setIfInBounds_toArray, List.set_cons_zero, List.set_cons_succ]
  refine PF.pf_take0 15 (by kernel_rfl) rfl (fun _ _ _ _ _ h => h) (by kernel_rfl) (fun u => by go_simp; try rfl) ?_
  try simp only [Act.put, List.setIfInBounds_toArray, List.set_cons_zero, List.set_cons_succ]
  refine PF.pf_exec 16 (by kernel_rfl) rfl (by kernel_rfl) (fun K hK => ?_)
  go_simp
  refine (growslice_any none 0 0 k [] _ (Reads.nil_ _ _ _) (fun _ => ⟨rfl, rfl⟩) (fun ad e => by cases e) (by simp) (Nat.le_refl _) (by omega) (by omega) (by omega)).mono ?_
  rintro e w2 ⟨cap2, cells, rfl, hN, hcs, htk, hcap2, hcm2, hbel⟩
  have hb2 := (Blk.drew hb1).below hbel hb1.lt
  have d0 := hb2.cell 0
  have d1 := hb2.cell 1
  have e0 := hb2.free 0
  have e1 := hb2.free 1
  simp only [List.getElem?_toArray, List.getElem?_cons_succ, List.getElem?_cons_zero] at d0 d1
  refine hK _ _ (by repeat (first | exact PF.owes_nil | refine PF.owes_left ?_ | refine PF.owes_no (by decide +kernel) ?_ | refine PF.owes_yes (by first | rfl | assumption | go_simp) ?_)) ?_
  clear hK K
  try simp only [Act.put, List.setIfInBounds_toArray, List.set_cons_zero, List.set_cons_succ]
  refine PF.pf_take0 17 (by kernel_rfl) rfl (fun _ _ _ _ _ h => h) (by kernel_rfl) (fun u => by go_simp; try rfl) ?_
  try simp only [Act.put, List.setIfInBounds_toArray, List.set_cons_zero, List.set_cons_succ]
  refine PF.pf_take0 18 (by kernel_rfl) rfl (fun _ _ _ _ _ h => h) (by kernel_rfl) (fun u => by go_simp; try rfl) ?_
  try simp only [Act.put, List.setIfInBounds_toArray, List.set_cons_zero, List.set_cons_succ]
  refine PF.pf_exec 19 (by kernel_rfl) rfl (by kernel_rfl) (fun K hK => ?_)
  go_simp
  refine hK _ _ (by repeat (first | exact PF.owes_nil | refine PF.owes_left ?_ | refine PF.owes_no (by decide +kernel) ?_ | refine PF.owes_yes (by first | rfl | assumption | go_simp) ?_)) ?_
  clear hK K
  try simp only [Act.put, List.setIfInBounds_toArray, List.set_cons_zero, List.set_cons_succ]
  refine PF.pf_done (by kernel_rfl) ?_
  rw [Nat.zero_add] at hcap2
  go_wp2_with fail
  go_ret
  have hh := bigger_of (n := 0) (k := k) (w1 := w1.drew) ⟨q + 1, by rw [HW1.out]; rfl⟩ H.out rfl hN hcs htk (by omega) hcm2 hbel
  simp only [Nat.zero_add] at hh
  exact hh _

set_option maxRecDepth 100000 in
set_option maxHeartbeats 1000000 in
theorem grow_nil_small (T : TypeId) (b k : Nat) (lr : Int) (w : World) (h : Blk w b T #[.slice none 0 0, .int .i64 0, .int .i8 lr]) (hk0 : 0 < k) (hk : k ≤ 64) :
    Calls Tryd.prog 63 #[.pointer (some ⟨b, 0, none⟩), .int .i64 (k : Int)] w (Bigger T b 0 k lr [] w) := by
  have hnil : ∀ W, (binOp .eql 27 (.slice none 0 0) (.slice none 0 0)).run Tryd.prog W = .ok (.bool true) W := fun W => Lib.run_eql_slice_nil_nil W _ _ Tryd.underlying27
  have hk64 : decide ((k : Int) ≤ 64) = true := by rw [decide_eq_true_iff]; omega
  obtain ⟨i0, hi, hz0, hz1, hz2⟩ := info_parts info_u8
  have H := Lib.hid h
  clear h
  go_enter Tryd.func63, Tryd.ntmps63
  go_wp2_with fail
  refine (buf_len T b _ _ 0 lr _ H.out (by omega)).mono ?_
  rintro e w1 ⟨rfl, q, hw1'⟩
  have HW1 := Lib.hid hw1'
  have hb1 := H.out.drewN q
  rw [← hw1'] at hb1
  clear hw1'
  have c0 := hb1.cell 0
  have c1 := hb1.cell 1
  have f0 := hb1.free 0
  have f1 := hb1.free 1
  simp only [List.getElem?_toArray, List.getElem?_cons_succ, List.getElem?_cons_zero] at c0 c1
  have hlt1 := hb1.lt
  go_wp2_with fail
  refine (reslice_full T b _ _ 0 k lr _ hb1 (by omega) (by omega) (by omega)).mono ?_
  rintro e w2 ⟨rfl, rfl⟩
  obtain ⟨M, hM⟩ : ∃ M, M = madeCells (Value.int .u8 0).cells ((64 : Int).toNat * i0.size) := ⟨_, rfl⟩
  have hMs : M.size = 64 := by rw [hM, size_madeCells, hz1]; rfl
  have hmk : ∀ W : World, (Instr.makeSlice 27 (.int .i64 (k : Int)) (.int .i64 64)).run Tryd.prog W = .ok (.slice (some ⟨W.heap.size, 0, none⟩) k 64) (W.alloc (.cells M 5)) := fun W => by
    have h := run_makeSlice (P := Tryd.prog) W 27 5 i0 (.int .u8 0) Tryd.underlying27 hi hz0 .i64 .i64 (k : Int) 64 (by omega) (by omega) (by rw [hz1]; decide) (by rw [hz2]; decide) (by decide)
    rw [← hM] at h
    simpa using h
  have HM := Lib.hid hMs
  clear hM hMs hi hz0 hz1 hz2
  go_wp2_with fail
  go_ret
  have hw1 := HW1.out
  subst hw1
  have hne : w.heap.size ≠ b := by have := H.out.lt; omega
  refine ⟨rfl, w.heap.size, 64, M, Nat.le_refl _, ?_, ?_, HM.out, rfl, by omega, by simp [maxLen], ?_⟩
  · rw [Nat.zero_add]
    exact (hb1.put 0 _).alloc _
  · have := heap_alloc_new ((w.drewN q).setCell ⟨b, 0, none⟩ (.slice (some ⟨w.heap.size, 0, none⟩) k 64)) (.cells M 5)
    simpa [World.setCell] using this
  · exact (((Mod.refl (· = b) w).drewN q).set (p := ⟨b, 0, none⟩) (fun _ => rfl) _).alloc _

/-- The buffer in the block b has the cells xs, in the row 'row'. -/
def Buf (T : TypeId) (w : World) (b : Nat) (row : Option Nat) (xs : List Value) : Prop :=
  ∃ A c lr, Blk w b T #[.slice A xs.length c, .int .i64 0, .int .i8 lr] ∧ w.ownsRow 0 5 1 (.slice A xs.length c) xs.length xs ∧ (Value.slice A xs.length c).ownBlock = row ∧ row ≠ some b
section
variable {T : TypeId} {w w' : World} {b : Nat} {row : Option Nat} {xs : List Value}
theorem Buf.lt (h : Buf T w b row xs) : b < w.heap.size := by
  obtain ⟨_, _, _, h, _⟩ := h
  exact h.lt
theorem Buf.row_lt (h : Buf T w b row xs) : ∀ g, row = some g → g < w.heap.size := by
  obtain ⟨A, c, lr, _, h, rfl, _⟩ := h
  intro g e
  rcases h.2 with ⟨e', _⟩ | ⟨g', c', cur, e', _, hg, _⟩
  · rw [e'] at e
    simp [Value.ownBlock] at e
  · rw [e'] at e
    simp [Value.ownBlock] at e
    subst e
    exact (Array.getElem?_eq_some_iff.1 hg).1
theorem Buf.mod {S : Nat → Prop} (h : Buf T w b row xs) (hm : Mod S w w') (hb : ¬ S b) (hr : ∀ g, row = some g → ¬ S g) : Buf T w' b row xs := by
  have hlt := h.row_lt
  obtain ⟨A, c, lr, h1, h2, h3, h4⟩ := h
  refine ⟨A, c, lr, h1.mod hm hb, ⟨h2.1, ?_⟩, h3, h4⟩
  rcases h2.2 with h5 | ⟨g, cap, cur, e, h5, h6, h7⟩
  · exact .inl h5
  · refine .inr ⟨g, cap, cur, e, h5, ?_, h7⟩
    have hg : row = some g := by rw [← h3, e]; simp [Value.ownBlock]
    rw [hm.block g (hlt g hg) (hr g hg)]
    exact h6
theorem Buf.new (T : TypeId) (w : World) (lr : Int) : Buf T (w.alloc (.cells #[.slice none 0 0, .int .i64 0, .int .i8 lr] T)) w.heap.size none [] :=
  ⟨none, 0, lr, Blk.new _ _ _, World.ownsRow_nil _ _ _ _, by simp [Value.ownBlock], by simp⟩
end
theorem Buf.mk_ {T : TypeId} {w : World} {b g n c : Nat} {lr : Int} {cur : Array Value} (hb : Blk w b T #[.slice (some ⟨g, 0, none⟩) n c, .int .i64 0, .int .i8 lr]) (hg : w.heap[g]? = some (.cells cur 5 (0, 0))) (hs : cur.size = c) (hn : n ≤ c) (hc : c ≤ maxLen) (hgb : g ≠ b) {xs : List Value} (hx : cur.toList.take n = xs) :
    Buf T w b (some g) xs := by
  have hl : xs.length = n := by rw [← hx, List.length_take, Array.length_toList]; omega
  subst hl
  exact ⟨_, c, lr, hb, ⟨by simp, .inr ⟨g, c, cur, rfl, Nat.zero_le _, hg, hn, hc, by rw [hs, Nat.mul_one], by rw [Nat.mul_one]; exact hx⟩⟩, by simp [Value.ownBlock], by simpa using hgb⟩
end Go.Proofs.YtcklbhplhpohpaaDoor
