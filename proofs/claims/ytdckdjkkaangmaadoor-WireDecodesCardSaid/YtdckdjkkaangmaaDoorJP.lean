/- Joined texts: WireM2, WireN2. -/
import Derived.Test.YtdckdjkkaangmaaDoorWireQ
import Derived.Test.YtdckdjkkaangmaaDoorRegion
/- The document's fields compared. -/
namespace Go.Proofs.YtdckdjkkaangmaaDoor
set_option linter.unusedVariables false
set_option linter.unusedSimpArgs false
set_option maxRecDepth 100000
open Go.RowKit

theorem ret_text {xs ys : List UInt8} {p : Prop} [Decidable p] (h : p) : (xs == ys) = decide (p ∧ xs = ys) := by
  by_cases hx : xs = ys
  · rw [beq_iff_eq.2 hx, decide_eq_true ⟨h, hx⟩]
  · rw [beq_eq_false_iff_ne.2 hx, decide_eq_false fun e => hx e.2]

set_option maxHeartbeats 16000000 in
theorem dask_any {w : World} {a0 a1 a2 a3 a4 b0 b1 b2 b3 b4 : Int} {A B : Option Addr} {c d : Nat} {xs ys : List UInt8} (hA : Bytes w A xs) (hB : Bytes w B ys) :
    Calls Tryd.prog 31 #[.agg #[.int .i64 a0, .int .i64 a1, .int .u64 a2, .int .i64 a3, .int .u64 a4, .slice A xs.length c], .agg #[.int .i64 b0, .int .i64 b1, .int .u64 b2, .int .i64 b3, .int .u64 b4, .slice B ys.length d]] w fun e w' => e = .returned (.bool (decide ((a0 = b0 ∧ a1 = b1 ∧ a2 = b2 ∧ a3 = b3 ∧ a4 = b4) ∧ xs = ys))) ∧ Below w.heap.size w w' := by
  have hq := bal_eql
  have hg := bal_guard
  have hq2 := pla_eql
  have hg2 := pla_guard
  have HB : Hid (∀ (o o' : Obj), Below w.heap.size w ((w.alloc o).alloc o')) := fun o o' => (below_new w o).alloc (by simp) o'
  have hcA := fun o o' => conv_str (P := Tryd.prog) (c := c) Tryd.underlying22 Tryd.underlying5 Tryd.underlying9 (hA.below (HB.out o o')) rfl
  have hcB := fun o o' => conv_str (P := Tryd.prog) (c := d) Tryd.underlying22 Tryd.underlying5 Tryd.underlying9 (hB.below (HB.out o o')) rfl
  clear hA hB
  go_enter Tryd.func31, Tryd.ntmps31
  go_wp2_with fail
  all_goals
    go_ret
    first
      | exact ⟨ret_bool (ret_text (by omega)), HB.out _ _⟩
      | exact ⟨ret_bool (by symm; rw [decide_eq_false_iff_not]; intro h; omega), HB.out _ _⟩
set_option maxHeartbeats 16000000 in
theorem dsays_any {w : World} {a0 a1 a2 a3 a4 a5 a6 a7 a8 a9 a10 b0 b1 b2 b3 b4 b5 b6 b7 b8 b9 b10 : Int} {A B : Option Addr} {c d : Nat} {xs ys : List UInt8} (hA : Bytes w A xs) (hB : Bytes w B ys) :
    Calls Tryd.prog 32 #[.agg #[.int .i64 a0, .int .i64 a1, .int .u64 a2, .int .i64 a3, .int .u64 a4, .int .u64 a5, .int .i64 a6, .int .u64 a7, .int .u64 a8, .int .i64 a9, .int .u64 a10, .slice A xs.length c], .agg #[.int .i64 b0, .int .i64 b1, .int .u64 b2, .int .i64 b3, .int .u64 b4, .int .u64 b5, .int .i64 b6, .int .u64 b7, .int .u64 b8, .int .i64 b9, .int .u64 b10, .slice B ys.length d]] w fun e w' => e = .returned (.bool (decide ((a0 = b0 ∧ a1 = b1 ∧ a2 = b2 ∧ a3 = b3 ∧ a4 = b4 ∧ a5 = b5 ∧ a6 = b6 ∧ a7 = b7 ∧ a8 = b8 ∧ a9 = b9 ∧ a10 = b10) ∧ xs = ys))) ∧ Below w.heap.size w w' := by
  have hq := bal_eql
  have hg := bal_guard
  have hq2 := pla_eql
  have hg2 := pla_guard
  have HB : Hid (∀ (o o' : Obj), Below w.heap.size w ((w.alloc o).alloc o')) := fun o o' => (below_new w o).alloc (by simp) o'
  have hcA := fun o o' => conv_str (P := Tryd.prog) (c := c) Tryd.underlying22 Tryd.underlying5 Tryd.underlying9 (hA.below (HB.out o o')) rfl
  have hcB := fun o o' => conv_str (P := Tryd.prog) (c := d) Tryd.underlying22 Tryd.underlying5 Tryd.underlying9 (hB.below (HB.out o o')) rfl
  clear hA hB
  go_enter Tryd.func32, Tryd.ntmps32
  go_wp2_with fail
  all_goals
    go_ret
    first
      | exact ⟨ret_bool (ret_text (by omega)), HB.out _ _⟩
      | exact ⟨ret_bool (by symm; rw [decide_eq_false_iff_not]; intro h; omega), HB.out _ _⟩
set_option maxHeartbeats 16000000 in
theorem dresp_any {w : World} {a0 a1 a2 a3 a4 a5 a6 a7 b0 b1 b2 b3 b4 b5 b6 b7 : Int} {A B : Option Addr} {c d : Nat} {xs ys : List UInt8} (hA : Bytes w A xs) (hB : Bytes w B ys) :
    Calls Tryd.prog 35 #[.agg #[.int .i64 a0, .int .u64 a1, .int .i64 a2, .int .i64 a3, .int .u64 a4, .int .u64 a5, .int .u64 a6, .int .u64 a7, .slice A xs.length c], .agg #[.int .i64 b0, .int .u64 b1, .int .i64 b2, .int .i64 b3, .int .u64 b4, .int .u64 b5, .int .u64 b6, .int .u64 b7, .slice B ys.length d]] w fun e w' => e = .returned (.bool (decide ((a0 = b0 ∧ a1 = b1 ∧ a2 = b2 ∧ a3 = b3 ∧ a4 = b4 ∧ a5 = b5 ∧ a6 = b6 ∧ a7 = b7) ∧ xs = ys))) ∧ Below w.heap.size w w' := by
  have hq := bal_eql
  have hg := bal_guard
  have hq2 := pla_eql
  have hg2 := pla_guard
  have HB : Hid (∀ (o o' : Obj), Below w.heap.size w ((w.alloc o).alloc o')) := fun o o' => (below_new w o).alloc (by simp) o'
  have hcA := fun o o' => conv_str (P := Tryd.prog) (c := c) Tryd.underlying22 Tryd.underlying5 Tryd.underlying9 (hA.below (HB.out o o')) rfl
  have hcB := fun o o' => conv_str (P := Tryd.prog) (c := d) Tryd.underlying22 Tryd.underlying5 Tryd.underlying9 (hB.below (HB.out o o')) rfl
  clear hA hB
  go_enter Tryd.func35, Tryd.ntmps35
  go_wp2_with fail
  all_goals
    go_ret
    first
      | exact ⟨ret_bool (ret_text (by omega)), HB.out _ _⟩
      | exact ⟨ret_bool (by symm; rw [decide_eq_false_iff_not]; intro h; omega), HB.out _ _⟩
set_option maxHeartbeats 16000000 in
theorem dcall_any {w : World} {a0 a1 a2 a3 a4 a5 a6 a7 b0 b1 b2 b3 b4 b5 b6 b7 : Int} {A B : Option Addr} {c d : Nat} {xs ys : List UInt8} (hA : Bytes w A xs) (hB : Bytes w B ys) :
    Calls Tryd.prog 36 #[.agg #[.int .i64 a0, .int .u64 a1, .int .u64 a2, .int .i64 a3, .int .i64 a4, .int .i64 a5, .int .u64 a6, .int .u64 a7, .slice A xs.length c], .agg #[.int .i64 b0, .int .u64 b1, .int .u64 b2, .int .i64 b3, .int .i64 b4, .int .i64 b5, .int .u64 b6, .int .u64 b7, .slice B ys.length d]] w fun e w' => e = .returned (.bool (decide ((a0 = b0 ∧ a1 = b1 ∧ a2 = b2 ∧ a3 = b3 ∧ a4 = b4 ∧ a5 = b5 ∧ a6 = b6 ∧ a7 = b7) ∧ xs = ys))) ∧ Below w.heap.size w w' := by
  have hq := bal_eql
  have hg := bal_guard
  have hq2 := pla_eql
  have hg2 := pla_guard
  have HB : Hid (∀ (o o' : Obj), Below w.heap.size w ((w.alloc o).alloc o')) := fun o o' => (below_new w o).alloc (by simp) o'
  have hcA := fun o o' => conv_str (P := Tryd.prog) (c := c) Tryd.underlying22 Tryd.underlying5 Tryd.underlying9 (hA.below (HB.out o o')) rfl
  have hcB := fun o o' => conv_str (P := Tryd.prog) (c := d) Tryd.underlying22 Tryd.underlying5 Tryd.underlying9 (hB.below (HB.out o o')) rfl
  clear hA hB
  go_enter Tryd.func36, Tryd.ntmps36
  go_wp2_with fail
  all_goals
    go_ret
    first
      | exact ⟨ret_bool (ret_text (by omega)), HB.out _ _⟩
      | exact ⟨ret_bool (by symm; rw [decide_eq_false_iff_not]; intro h; omega), HB.out _ _⟩
set_option maxHeartbeats 16000000 in
theorem dreply_any {w : World} {a0 a1 a2 a3 a4 a5 a6 a7 b0 b1 b2 b3 b4 b5 b6 b7 : Int} {A B : Option Addr} {c d : Nat} {xs ys : List UInt8} (hA : Bytes w A xs) (hB : Bytes w B ys) :
    Calls Tryd.prog 37 #[.agg #[.int .i64 a0, .int .u64 a1, .int .u64 a2, .int .i64 a3, .int .u64 a4, .int .i64 a5, .int .i64 a6, .int .u64 a7, .slice A xs.length c], .agg #[.int .i64 b0, .int .u64 b1, .int .u64 b2, .int .i64 b3, .int .u64 b4, .int .i64 b5, .int .i64 b6, .int .u64 b7, .slice B ys.length d]] w fun e w' => e = .returned (.bool (decide ((a0 = b0 ∧ a1 = b1 ∧ a2 = b2 ∧ a3 = b3 ∧ a4 = b4 ∧ a5 = b5 ∧ a6 = b6 ∧ a7 = b7) ∧ xs = ys))) ∧ Below w.heap.size w w' := by
  have hq := bal_eql
  have hg := bal_guard
  have hq2 := pla_eql
  have hg2 := pla_guard
  have HB : Hid (∀ (o o' : Obj), Below w.heap.size w ((w.alloc o).alloc o')) := fun o o' => (below_new w o).alloc (by simp) o'
  have hcA := fun o o' => conv_str (P := Tryd.prog) (c := c) Tryd.underlying22 Tryd.underlying5 Tryd.underlying9 (hA.below (HB.out o o')) rfl
  have hcB := fun o o' => conv_str (P := Tryd.prog) (c := d) Tryd.underlying22 Tryd.underlying5 Tryd.underlying9 (hB.below (HB.out o o')) rfl
  clear hA hB
  go_enter Tryd.func37, Tryd.ntmps37
  go_wp2_with fail
  all_goals
    go_ret
    first
      | exact ⟨ret_bool (ret_text (by omega)), HB.out _ _⟩
      | exact ⟨ret_bool (by symm; rw [decide_eq_false_iff_not]; intro h; omega), HB.out _ _⟩
end Go.Proofs.YtdckdjkkaangmaaDoor

/- The document's lists compared. -/
namespace Go.Proofs.YtdckdjkkaangmaaDoor
set_option linter.unusedVariables false
set_option linter.unusedSimpArgs false
set_option maxRecDepth 100000
open Go.RowKit

theorem nat_more {xs ys : List Nat} {k : Nat} (hx : k < xs.length) (hy : k < ys.length) (h : xs.take k = ys.take k) (he : xs[k] = ys[k]) : xs.take (k + 1) = ys.take (k + 1) := by
  rw [List.take_succ_eq_append_getElem hx, List.take_succ_eq_append_getElem hy, h, he]
set_option maxHeartbeats 4000000 in
theorem dkeep_any {w : World} {A B : Option Addr} {c d : Nat} {us vs : List Nat} (hA : Keeps w A us) (hB : Keeps w B vs) (hn : us.length ≤ 1000000) (hm : vs.length ≤ 1000000) :
    Calls Tryd.prog 34 #[.slice A us.length c, .slice B vs.length d] w fun e w' => e = .returned (.bool (decide (us = vs))) ∧ Below w.heap.size w w' := by
  by_cases hl : us.length = vs.length
  · have hnl : ((us.length : Int) != (vs.length : Int)) = false := by simp [hl]
    have hnl2 : decide ((us.length : Int) = (vs.length : Int)) = true := decide_eq_true (by omega)
    go_enter Tryd.func34, Tryd.ntmps34
    go_wp2_with fail
    clear hnl hnl2
    go_loopw [5] (fun i wr => ∃ k : Nat, k ≤ us.length ∧ i = .int .i64 k ∧ Below w.heap.size w wr ∧ us.take k = vs.take k) (fun i _ => us.length - (intOf i).toNat)
    case atStart => exact ⟨0, by omega, rfl, Below.refl _ _, by simp⟩
    case round =>
      obtain ⟨k, hk, rfl, hb, hs⟩ := hrel
      by_cases hlt : k < us.length
      · have hlt2 : k < vs.length := by omega
        obtain ⟨b, o, rfl, _, hc⟩ := Reads.flat (Reads.below hA hb) (by omega) (by decide)
        obtain ⟨b2, o2, rfl, _, hc2⟩ := Reads.flat (Reads.below hB hb) (by omega) (by decide)
        have c0 : wr.cell? ⟨b, o + k, none⟩ = some (.int .u64 (us[k] : Int)) := hc k (u64v us[k]) (by rw [List.getElem?_map, List.getElem?_eq_getElem hlt]; rfl)
        have c1 : wr.cell? ⟨b2, o2 + k, none⟩ = some (.int .u64 (vs[k] : Int)) := hc2 k (u64v vs[k]) (by rw [List.getElem?_map, List.getElem?_eq_getElem hlt2]; rfl)
        have HS := Lib.hid hs
        have HE : Hid (us[k] = vs[k] → us.take (k + 1) = vs.take (k + 1)) := fun h => nat_more hlt hlt2 hs h
        have HN : Hid (us = vs → us[k] = vs[k]) := fun h => by subst h; rfl
        generalize us[k] = x at c0 HE HN
        generalize vs[k] = y at c1 HE HN
        have HBW := Lib.hid hb
        clear hc hc2 hs hb
        by_cases hxy : x = y
        · have hd : ((x : Int) != (y : Int)) = false := by simp [hxy]
          have hd2 : (x != y) = false := by simp [hxy]
          have HXY := Lib.hid hxy
          clear hxy
          go_wp2_with fail
          refine PF.pf_begin (by kernel_rfl) ?_
          refine PF.pf_take0 0 (by kernel_rfl) rfl (fun _ _ _ _ _ h => h) (by kernel_rfl) (fun u => by go_simp; try rfl) ?_
          try simp only [Act.put, pz0, pz1, pz2]
          refine PF.pf_take0 1 (by kernel_rfl) rfl (fun _ _ _ _ _ h => h) (by kernel_rfl) (fun u => by go_simp; try rfl) ?_
          try simp only [Act.put, pz0, pz1, pz2]
          refine PF.pf_take0 2 (by kernel_rfl) rfl (fun _ _ _ _ _ h => h) (by kernel_rfl) (fun u => by go_simp; try rfl) ?_
          try simp only [Act.put, pz0, pz1, pz2]
          refine PF.pf_take1 3 (PF.Same (b) _) (by kernel_rfl) rfl (fun _ _ _ _ _ h => h) (by kernel_rfl) (PF.Same.refl _ _) (fun u hu => by have hcu := hu.cell; go_simp; try rfl) ?_
          try simp only [Act.put, pz0, pz1, pz2]
          refine PF.pf_take0 4 (by kernel_rfl) rfl (fun _ _ _ _ _ h => h) (by kernel_rfl) (fun u => by go_simp; try rfl) ?_
          try simp only [Act.put, pz0, pz1, pz2]
          refine PF.pf_take0 5 (by kernel_rfl) rfl (fun _ _ _ _ _ h => h) (by kernel_rfl) (fun u => by go_simp; try rfl) ?_
          try simp only [Act.put, pz0, pz1, pz2]
          refine PF.pf_take0 6 (by kernel_rfl) rfl (fun _ _ _ _ _ h => h) (by kernel_rfl) (fun u => by go_simp; try rfl) ?_
          try simp only [Act.put, pz0, pz1, pz2]
          refine PF.pf_take1 7 (PF.Same (b2) _) (by kernel_rfl) rfl (fun _ _ _ _ _ h => h) (by kernel_rfl) (PF.Same.refl _ _) (fun u hu => by have hcu := hu.cell; go_simp; try rfl) ?_
          try simp only [Act.put, pz0, pz1, pz2]
          refine PF.pf_take0 8 (by kernel_rfl) rfl (fun _ _ _ _ _ h => h) (by kernel_rfl) (fun u => by go_simp; try rfl) ?_
          try simp only [Act.put, pz0, pz1, pz2]
          refine PF.pf_done (by kernel_rfl) ?_
          go_wp2_with fail
          go_roundw
          case rel => exact ⟨k + 1, by omega, by go_num, HBW.out.drew, HE.out HXY.out⟩
          case measure => simp [intOf]; omega
        · have hd : ((x : Int) != (y : Int)) = true := by simp; omega
          have hd2 : (x != y) = true := by simp [hxy]
          have HXY := Lib.hid hxy
          clear hxy
          go_wp2_with fail
          refine PF.pf_begin (by kernel_rfl) ?_
          refine PF.pf_take0 0 (by kernel_rfl) rfl (fun _ _ _ _ _ h => h) (by kernel_rfl) (fun u => by go_simp; try rfl) ?_
          try simp only [Act.put, pz0, pz1, pz2]
          refine PF.pf_take0 1 (by kernel_rfl) rfl (fun _ _ _ _ _ h => h) (by kernel_rfl) (fun u => by go_simp; try rfl) ?_
          try simp only [Act.put, pz0, pz1, pz2]
          refine PF.pf_take0 2 (by kernel_rfl) rfl (fun _ _ _ _ _ h => h) (by kernel_rfl) (fun u => by go_simp; try rfl) ?_
          try simp only [Act.put, pz0, pz1, pz2]
          refine PF.pf_take1 3 (PF.Same (b) _) (by kernel_rfl) rfl (fun _ _ _ _ _ h => h) (by kernel_rfl) (PF.Same.refl _ _) (fun u hu => by have hcu := hu.cell; go_simp; try rfl) ?_
          try simp only [Act.put, pz0, pz1, pz2]
          refine PF.pf_take0 4 (by kernel_rfl) rfl (fun _ _ _ _ _ h => h) (by kernel_rfl) (fun u => by go_simp; try rfl) ?_
          try simp only [Act.put, pz0, pz1, pz2]
          refine PF.pf_take0 5 (by kernel_rfl) rfl (fun _ _ _ _ _ h => h) (by kernel_rfl) (fun u => by go_simp; try rfl) ?_
          try simp only [Act.put, pz0, pz1, pz2]
          refine PF.pf_take0 6 (by kernel_rfl) rfl (fun _ _ _ _ _ h => h) (by kernel_rfl) (fun u => by go_simp; try rfl) ?_
          try simp only [Act.put, pz0, pz1, pz2]
          refine PF.pf_take1 7 (PF.Same (b2) _) (by kernel_rfl) rfl (fun _ _ _ _ _ h => h) (by kernel_rfl) (PF.Same.refl _ _) (fun u hu => by have hcu := hu.cell; go_simp; try rfl) ?_
          try simp only [Act.put, pz0, pz1, pz2]
          refine PF.pf_take0 8 (by kernel_rfl) rfl (fun _ _ _ _ _ h => h) (by kernel_rfl) (fun u => by go_simp; try rfl) ?_
          try simp only [Act.put, pz0, pz1, pz2]
          refine PF.pf_done (by kernel_rfl) ?_
          go_wp2_with fail
          go_ret
          exact ⟨ret_bool (by symm; rw [decide_eq_false_iff_not]; exact fun h => HXY.out (HN.out h)), HBW.out.drew⟩
      · obtain rfl : k = us.length := by omega
        rw [List.take_length, hl, List.take_length] at hs
        have HS := Lib.hid hs
        clear hs
        go_wp2_with fail
        go_ret
        exact ⟨ret_bool (by symm; rw [decide_eq_true_iff]; exact HS.out), hb⟩
  · have hnl : ((us.length : Int) != (vs.length : Int)) = true := by simp; omega
    have HL := Lib.hid hl
    clear hl
    go_enter Tryd.func34, Tryd.ntmps34
    go_wp2_with fail
    go_ret
    exact ⟨ret_bool (by symm; rw [decide_eq_false_iff_not]; exact fun h => HL.out (by rw [h])), Below.refl _ _⟩
end Go.Proofs.YtdckdjkkaangmaaDoor
