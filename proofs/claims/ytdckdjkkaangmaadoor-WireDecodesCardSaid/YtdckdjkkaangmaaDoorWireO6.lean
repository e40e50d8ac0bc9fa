/- The document's SameReqs at one and one: the other ways. -/
import Derived.Test.YtdckdjkkaangmaaDoorWireO2
namespace Go.Proofs.YtdckdjkkaangmaaDoor
set_option linter.unusedVariables false
set_option linter.unusedSimpArgs false
set_option maxRecDepth 100000
open Go.RowKit
set_option maxRecDepth 100000 in
set_option maxHeartbeats 16000000 in
theorem dreqs_n4 {w : World} {a0 a1 a2 a3 a4 a5 a6 a7 b0 b1 b2 b3 b4 b5 b6 b7 : Int} {g h : Nat} {A B A2 B2 : Option Addr} {c d c2 d2 : Nat} {xs ys : List UInt8} {us vs : List Nat} (hG : Blk w g 35 #[.int .i64 a0, .int .u64 a1, .int .i64 a2, .int .u64 a3, .int .u64 a4, .int .u64 a5, .int .u64 a6, .int .i64 a7, .slice A xs.length c, .slice A2 us.length c2]) (hH : Blk w h 35 #[.int .i64 b0, .int .u64 b1, .int .i64 b2, .int .u64 b3, .int .u64 b4, .int .u64 b5, .int .u64 b6, .int .i64 b7, .slice B ys.length d, .slice B2 vs.length d2]) (hA : Bytes w A xs) (hB : Bytes w B ys) (hab : a0 = b0 ∧ a1 = b1 ∧ a2 = b2 ∧ a3 = b3) (hne : a4 ≠ b4) :
    Calls Tryd.prog 33 #[.slice (some ⟨g, 0, none⟩) 1 1, .slice (some ⟨h, 0, none⟩) 1 1] w fun e w' => e = .returned (.bool (decide ((a0 = b0 ∧ a1 = b1 ∧ a2 = b2 ∧ a3 = b3 ∧ a4 = b4 ∧ a5 = b5 ∧ a6 = b6 ∧ a7 = b7) ∧ xs = ys ∧ us.length = vs.length))) ∧ Below w.heap.size w w' := by
  obtain ⟨rfl, rfl, rfl, rfl⟩ := hab
  have hn1 : (a4 != b4) = true := by rw [bne_iff_ne]; exact hne
  have HNE := Lib.hid hne
  clear hne
  have hneq := pla_neq
  have hg2 := pla_guard
  have HG := Lib.hid hG
  have HH := Lib.hid hH
  have HA := Lib.hid hA
  have HBY := Lib.hid hB
  have HW : Hid (Below w.heap.size w w) := Below.refl _ _
  clear hG hH hA hB
  go_enter Tryd.func33, Tryd.ntmps33
  go_wp2_with fail
  go_loopw [5] (fun i wr => ∃ k : Nat, k ≤ 1 ∧ i = .int .i64 k ∧ Below w.heap.size w wr ∧ (k = 1 → False)) (fun i _ => 1 - (intOf i).toNat)
  case atStart => exact ⟨0, by omega, rfl, Below.refl _ _, fun h => by omega⟩
  case round =>
    obtain ⟨k, hk, rfl, hb, hc⟩ := hrel
    by_cases hlt : k < 1
    · obtain rfl : k = 0 := by omega
      have HB := Lib.hid hb
      have hGr := HG.out.below hb HG.out.lt
      have hHr := HH.out.below hb HH.out.lt
      clear hb hc hlt hk
      go_wp2_with fail
      refine PF.pf_begin (by kernel_rfl) ?_
      refine PF.pf_take0 0 (by kernel_rfl) rfl (fun _ _ _ _ _ h => h) (by kernel_rfl) (fun u => by go_simp; try rfl) ?_
      try simp only [Act.put, pz0, pz1, pz2]
      refine PF.pf_take0 1 (by kernel_rfl) rfl (fun _ _ _ _ _ h => h) (by kernel_rfl) (fun u => by go_simp; try rfl) ?_
      try simp only [Act.put, pz0, pz1, pz2]
      refine PF.pf_take0 2 (by kernel_rfl) rfl (fun _ _ _ _ _ h => h) (by kernel_rfl) (fun u => by go_simp; try rfl) ?_
      try simp only [Act.put, pz0, pz1, pz2]
      refine PF.pf_take1 3 (fun u => Blk u g 35 #[.int .i64 a0, .int .u64 a1, .int .i64 a2, .int .u64 a3, .int .u64 a4, .int .u64 a5, .int .u64 a6, .int .i64 a7, .slice A xs.length c, .slice A2 us.length c2]) (by kernel_rfl) rfl (fun _ _ _ _ _ h => h) (by kernel_rfl) (hGr) (fun u hu => by (exact exec_load_blk rfl rfl hu Tryd.underlying35 rfl info_req)) ?_
      try simp only [Act.put, pz0, pz1, pz2]
      refine PF.pf_take0 4 (by kernel_rfl) rfl (fun _ _ _ _ _ h => h) (by kernel_rfl) (fun u => by go_simp; try rfl) ?_
      try simp only [Act.put, pz0, pz1, pz2]
      refine PF.pf_take0 5 (by kernel_rfl) rfl (fun _ _ _ _ _ h => h) (by kernel_rfl) (fun u => by go_simp; try rfl) ?_
      try simp only [Act.put, pz0, pz1, pz2]
      refine PF.pf_take0 6 (by kernel_rfl) rfl (fun _ _ _ _ _ h => h) (by kernel_rfl) (fun u => by go_simp; try rfl) ?_
      try simp only [Act.put, pz0, pz1, pz2]
      refine PF.pf_take1 7 (fun u => Blk u h 35 #[.int .i64 a0, .int .u64 a1, .int .i64 a2, .int .u64 a3, .int .u64 b4, .int .u64 b5, .int .u64 b6, .int .i64 b7, .slice B ys.length d, .slice B2 vs.length d2]) (by kernel_rfl) rfl (fun _ _ _ _ _ h => h) (by kernel_rfl) (hHr) (fun u hu => by (exact exec_load_blk rfl rfl hu Tryd.underlying35 rfl info_req)) ?_
      try simp only [Act.put, pz0, pz1, pz2]
      refine PF.pf_fork [8, 9] (by kernel_rfl) rfl (PF.fork_cons ?_ (PF.fork_cons ?_ PF.fork_nil))
      -- number 8 first
      · refine PF.step_one rfl (by kernel_rfl) (fun K hK => ?_)
        refine wp_alloc_blk rfl zero_req ?_
        rintro g6 w6 hg6 hZ6 hb6
        have hbt6 : Below w.heap.size w w6 := below_call HB.out.drew HB.out.size hb6
        have hG6 := HG.out.below hbt6 HG.out.lt
        have hH6 := HH.out.below hbt6 HH.out.lt
        refine hK _ _ (by repeat (first | exact PF.owes_nil | refine PF.owes_left ?_ | refine PF.owes_no (by decide +kernel) ?_ | refine PF.owes_yes (by first | exact hG6 | exact hH6 | exact hG7 | exact hH7 | exact hG8 | exact hH8 | assumption) ?_)) ?_
        clear hK K
        try simp only [Act.put, pz0, pz1, pz2]
        refine PF.pf_exec 9 (by kernel_rfl) rfl (by kernel_rfl) (fun K hK => ?_)
        refine wp_alloc_blk rfl zero_req ?_
        rintro g7 w7 hg7 hZ7 hb7
        have hgne : g6 ≠ g7 := by (have := hZ6.lt; omega)
        have hbl := HB.out.drew.size
        have hZL : w.heap.size ≤ g6 ∧ w.heap.size ≤ g7 := by (have := hbt6.size; constructor <;> omega)
        have hbt7 := below_call hbt6 hbt6.size hb7
        have hZ6b := hZ6.below hb7 hZ6.lt
        clear hZ6
        have hZ6 := hZ6b
        have hG7 := HG.out.below hbt7 HG.out.lt
        have hH7 := HH.out.below hbt7 HH.out.lt
        refine hK _ _ (by repeat (first | exact PF.owes_nil | refine PF.owes_left ?_ | refine PF.owes_no (by decide +kernel) ?_ | refine PF.owes_yes (by first | exact hG6 | exact hH6 | exact hG7 | exact hH7 | exact hG8 | exact hH8 | assumption) ?_)) ?_
        clear hK K
        try simp only [Act.put, pz0, pz1, pz2]
        refine PF.pf_exec 10 (by kernel_rfl) rfl (by kernel_rfl) (fun K hK => ?_)
        refine wp_store_blk (t := 35) rfl rfl rfl hZ6 rfl info_req (by intro v hv; simp only [List.mem_cons, List.not_mem_nil, or_false] at hv; rcases hv with rfl | rfl | rfl | rfl | rfl | rfl | rfl | rfl | rfl | rfl <;> rfl) ?_
        rintro w8 hS6 hm8
        have hZ7' := hZ7.mod hm8 (fun e => hgne e.symm)
        have hbt8 := hbt7.trans (hm8.to_below hbt7.size fun b hb e => by (have := hZL; have := hbl; omega))
        have hG8 := HG.out.below hbt8 HG.out.lt
        have hH8 := HH.out.below hbt8 HH.out.lt
        refine hK _ _ (by repeat (first | exact PF.owes_nil | refine PF.owes_left ?_ | refine PF.owes_no (by decide +kernel) ?_ | refine PF.owes_yes (by first | exact hG6 | exact hH6 | exact hG7 | exact hH7 | exact hG8 | exact hH8 | assumption) ?_)) ?_
        clear hK K
        try simp only [Act.put, pz0, pz1, pz2]
        refine PF.pf_exec 11 (by kernel_rfl) rfl (by kernel_rfl) (fun K hK => ?_)
        refine wp_store_blk (t := 35) rfl rfl rfl hZ7' rfl info_req (by intro v hv; simp only [List.mem_cons, List.not_mem_nil, or_false] at hv; rcases hv with rfl | rfl | rfl | rfl | rfl | rfl | rfl | rfl | rfl | rfl <;> rfl) ?_
        rintro w9 hS7 hm9
        have hS6' := hS6.mod hm9 hgne
        have hbt9 := hbt8.trans (hm9.to_below hbt8.size fun b hb e => by (have := hZL; have := hbl; omega))
        refine hK _ _ (by repeat (first | exact PF.owes_nil | refine PF.owes_left ?_ | refine PF.owes_no (by decide +kernel) ?_ | refine PF.owes_yes (by first | rfl | assumption | go_simp) ?_)) ?_
        clear hK K
        try simp only [Act.put, pz0, pz1, pz2]
        refine PF.pf_done (by kernel_rfl) ?_
        have p0 := hS6'.cell 0
        have p1 := hS6'.cell 1
        have p2 := hS6'.cell 2
        have p3 := hS6'.cell 3
        have p4 := hS6'.cell 4
        have p5 := hS6'.cell 5
        have p6 := hS6'.cell 6
        have p7 := hS6'.cell 7
        have p8 := hS6'.cell 8
        have p9 := hS6'.cell 9
        have q0 := hS7.cell 0
        have q1 := hS7.cell 1
        have q2 := hS7.cell 2
        have q3 := hS7.cell 3
        have q4 := hS7.cell 4
        have q5 := hS7.cell 5
        have q6 := hS7.cell 6
        have q7 := hS7.cell 7
        have q8 := hS7.cell 8
        have q9 := hS7.cell 9
        simp only [List.getElem?_toArray, List.getElem?_cons_zero, List.getElem?_cons_succ] at p0 p1 p2 p3 p4 p5 p6 p7 p8 p9 q0 q1 q2 q3 q4 q5 q6 q7 q8 q9
        have hcA := conv_str (P := Tryd.prog) (c := c) Tryd.underlying22 Tryd.underlying5 Tryd.underlying9 (HA.out.below hbt9) rfl
        have hcB := conv_str (P := Tryd.prog) (c := d) Tryd.underlying22 Tryd.underlying5 Tryd.underlying9 (HBY.out.below hbt9) rfl
        have HBT9 := Lib.hid hbt9
        clear hS6 hS7 hS6' hZ6 hZ7 hZ7' hm8 hm9 hbt6 hbt7 hbt8 hbt9 hG6 hH6 hG7 hH7 hG8 hH8 hb6 hb7 hg6 hg7 hgne hGr hHr hZL hbl
        go_wp2_with fail
        go_ret
        exact ⟨ret_bool (by symm; rw [decide_eq_false_iff_not]; exact fun h => HNE.out h.1.2.2.2.2.1), HBT9.out⟩
      -- number 9 first
      · refine PF.step_one rfl (by kernel_rfl) (fun K hK => ?_)
        refine wp_alloc_blk rfl zero_req ?_
        rintro g7 w6 hg7 hZ7 hb6
        have hbt6 : Below w.heap.size w w6 := below_call HB.out.drew HB.out.size hb6
        have hG6 := HG.out.below hbt6 HG.out.lt
        have hH6 := HH.out.below hbt6 HH.out.lt
        refine hK _ _ (by repeat (first | exact PF.owes_nil | refine PF.owes_left ?_ | refine PF.owes_no (by decide +kernel) ?_ | refine PF.owes_yes (by first | exact hG6 | exact hH6 | exact hG7 | exact hH7 | exact hG8 | exact hH8 | assumption) ?_)) ?_
        clear hK K
        try simp only [Act.put, pz0, pz1, pz2]
        refine PF.pf_exec 8 (by kernel_rfl) rfl (by kernel_rfl) (fun K hK => ?_)
        refine wp_alloc_blk rfl zero_req ?_
        rintro g6 w7 hg6 hZ6 hb7
        have hgne : g6 ≠ g7 := by (have := hZ7.lt; omega)
        have hbl := HB.out.drew.size
        have hZL : w.heap.size ≤ g6 ∧ w.heap.size ≤ g7 := by (have := hbt6.size; constructor <;> omega)
        have hbt7 := below_call hbt6 hbt6.size hb7
        have hZ7b := hZ7.below hb7 hZ7.lt
        clear hZ7
        have hZ7 := hZ7b
        have hG7 := HG.out.below hbt7 HG.out.lt
        have hH7 := HH.out.below hbt7 HH.out.lt
        refine hK _ _ (by repeat (first | exact PF.owes_nil | refine PF.owes_left ?_ | refine PF.owes_no (by decide +kernel) ?_ | refine PF.owes_yes (by first | exact hG6 | exact hH6 | exact hG7 | exact hH7 | exact hG8 | exact hH8 | assumption) ?_)) ?_
        clear hK K
        try simp only [Act.put, pz0, pz1, pz2]
        refine PF.pf_exec 10 (by kernel_rfl) rfl (by kernel_rfl) (fun K hK => ?_)
        refine wp_store_blk (t := 35) rfl rfl rfl hZ6 rfl info_req (by intro v hv; simp only [List.mem_cons, List.not_mem_nil, or_false] at hv; rcases hv with rfl | rfl | rfl | rfl | rfl | rfl | rfl | rfl | rfl | rfl <;> rfl) ?_
        rintro w8 hS6 hm8
        have hZ7' := hZ7.mod hm8 (fun e => hgne e.symm)
        have hbt8 := hbt7.trans (hm8.to_below hbt7.size fun b hb e => by (have := hZL; have := hbl; omega))
        have hG8 := HG.out.below hbt8 HG.out.lt
        have hH8 := HH.out.below hbt8 HH.out.lt
        refine hK _ _ (by repeat (first | exact PF.owes_nil | refine PF.owes_left ?_ | refine PF.owes_no (by decide +kernel) ?_ | refine PF.owes_yes (by first | exact hG6 | exact hH6 | exact hG7 | exact hH7 | exact hG8 | exact hH8 | assumption) ?_)) ?_
        clear hK K
        try simp only [Act.put, pz0, pz1, pz2]
        refine PF.pf_exec 11 (by kernel_rfl) rfl (by kernel_rfl) (fun K hK => ?_)
        refine wp_store_blk (t := 35) rfl rfl rfl hZ7' rfl info_req (by intro v hv; simp only [List.mem_cons, List.not_mem_nil, or_false] at hv; rcases hv with rfl | rfl | rfl | rfl | rfl | rfl | rfl | rfl | rfl | rfl <;> rfl) ?_
        rintro w9 hS7 hm9
        have hS6' := hS6.mod hm9 hgne
        have hbt9 := hbt8.trans (hm9.to_below hbt8.size fun b hb e => by (have := hZL; have := hbl; omega))
        refine hK _ _ (by repeat (first | exact PF.owes_nil | refine PF.owes_left ?_ | refine PF.owes_no (by decide +kernel) ?_ | refine PF.owes_yes (by first | rfl | assumption | go_simp) ?_)) ?_
        clear hK K
        try simp only [Act.put, pz0, pz1, pz2]
        refine PF.pf_done (by kernel_rfl) ?_
        have p0 := hS6'.cell 0
        have p1 := hS6'.cell 1
        have p2 := hS6'.cell 2
        have p3 := hS6'.cell 3
        have p4 := hS6'.cell 4
        have p5 := hS6'.cell 5
        have p6 := hS6'.cell 6
        have p7 := hS6'.cell 7
        have p8 := hS6'.cell 8
        have p9 := hS6'.cell 9
        have q0 := hS7.cell 0
        have q1 := hS7.cell 1
        have q2 := hS7.cell 2
        have q3 := hS7.cell 3
        have q4 := hS7.cell 4
        have q5 := hS7.cell 5
        have q6 := hS7.cell 6
        have q7 := hS7.cell 7
        have q8 := hS7.cell 8
        have q9 := hS7.cell 9
        simp only [List.getElem?_toArray, List.getElem?_cons_zero, List.getElem?_cons_succ] at p0 p1 p2 p3 p4 p5 p6 p7 p8 p9 q0 q1 q2 q3 q4 q5 q6 q7 q8 q9
        have hcA := conv_str (P := Tryd.prog) (c := c) Tryd.underlying22 Tryd.underlying5 Tryd.underlying9 (HA.out.below hbt9) rfl
        have hcB := conv_str (P := Tryd.prog) (c := d) Tryd.underlying22 Tryd.underlying5 Tryd.underlying9 (HBY.out.below hbt9) rfl
        have HBT9 := Lib.hid hbt9
        clear hS6 hS7 hS6' hZ6 hZ7 hZ7' hm8 hm9 hbt6 hbt7 hbt8 hbt9 hG6 hH6 hG7 hH7 hG8 hH8 hb6 hb7 hg6 hg7 hgne hGr hHr hZL hbl
        go_wp2_with fail
        go_ret
        exact ⟨ret_bool (by symm; rw [decide_eq_false_iff_not]; exact fun h => HNE.out h.1.2.2.2.2.1), HBT9.out⟩
    · obtain rfl : k = 1 := by omega
      exact (hc rfl).elim
set_option maxRecDepth 100000 in
set_option maxHeartbeats 16000000 in
theorem dreqs_n5 {w : World} {a0 a1 a2 a3 a4 a5 a6 a7 b0 b1 b2 b3 b4 b5 b6 b7 : Int} {g h : Nat} {A B A2 B2 : Option Addr} {c d c2 d2 : Nat} {xs ys : List UInt8} {us vs : List Nat} (hG : Blk w g 35 #[.int .i64 a0, .int .u64 a1, .int .i64 a2, .int .u64 a3, .int .u64 a4, .int .u64 a5, .int .u64 a6, .int .i64 a7, .slice A xs.length c, .slice A2 us.length c2]) (hH : Blk w h 35 #[.int .i64 b0, .int .u64 b1, .int .i64 b2, .int .u64 b3, .int .u64 b4, .int .u64 b5, .int .u64 b6, .int .i64 b7, .slice B ys.length d, .slice B2 vs.length d2]) (hA : Bytes w A xs) (hB : Bytes w B ys) (hab : a0 = b0 ∧ a1 = b1 ∧ a2 = b2 ∧ a3 = b3 ∧ a4 = b4) (hne : a5 ≠ b5) :
    Calls Tryd.prog 33 #[.slice (some ⟨g, 0, none⟩) 1 1, .slice (some ⟨h, 0, none⟩) 1 1] w fun e w' => e = .returned (.bool (decide ((a0 = b0 ∧ a1 = b1 ∧ a2 = b2 ∧ a3 = b3 ∧ a4 = b4 ∧ a5 = b5 ∧ a6 = b6 ∧ a7 = b7) ∧ xs = ys ∧ us.length = vs.length))) ∧ Below w.heap.size w w' := by
  obtain ⟨rfl, rfl, rfl, rfl, rfl⟩ := hab
  have hn1 : (a5 != b5) = true := by rw [bne_iff_ne]; exact hne
  have HNE := Lib.hid hne
  clear hne
  have hneq := pla_neq
  have hg2 := pla_guard
  have HG := Lib.hid hG
  have HH := Lib.hid hH
  have HA := Lib.hid hA
  have HBY := Lib.hid hB
  have HW : Hid (Below w.heap.size w w) := Below.refl _ _
  clear hG hH hA hB
  go_enter Tryd.func33, Tryd.ntmps33
  go_wp2_with fail
  go_loopw [5] (fun i wr => ∃ k : Nat, k ≤ 1 ∧ i = .int .i64 k ∧ Below w.heap.size w wr ∧ (k = 1 → False)) (fun i _ => 1 - (intOf i).toNat)
  case atStart => exact ⟨0, by omega, rfl, Below.refl _ _, fun h => by omega⟩
  case round =>
    obtain ⟨k, hk, rfl, hb, hc⟩ := hrel
    by_cases hlt : k < 1
    · obtain rfl : k = 0 := by omega
      have HB := Lib.hid hb
      have hGr := HG.out.below hb HG.out.lt
      have hHr := HH.out.below hb HH.out.lt
      clear hb hc hlt hk
      go_wp2_with fail
      refine PF.pf_begin (by kernel_rfl) ?_
      refine PF.pf_take0 0 (by kernel_rfl) rfl (fun _ _ _ _ _ h => h) (by kernel_rfl) (fun u => by go_simp; try rfl) ?_
      try simp only [Act.put, pz0, pz1, pz2]
      refine PF.pf_take0 1 (by kernel_rfl) rfl (fun _ _ _ _ _ h => h) (by kernel_rfl) (fun u => by go_simp; try rfl) ?_
      try simp only [Act.put, pz0, pz1, pz2]
      refine PF.pf_take0 2 (by kernel_rfl) rfl (fun _ _ _ _ _ h => h) (by kernel_rfl) (fun u => by go_simp; try rfl) ?_
      try simp only [Act.put, pz0, pz1, pz2]
      refine PF.pf_take1 3 (fun u => Blk u g 35 #[.int .i64 a0, .int .u64 a1, .int .i64 a2, .int .u64 a3, .int .u64 a4, .int .u64 a5, .int .u64 a6, .int .i64 a7, .slice A xs.length c, .slice A2 us.length c2]) (by kernel_rfl) rfl (fun _ _ _ _ _ h => h) (by kernel_rfl) (hGr) (fun u hu => by (exact exec_load_blk rfl rfl hu Tryd.underlying35 rfl info_req)) ?_
      try simp only [Act.put, pz0, pz1, pz2]
      refine PF.pf_take0 4 (by kernel_rfl) rfl (fun _ _ _ _ _ h => h) (by kernel_rfl) (fun u => by go_simp; try rfl) ?_
      try simp only [Act.put, pz0, pz1, pz2]
      refine PF.pf_take0 5 (by kernel_rfl) rfl (fun _ _ _ _ _ h => h) (by kernel_rfl) (fun u => by go_simp; try rfl) ?_
      try simp only [Act.put, pz0, pz1, pz2]
      refine PF.pf_take0 6 (by kernel_rfl) rfl (fun _ _ _ _ _ h => h) (by kernel_rfl) (fun u => by go_simp; try rfl) ?_
      try simp only [Act.put, pz0, pz1, pz2]
      refine PF.pf_take1 7 (fun u => Blk u h 35 #[.int .i64 a0, .int .u64 a1, .int .i64 a2, .int .u64 a3, .int .u64 a4, .int .u64 b5, .int .u64 b6, .int .i64 b7, .slice B ys.length d, .slice B2 vs.length d2]) (by kernel_rfl) rfl (fun _ _ _ _ _ h => h) (by kernel_rfl) (hHr) (fun u hu => by (exact exec_load_blk rfl rfl hu Tryd.underlying35 rfl info_req)) ?_
      try simp only [Act.put, pz0, pz1, pz2]
      refine PF.pf_fork [8, 9] (by kernel_rfl) rfl (PF.fork_cons ?_ (PF.fork_cons ?_ PF.fork_nil))
      -- number 8 first
      · refine PF.step_one rfl (by kernel_rfl) (fun K hK => ?_)
        refine wp_alloc_blk rfl zero_req ?_
        rintro g6 w6 hg6 hZ6 hb6
        have hbt6 : Below w.heap.size w w6 := below_call HB.out.drew HB.out.size hb6
        have hG6 := HG.out.below hbt6 HG.out.lt
        have hH6 := HH.out.below hbt6 HH.out.lt
        refine hK _ _ (by repeat (first | exact PF.owes_nil | refine PF.owes_left ?_ | refine PF.owes_no (by decide +kernel) ?_ | refine PF.owes_yes (by first | exact hG6 | exact hH6 | exact hG7 | exact hH7 | exact hG8 | exact hH8 | assumption) ?_)) ?_
        clear hK K
        try simp only [Act.put, pz0, pz1, pz2]
        refine PF.pf_exec 9 (by kernel_rfl) rfl (by kernel_rfl) (fun K hK => ?_)
        refine wp_alloc_blk rfl zero_req ?_
        rintro g7 w7 hg7 hZ7 hb7
        have hgne : g6 ≠ g7 := by (have := hZ6.lt; omega)
        have hbl := HB.out.drew.size
        have hZL : w.heap.size ≤ g6 ∧ w.heap.size ≤ g7 := by (have := hbt6.size; constructor <;> omega)
        have hbt7 := below_call hbt6 hbt6.size hb7
        have hZ6b := hZ6.below hb7 hZ6.lt
        clear hZ6
        have hZ6 := hZ6b
        have hG7 := HG.out.below hbt7 HG.out.lt
        have hH7 := HH.out.below hbt7 HH.out.lt
        refine hK _ _ (by repeat (first | exact PF.owes_nil | refine PF.owes_left ?_ | refine PF.owes_no (by decide +kernel) ?_ | refine PF.owes_yes (by first | exact hG6 | exact hH6 | exact hG7 | exact hH7 | exact hG8 | exact hH8 | assumption) ?_)) ?_
        clear hK K
        try simp only [Act.put, pz0, pz1, pz2]
        refine PF.pf_exec 10 (by kernel_rfl) rfl (by kernel_rfl) (fun K hK => ?_)
        refine wp_store_blk (t := 35) rfl rfl rfl hZ6 rfl info_req (by intro v hv; simp only [List.mem_cons, List.not_mem_nil, or_false] at hv; rcases hv with rfl | rfl | rfl | rfl | rfl | rfl | rfl | rfl | rfl | rfl <;> rfl) ?_
        rintro w8 hS6 hm8
        have hZ7' := hZ7.mod hm8 (fun e => hgne e.symm)
        have hbt8 := hbt7.trans (hm8.to_below hbt7.size fun b hb e => by (have := hZL; have := hbl; omega))
        have hG8 := HG.out.below hbt8 HG.out.lt
        have hH8 := HH.out.below hbt8 HH.out.lt
        refine hK _ _ (by repeat (first | exact PF.owes_nil | refine PF.owes_left ?_ | refine PF.owes_no (by decide +kernel) ?_ | refine PF.owes_yes (by first | exact hG6 | exact hH6 | exact hG7 | exact hH7 | exact hG8 | exact hH8 | assumption) ?_)) ?_
        clear hK K
        try simp only [Act.put, pz0, pz1, pz2]
        refine PF.pf_exec 11 (by kernel_rfl) rfl (by kernel_rfl) (fun K hK => ?_)
        refine wp_store_blk (t := 35) rfl rfl rfl hZ7' rfl info_req (by intro v hv; simp only [List.mem_cons, List.not_mem_nil, or_false] at hv; rcases hv with rfl | rfl | rfl | rfl | rfl | rfl | rfl | rfl | rfl | rfl <;> rfl) ?_
        rintro w9 hS7 hm9
        have hS6' := hS6.mod hm9 hgne
        have hbt9 := hbt8.trans (hm9.to_below hbt8.size fun b hb e => by (have := hZL; have := hbl; omega))
        refine hK _ _ (by repeat (first | exact PF.owes_nil | refine PF.owes_left ?_ | refine PF.owes_no (by decide +kernel) ?_ | refine PF.owes_yes (by first | rfl | assumption | go_simp) ?_)) ?_
        clear hK K
        try simp only [Act.put, pz0, pz1, pz2]
        refine PF.pf_done (by kernel_rfl) ?_
        have p0 := hS6'.cell 0
        have p1 := hS6'.cell 1
        have p2 := hS6'.cell 2
        have p3 := hS6'.cell 3
        have p4 := hS6'.cell 4
        have p5 := hS6'.cell 5
        have p6 := hS6'.cell 6
        have p7 := hS6'.cell 7
        have p8 := hS6'.cell 8
        have p9 := hS6'.cell 9
        have q0 := hS7.cell 0
        have q1 := hS7.cell 1
        have q2 := hS7.cell 2
        have q3 := hS7.cell 3
        have q4 := hS7.cell 4
        have q5 := hS7.cell 5
        have q6 := hS7.cell 6
        have q7 := hS7.cell 7
        have q8 := hS7.cell 8
        have q9 := hS7.cell 9
        simp only [List.getElem?_toArray, List.getElem?_cons_zero, List.getElem?_cons_succ] at p0 p1 p2 p3 p4 p5 p6 p7 p8 p9 q0 q1 q2 q3 q4 q5 q6 q7 q8 q9
        have hcA := conv_str (P := Tryd.prog) (c := c) Tryd.underlying22 Tryd.underlying5 Tryd.underlying9 (HA.out.below hbt9) rfl
        have hcB := conv_str (P := Tryd.prog) (c := d) Tryd.underlying22 Tryd.underlying5 Tryd.underlying9 (HBY.out.below hbt9) rfl
        have HBT9 := Lib.hid hbt9
        clear hS6 hS7 hS6' hZ6 hZ7 hZ7' hm8 hm9 hbt6 hbt7 hbt8 hbt9 hG6 hH6 hG7 hH7 hG8 hH8 hb6 hb7 hg6 hg7 hgne hGr hHr hZL hbl
        go_wp2_with fail
        go_ret
        exact ⟨ret_bool (by symm; rw [decide_eq_false_iff_not]; exact fun h => HNE.out h.1.2.2.2.2.2.1), HBT9.out⟩
      -- number 9 first
      · refine PF.step_one rfl (by kernel_rfl) (fun K hK => ?_)
        refine wp_alloc_blk rfl zero_req ?_
        rintro g7 w6 hg7 hZ7 hb6
        have hbt6 : Below w.heap.size w w6 := below_call HB.out.drew HB.out.size hb6
        have hG6 := HG.out.below hbt6 HG.out.lt
        have hH6 := HH.out.below hbt6 HH.out.lt
        refine hK _ _ (by repeat (first | exact PF.owes_nil | refine PF.owes_left ?_ | refine PF.owes_no (by decide +kernel) ?_ | refine PF.owes_yes (by first | exact hG6 | exact hH6 | exact hG7 | exact hH7 | exact hG8 | exact hH8 | assumption) ?_)) ?_
        clear hK K
        try simp only [Act.put, pz0, pz1, pz2]
        refine PF.pf_exec 8 (by kernel_rfl) rfl (by kernel_rfl) (fun K hK => ?_)
        refine wp_alloc_blk rfl zero_req ?_
        rintro g6 w7 hg6 hZ6 hb7
        have hgne : g6 ≠ g7 := by (have := hZ7.lt; omega)
        have hbl := HB.out.drew.size
        have hZL : w.heap.size ≤ g6 ∧ w.heap.size ≤ g7 := by (have := hbt6.size; constructor <;> omega)
        have hbt7 := below_call hbt6 hbt6.size hb7
        have hZ7b := hZ7.below hb7 hZ7.lt
        clear hZ7
        have hZ7 := hZ7b
        have hG7 := HG.out.below hbt7 HG.out.lt
        have hH7 := HH.out.below hbt7 HH.out.lt
        refine hK _ _ (by repeat (first | exact PF.owes_nil | refine PF.owes_left ?_ | refine PF.owes_no (by decide +kernel) ?_ | refine PF.owes_yes (by first | exact hG6 | exact hH6 | exact hG7 | exact hH7 | exact hG8 | exact hH8 | assumption) ?_)) ?_
        clear hK K
        try simp only [Act.put, pz0, pz1, pz2]
        refine PF.pf_exec 10 (by kernel_rfl) rfl (by kernel_rfl) (fun K hK => ?_)
        refine wp_store_blk (t := 35) rfl rfl rfl hZ6 rfl info_req (by intro v hv; simp only [List.mem_cons, List.not_mem_nil, or_false] at hv; rcases hv with rfl | rfl | rfl | rfl | rfl | rfl | rfl | rfl | rfl | rfl <;> rfl) ?_
        rintro w8 hS6 hm8
        have hZ7' := hZ7.mod hm8 (fun e => hgne e.symm)
        have hbt8 := hbt7.trans (hm8.to_below hbt7.size fun b hb e => by (have := hZL; have := hbl; omega))
        have hG8 := HG.out.below hbt8 HG.out.lt
        have hH8 := HH.out.below hbt8 HH.out.lt
        refine hK _ _ (by repeat (first | exact PF.owes_nil | refine PF.owes_left ?_ | refine PF.owes_no (by decide +kernel) ?_ | refine PF.owes_yes (by first | exact hG6 | exact hH6 | exact hG7 | exact hH7 | exact hG8 | exact hH8 | assumption) ?_)) ?_
        clear hK K
        try simp only [Act.put, pz0, pz1, pz2]
        refine PF.pf_exec 11 (by kernel_rfl) rfl (by kernel_rfl) (fun K hK => ?_)
        refine wp_store_blk (t := 35) rfl rfl rfl hZ7' rfl info_req (by intro v hv; simp only [List.mem_cons, List.not_mem_nil, or_false] at hv; rcases hv with rfl | rfl | rfl | rfl | rfl | rfl | rfl | rfl | rfl | rfl <;> rfl) ?_
        rintro w9 hS7 hm9
        have hS6' := hS6.mod hm9 hgne
        have hbt9 := hbt8.trans (hm9.to_below hbt8.size fun b hb e => by (have := hZL; have := hbl; omega))
        refine hK _ _ (by repeat (first | exact PF.owes_nil | refine PF.owes_left ?_ | refine PF.owes_no (by decide +kernel) ?_ | refine PF.owes_yes (by first | rfl | assumption | go_simp) ?_)) ?_
        clear hK K
        try simp only [Act.put, pz0, pz1, pz2]
        refine PF.pf_done (by kernel_rfl) ?_
        have p0 := hS6'.cell 0
        have p1 := hS6'.cell 1
        have p2 := hS6'.cell 2
        have p3 := hS6'.cell 3
        have p4 := hS6'.cell 4
        have p5 := hS6'.cell 5
        have p6 := hS6'.cell 6
        have p7 := hS6'.cell 7
        have p8 := hS6'.cell 8
        have p9 := hS6'.cell 9
        have q0 := hS7.cell 0
        have q1 := hS7.cell 1
        have q2 := hS7.cell 2
        have q3 := hS7.cell 3
        have q4 := hS7.cell 4
        have q5 := hS7.cell 5
        have q6 := hS7.cell 6
        have q7 := hS7.cell 7
        have q8 := hS7.cell 8
        have q9 := hS7.cell 9
        simp only [List.getElem?_toArray, List.getElem?_cons_zero, List.getElem?_cons_succ] at p0 p1 p2 p3 p4 p5 p6 p7 p8 p9 q0 q1 q2 q3 q4 q5 q6 q7 q8 q9
        have hcA := conv_str (P := Tryd.prog) (c := c) Tryd.underlying22 Tryd.underlying5 Tryd.underlying9 (HA.out.below hbt9) rfl
        have hcB := conv_str (P := Tryd.prog) (c := d) Tryd.underlying22 Tryd.underlying5 Tryd.underlying9 (HBY.out.below hbt9) rfl
        have HBT9 := Lib.hid hbt9
        clear hS6 hS7 hS6' hZ6 hZ7 hZ7' hm8 hm9 hbt6 hbt7 hbt8 hbt9 hG6 hH6 hG7 hH7 hG8 hH8 hb6 hb7 hg6 hg7 hgne hGr hHr hZL hbl
        go_wp2_with fail
        go_ret
        exact ⟨ret_bool (by symm; rw [decide_eq_false_iff_not]; exact fun h => HNE.out h.1.2.2.2.2.2.1), HBT9.out⟩
    · obtain rfl : k = 1 := by omega
      exact (hc rfl).elim
set_option maxRecDepth 100000 in
set_option maxHeartbeats 16000000 in
theorem dreqs_n6 {w : World} {a0 a1 a2 a3 a4 a5 a6 a7 b0 b1 b2 b3 b4 b5 b6 b7 : Int} {g h : Nat} {A B A2 B2 : Option Addr} {c d c2 d2 : Nat} {xs ys : List UInt8} {us vs : List Nat} (hG : Blk w g 35 #[.int .i64 a0, .int .u64 a1, .int .i64 a2, .int .u64 a3, .int .u64 a4, .int .u64 a5, .int .u64 a6, .int .i64 a7, .slice A xs.length c, .slice A2 us.length c2]) (hH : Blk w h 35 #[.int .i64 b0, .int .u64 b1, .int .i64 b2, .int .u64 b3, .int .u64 b4, .int .u64 b5, .int .u64 b6, .int .i64 b7, .slice B ys.length d, .slice B2 vs.length d2]) (hA : Bytes w A xs) (hB : Bytes w B ys) (hab : a0 = b0 ∧ a1 = b1 ∧ a2 = b2 ∧ a3 = b3 ∧ a4 = b4 ∧ a5 = b5) (hne : a6 ≠ b6) :
    Calls Tryd.prog 33 #[.slice (some ⟨g, 0, none⟩) 1 1, .slice (some ⟨h, 0, none⟩) 1 1] w fun e w' => e = .returned (.bool (decide ((a0 = b0 ∧ a1 = b1 ∧ a2 = b2 ∧ a3 = b3 ∧ a4 = b4 ∧ a5 = b5 ∧ a6 = b6 ∧ a7 = b7) ∧ xs = ys ∧ us.length = vs.length))) ∧ Below w.heap.size w w' := by
  obtain ⟨rfl, rfl, rfl, rfl, rfl, rfl⟩ := hab
  have hn1 : (a6 != b6) = true := by rw [bne_iff_ne]; exact hne
  have HNE := Lib.hid hne
  clear hne
  have hneq := pla_neq
  have hg2 := pla_guard
  have HG := Lib.hid hG
  have HH := Lib.hid hH
  have HA := Lib.hid hA
  have HBY := Lib.hid hB
  have HW : Hid (Below w.heap.size w w) := Below.refl _ _
  clear hG hH hA hB
  go_enter Tryd.func33, Tryd.ntmps33
  go_wp2_with fail
  go_loopw [5] (fun i wr => ∃ k : Nat, k ≤ 1 ∧ i = .int .i64 k ∧ Below w.heap.size w wr ∧ (k = 1 → False)) (fun i _ => 1 - (intOf i).toNat)
  case atStart => exact ⟨0, by omega, rfl, Below.refl _ _, fun h => by omega⟩
  case round =>
    obtain ⟨k, hk, rfl, hb, hc⟩ := hrel
    by_cases hlt : k < 1
    · obtain rfl : k = 0 := by omega
      have HB := Lib.hid hb
      have hGr := HG.out.below hb HG.out.lt
      have hHr := HH.out.below hb HH.out.lt
      clear hb hc hlt hk
      go_wp2_with fail
      refine PF.pf_begin (by kernel_rfl) ?_
      refine PF.pf_take0 0 (by kernel_rfl) rfl (fun _ _ _ _ _ h => h) (by kernel_rfl) (fun u => by go_simp; try rfl) ?_
      try simp only [Act.put, pz0, pz1, pz2]
      refine PF.pf_take0 1 (by kernel_rfl) rfl (fun _ _ _ _ _ h => h) (by kernel_rfl) (fun u => by go_simp; try rfl) ?_
      try simp only [Act.put, pz0, pz1, pz2]
      refine PF.pf_take0 2 (by kernel_rfl) rfl (fun _ _ _ _ _ h => h) (by kernel_rfl) (fun u => by go_simp; try rfl) ?_
      try simp only [Act.put, pz0, pz1, pz2]
      refine PF.pf_take1 3 (fun u => Blk u g 35 #[.int .i64 a0, .int .u64 a1, .int .i64 a2, .int .u64 a3, .int .u64 a4, .int .u64 a5, .int .u64 a6, .int .i64 a7, .slice A xs.length c, .slice A2 us.length c2]) (by kernel_rfl) rfl (fun _ _ _ _ _ h => h) (by kernel_rfl) (hGr) (fun u hu => by (exact exec_load_blk rfl rfl hu Tryd.underlying35 rfl info_req)) ?_
      try simp only [Act.put, pz0, pz1, pz2]
      refine PF.pf_take0 4 (by kernel_rfl) rfl (fun _ _ _ _ _ h => h) (by kernel_rfl) (fun u => by go_simp; try rfl) ?_
      try simp only [Act.put, pz0, pz1, pz2]
      refine PF.pf_take0 5 (by kernel_rfl) rfl (fun _ _ _ _ _ h => h) (by kernel_rfl) (fun u => by go_simp; try rfl) ?_
      try simp only [Act.put, pz0, pz1, pz2]
      refine PF.pf_take0 6 (by kernel_rfl) rfl (fun _ _ _ _ _ h => h) (by kernel_rfl) (fun u => by go_simp; try rfl) ?_
      try simp only [Act.put, pz0, pz1, pz2]
      refine PF.pf_take1 7 (fun u => Blk u h 35 #[.int .i64 a0, .int .u64 a1, .int .i64 a2, .int .u64 a3, .int .u64 a4, .int .u64 a5, .int .u64 b6, .int .i64 b7, .slice B ys.length d, .slice B2 vs.length d2]) (by kernel_rfl) rfl (fun _ _ _ _ _ h => h) (by kernel_rfl) (hHr) (fun u hu => by (exact exec_load_blk rfl rfl hu Tryd.underlying35 rfl info_req)) ?_
      try simp only [Act.put, pz0, pz1, pz2]
      refine PF.pf_fork [8, 9] (by kernel_rfl) rfl (PF.fork_cons ?_ (PF.fork_cons ?_ PF.fork_nil))
      -- number 8 first
      · refine PF.step_one rfl (by kernel_rfl) (fun K hK => ?_)
        refine wp_alloc_blk rfl zero_req ?_
        rintro g6 w6 hg6 hZ6 hb6
        have hbt6 : Below w.heap.size w w6 := below_call HB.out.drew HB.out.size hb6
        have hG6 := HG.out.below hbt6 HG.out.lt
        have hH6 := HH.out.below hbt6 HH.out.lt
        refine hK _ _ (by repeat (first | exact PF.owes_nil | refine PF.owes_left ?_ | refine PF.owes_no (by decide +kernel) ?_ | refine PF.owes_yes (by first | exact hG6 | exact hH6 | exact hG7 | exact hH7 | exact hG8 | exact hH8 | assumption) ?_)) ?_
        clear hK K
        try simp only [Act.put, pz0, pz1, pz2]
        refine PF.pf_exec 9 (by kernel_rfl) rfl (by kernel_rfl) (fun K hK => ?_)
        refine wp_alloc_blk rfl zero_req ?_
        rintro g7 w7 hg7 hZ7 hb7
        have hgne : g6 ≠ g7 := by (have := hZ6.lt; omega)
        have hbl := HB.out.drew.size
        have hZL : w.heap.size ≤ g6 ∧ w.heap.size ≤ g7 := by (have := hbt6.size; constructor <;> omega)
        have hbt7 := below_call hbt6 hbt6.size hb7
        have hZ6b := hZ6.below hb7 hZ6.lt
        clear hZ6
        have hZ6 := hZ6b
        have hG7 := HG.out.below hbt7 HG.out.lt
        have hH7 := HH.out.below hbt7 HH.out.lt
        refine hK _ _ (by repeat (first | exact PF.owes_nil | refine PF.owes_left ?_ | refine PF.owes_no (by decide +kernel) ?_ | refine PF.owes_yes (by first | exact hG6 | exact hH6 | exact hG7 | exact hH7 | exact hG8 | exact hH8 | assumption) ?_)) ?_
        clear hK K
        try simp only [Act.put, pz0, pz1, pz2]
        refine PF.pf_exec 10 (by kernel_rfl) rfl (by kernel_rfl) (fun K hK => ?_)
        refine wp_store_blk (t := 35) rfl rfl rfl hZ6 rfl info_req (by intro v hv; simp only [List.mem_cons, List.not_mem_nil, or_false] at hv; rcases hv with rfl | rfl | rfl | rfl | rfl | rfl | rfl | rfl | rfl | rfl <;> rfl) ?_
        rintro w8 hS6 hm8
        have hZ7' := hZ7.mod hm8 (fun e => hgne e.symm)
        have hbt8 := hbt7.trans (hm8.to_below hbt7.size fun b hb e => by (have := hZL; have := hbl; omega))
        have hG8 := HG.out.below hbt8 HG.out.lt
        have hH8 := HH.out.below hbt8 HH.out.lt
        refine hK _ _ (by repeat (first | exact PF.owes_nil | refine PF.owes_left ?_ | refine PF.owes_no (by decide +kernel) ?_ | refine PF.owes_yes (by first | exact hG6 | exact hH6 | exact hG7 | exact hH7 | exact hG8 | exact hH8 | assumption) ?_)) ?_
        clear hK K
        try simp only [Act.put, pz0, pz1, pz2]
        refine PF.pf_exec 11 (by kernel_rfl) rfl (by kernel_rfl) (fun K hK => ?_)
        refine wp_store_blk (t := 35) rfl rfl rfl hZ7' rfl info_req (by intro v hv; simp only [List.mem_cons, List.not_mem_nil, or_false] at hv; rcases hv with rfl | rfl | rfl | rfl | rfl | rfl | rfl | rfl | rfl | rfl <;> rfl) ?_
        rintro w9 hS7 hm9
        have hS6' := hS6.mod hm9 hgne
        have hbt9 := hbt8.trans (hm9.to_below hbt8.size fun b hb e => by (have := hZL; have := hbl; omega))
        refine hK _ _ (by repeat (first | exact PF.owes_nil | refine PF.owes_left ?_ | refine PF.owes_no (by decide +kernel) ?_ | refine PF.owes_yes (by first | rfl | assumption | go_simp) ?_)) ?_
        clear hK K
        try simp only [Act.put, pz0, pz1, pz2]
        refine PF.pf_done (by kernel_rfl) ?_
        have p0 := hS6'.cell 0
        have p1 := hS6'.cell 1
        have p2 := hS6'.cell 2
        have p3 := hS6'.cell 3
        have p4 := hS6'.cell 4
        have p5 := hS6'.cell 5
        have p6 := hS6'.cell 6
        have p7 := hS6'.cell 7
        have p8 := hS6'.cell 8
        have p9 := hS6'.cell 9
        have q0 := hS7.cell 0
        have q1 := hS7.cell 1
        have q2 := hS7.cell 2
        have q3 := hS7.cell 3
        have q4 := hS7.cell 4
        have q5 := hS7.cell 5
        have q6 := hS7.cell 6
        have q7 := hS7.cell 7
        have q8 := hS7.cell 8
        have q9 := hS7.cell 9
        simp only [List.getElem?_toArray, List.getElem?_cons_zero, List.getElem?_cons_succ] at p0 p1 p2 p3 p4 p5 p6 p7 p8 p9 q0 q1 q2 q3 q4 q5 q6 q7 q8 q9
        have hcA := conv_str (P := Tryd.prog) (c := c) Tryd.underlying22 Tryd.underlying5 Tryd.underlying9 (HA.out.below hbt9) rfl
        have hcB := conv_str (P := Tryd.prog) (c := d) Tryd.underlying22 Tryd.underlying5 Tryd.underlying9 (HBY.out.below hbt9) rfl
        have HBT9 := Lib.hid hbt9
        clear hS6 hS7 hS6' hZ6 hZ7 hZ7' hm8 hm9 hbt6 hbt7 hbt8 hbt9 hG6 hH6 hG7 hH7 hG8 hH8 hb6 hb7 hg6 hg7 hgne hGr hHr hZL hbl
        go_wp2_with fail
        go_ret
        exact ⟨ret_bool (by symm; rw [decide_eq_false_iff_not]; exact fun h => HNE.out h.1.2.2.2.2.2.2.1), HBT9.out⟩
      -- number 9 first
      · refine PF.step_one rfl (by kernel_rfl) (fun K hK => ?_)
        refine wp_alloc_blk rfl zero_req ?_
        rintro g7 w6 hg7 hZ7 hb6
        have hbt6 : Below w.heap.size w w6 := below_call HB.out.drew HB.out.size hb6
        have hG6 := HG.out.below hbt6 HG.out.lt
        have hH6 := HH.out.below hbt6 HH.out.lt
        refine hK _ _ (by repeat (first | exact PF.owes_nil | refine PF.owes_left ?_ | refine PF.owes_no (by decide +kernel) ?_ | refine PF.owes_yes (by first | exact hG6 | exact hH6 | exact hG7 | exact hH7 | exact hG8 | exact hH8 | assumption) ?_)) ?_
        clear hK K
        try simp only [Act.put, pz0, pz1, pz2]
        refine PF.pf_exec 8 (by kernel_rfl) rfl (by kernel_rfl) (fun K hK => ?_)
        refine wp_alloc_blk rfl zero_req ?_
        rintro g6 w7 hg6 hZ6 hb7
        have hgne : g6 ≠ g7 := by (have := hZ7.lt; omega)
        have hbl := HB.out.drew.size
        have hZL : w.heap.size ≤ g6 ∧ w.heap.size ≤ g7 := by (have := hbt6.size; constructor <;> omega)
        have hbt7 := below_call hbt6 hbt6.size hb7
        have hZ7b := hZ7.below hb7 hZ7.lt
        clear hZ7
        have hZ7 := hZ7b
        have hG7 := HG.out.below hbt7 HG.out.lt
        have hH7 := HH.out.below hbt7 HH.out.lt
        refine hK _ _ (by repeat (first | exact PF.owes_nil | refine PF.owes_left ?_ | refine PF.owes_no (by decide +kernel) ?_ | refine PF.owes_yes (by first | exact hG6 | exact hH6 | exact hG7 | exact hH7 | exact hG8 | exact hH8 | assumption) ?_)) ?_
        clear hK K
        try simp only [Act.put, pz0, pz1, pz2]
        refine PF.pf_exec 10 (by kernel_rfl) rfl (by kernel_rfl) (fun K hK => ?_)
        refine wp_store_blk (t := 35) rfl rfl rfl hZ6 rfl info_req (by intro v hv; simp only [List.mem_cons, List.not_mem_nil, or_false] at hv; rcases hv with rfl | rfl | rfl | rfl | rfl | rfl | rfl | rfl | rfl | rfl <;> rfl) ?_
        rintro w8 hS6 hm8
        have hZ7' := hZ7.mod hm8 (fun e => hgne e.symm)
        have hbt8 := hbt7.trans (hm8.to_below hbt7.size fun b hb e => by (have := hZL; have := hbl; omega))
        have hG8 := HG.out.below hbt8 HG.out.lt
        have hH8 := HH.out.below hbt8 HH.out.lt
        refine hK _ _ (by repeat (first | exact PF.owes_nil | refine PF.owes_left ?_ | refine PF.owes_no (by decide +kernel) ?_ | refine PF.owes_yes (by first | exact hG6 | exact hH6 | exact hG7 | exact hH7 | exact hG8 | exact hH8 | assumption) ?_)) ?_
        clear hK K
        try simp only [Act.put, pz0, pz1, pz2]
        refine PF.pf_exec 11 (by kernel_rfl) rfl (by kernel_rfl) (fun K hK => ?_)
        refine wp_store_blk (t := 35) rfl rfl rfl hZ7' rfl info_req (by intro v hv; simp only [List.mem_cons, List.not_mem_nil, or_false] at hv; rcases hv with rfl | rfl | rfl | rfl | rfl | rfl | rfl | rfl | rfl | rfl <;> rfl) ?_
        rintro w9 hS7 hm9
        have hS6' := hS6.mod hm9 hgne
        have hbt9 := hbt8.trans (hm9.to_below hbt8.size fun b hb e => by (have := hZL; have := hbl; omega))
        refine hK _ _ (by repeat (first | exact PF.owes_nil | refine PF.owes_left ?_ | refine PF.owes_no (by decide +kernel) ?_ | refine PF.owes_yes (by first | rfl | assumption | go_simp) ?_)) ?_
        clear hK K
        try simp only [Act.put, pz0, pz1, pz2]
        refine PF.pf_done (by kernel_rfl) ?_
        have p0 := hS6'.cell 0
        have p1 := hS6'.cell 1
        have p2 := hS6'.cell 2
        have p3 := hS6'.cell 3
        have p4 := hS6'.cell 4
        have p5 := hS6'.cell 5
        have p6 := hS6'.cell 6
        have p7 := hS6'.cell 7
        have p8 := hS6'.cell 8
        have p9 := hS6'.cell 9
        have q0 := hS7.cell 0
        have q1 := hS7.cell 1
        have q2 := hS7.cell 2
        have q3 := hS7.cell 3
        have q4 := hS7.cell 4
        have q5 := hS7.cell 5
        have q6 := hS7.cell 6
        have q7 := hS7.cell 7
        have q8 := hS7.cell 8
        have q9 := hS7.cell 9
        simp only [List.getElem?_toArray, List.getElem?_cons_zero, List.getElem?_cons_succ] at p0 p1 p2 p3 p4 p5 p6 p7 p8 p9 q0 q1 q2 q3 q4 q5 q6 q7 q8 q9
        have hcA := conv_str (P := Tryd.prog) (c := c) Tryd.underlying22 Tryd.underlying5 Tryd.underlying9 (HA.out.below hbt9) rfl
        have hcB := conv_str (P := Tryd.prog) (c := d) Tryd.underlying22 Tryd.underlying5 Tryd.underlying9 (HBY.out.below hbt9) rfl
        have HBT9 := Lib.hid hbt9
        clear hS6 hS7 hS6' hZ6 hZ7 hZ7' hm8 hm9 hbt6 hbt7 hbt8 hbt9 hG6 hH6 hG7 hH7 hG8 hH8 hb6 hb7 hg6 hg7 hgne hGr hHr hZL hbl
        go_wp2_with fail
        go_ret
        exact ⟨ret_bool (by symm; rw [decide_eq_false_iff_not]; exact fun h => HNE.out h.1.2.2.2.2.2.2.1), HBT9.out⟩
    · obtain rfl : k = 1 := by omega
      exact (hc rfl).elim
set_option maxRecDepth 100000 in
set_option maxHeartbeats 16000000 in
theorem dreqs_n7 {w : World} {a0 a1 a2 a3 a4 a5 a6 a7 b0 b1 b2 b3 b4 b5 b6 b7 : Int} {g h : Nat} {A B A2 B2 : Option Addr} {c d c2 d2 : Nat} {xs ys : List UInt8} {us vs : List Nat} (hG : Blk w g 35 #[.int .i64 a0, .int .u64 a1, .int .i64 a2, .int .u64 a3, .int .u64 a4, .int .u64 a5, .int .u64 a6, .int .i64 a7, .slice A xs.length c, .slice A2 us.length c2]) (hH : Blk w h 35 #[.int .i64 b0, .int .u64 b1, .int .i64 b2, .int .u64 b3, .int .u64 b4, .int .u64 b5, .int .u64 b6, .int .i64 b7, .slice B ys.length d, .slice B2 vs.length d2]) (hA : Bytes w A xs) (hB : Bytes w B ys) (hab : a0 = b0 ∧ a1 = b1 ∧ a2 = b2 ∧ a3 = b3 ∧ a4 = b4 ∧ a5 = b5 ∧ a6 = b6) (hne : a7 ≠ b7) :
    Calls Tryd.prog 33 #[.slice (some ⟨g, 0, none⟩) 1 1, .slice (some ⟨h, 0, none⟩) 1 1] w fun e w' => e = .returned (.bool (decide ((a0 = b0 ∧ a1 = b1 ∧ a2 = b2 ∧ a3 = b3 ∧ a4 = b4 ∧ a5 = b5 ∧ a6 = b6 ∧ a7 = b7) ∧ xs = ys ∧ us.length = vs.length))) ∧ Below w.heap.size w w' := by
  obtain ⟨rfl, rfl, rfl, rfl, rfl, rfl, rfl⟩ := hab
  have hn1 : (a7 != b7) = true := by rw [bne_iff_ne]; exact hne
  have HNE := Lib.hid hne
  clear hne
  have hneq := pla_neq
  have hg2 := pla_guard
  have HG := Lib.hid hG
  have HH := Lib.hid hH
  have HA := Lib.hid hA
  have HBY := Lib.hid hB
  have HW : Hid (Below w.heap.size w w) := Below.refl _ _
  clear hG hH hA hB
  go_enter Tryd.func33, Tryd.ntmps33
  go_wp2_with fail
  go_loopw [5] (fun i wr => ∃ k : Nat, k ≤ 1 ∧ i = .int .i64 k ∧ Below w.heap.size w wr ∧ (k = 1 → False)) (fun i _ => 1 - (intOf i).toNat)
  case atStart => exact ⟨0, by omega, rfl, Below.refl _ _, fun h => by omega⟩
  case round =>
    obtain ⟨k, hk, rfl, hb, hc⟩ := hrel
    by_cases hlt : k < 1
    · obtain rfl : k = 0 := by omega
      have HB := Lib.hid hb
      have hGr := HG.out.below hb HG.out.lt
      have hHr := HH.out.below hb HH.out.lt
      clear hb hc hlt hk
      go_wp2_with fail
      refine PF.pf_begin (by kernel_rfl) ?_
      refine PF.pf_take0 0 (by kernel_rfl) rfl (fun _ _ _ _ _ h => h) (by kernel_rfl) (fun u => by go_simp; try rfl) ?_
      try simp only [Act.put, pz0, pz1, pz2]
      refine PF.pf_take0 1 (by kernel_rfl) rfl (fun _ _ _ _ _ h => h) (by kernel_rfl) (fun u => by go_simp; try rfl) ?_
      try simp only [Act.put, pz0, pz1, pz2]
      refine PF.pf_take0 2 (by kernel_rfl) rfl (fun _ _ _ _ _ h => h) (by kernel_rfl) (fun u => by go_simp; try rfl) ?_
      try simp only [Act.put, pz0, pz1, pz2]
      refine PF.pf_take1 3 (fun u => Blk u g 35 #[.int .i64 a0, .int .u64 a1, .int .i64 a2, .int .u64 a3, .int .u64 a4, .int .u64 a5, .int .u64 a6, .int .i64 a7, .slice A xs.length c, .slice A2 us.length c2]) (by kernel_rfl) rfl (fun _ _ _ _ _ h => h) (by kernel_rfl) (hGr) (fun u hu => by (exact exec_load_blk rfl rfl hu Tryd.underlying35 rfl info_req)) ?_
      try simp only [Act.put, pz0, pz1, pz2]
      refine PF.pf_take0 4 (by kernel_rfl) rfl (fun _ _ _ _ _ h => h) (by kernel_rfl) (fun u => by go_simp; try rfl) ?_
      try simp only [Act.put, pz0, pz1, pz2]
      refine PF.pf_take0 5 (by kernel_rfl) rfl (fun _ _ _ _ _ h => h) (by kernel_rfl) (fun u => by go_simp; try rfl) ?_
      try simp only [Act.put, pz0, pz1, pz2]
      refine PF.pf_take0 6 (by kernel_rfl) rfl (fun _ _ _ _ _ h => h) (by kernel_rfl) (fun u => by go_simp; try rfl) ?_
      try simp only [Act.put, pz0, pz1, pz2]
      refine PF.pf_take1 7 (fun u => Blk u h 35 #[.int .i64 a0, .int .u64 a1, .int .i64 a2, .int .u64 a3, .int .u64 a4, .int .u64 a5, .int .u64 a6, .int .i64 b7, .slice B ys.length d, .slice B2 vs.length d2]) (by kernel_rfl) rfl (fun _ _ _ _ _ h => h) (by kernel_rfl) (hHr) (fun u hu => by (exact exec_load_blk rfl rfl hu Tryd.underlying35 rfl info_req)) ?_
      try simp only [Act.put, pz0, pz1, pz2]
      refine PF.pf_fork [8, 9] (by kernel_rfl) rfl (PF.fork_cons ?_ (PF.fork_cons ?_ PF.fork_nil))
      -- number 8 first
      · refine PF.step_one rfl (by kernel_rfl) (fun K hK => ?_)
        refine wp_alloc_blk rfl zero_req ?_
        rintro g6 w6 hg6 hZ6 hb6
        have hbt6 : Below w.heap.size w w6 := below_call HB.out.drew HB.out.size hb6
        have hG6 := HG.out.below hbt6 HG.out.lt
        have hH6 := HH.out.below hbt6 HH.out.lt
        refine hK _ _ (by repeat (first | exact PF.owes_nil | refine PF.owes_left ?_ | refine PF.owes_no (by decide +kernel) ?_ | refine PF.owes_yes (by first | exact hG6 | exact hH6 | exact hG7 | exact hH7 | exact hG8 | exact hH8 | assumption) ?_)) ?_
        clear hK K
        try simp only [Act.put, pz0, pz1, pz2]
        refine PF.pf_exec 9 (by kernel_rfl) rfl (by kernel_rfl) (fun K hK => ?_)
        refine wp_alloc_blk rfl zero_req ?_
        rintro g7 w7 hg7 hZ7 hb7
        have hgne : g6 ≠ g7 := by (have := hZ6.lt; omega)
        have hbl := HB.out.drew.size
        have hZL : w.heap.size ≤ g6 ∧ w.heap.size ≤ g7 := by (have := hbt6.size; constructor <;> omega)
        have hbt7 := below_call hbt6 hbt6.size hb7
        have hZ6b := hZ6.below hb7 hZ6.lt
        clear hZ6
        have hZ6 := hZ6b
        have hG7 := HG.out.below hbt7 HG.out.lt
        have hH7 := HH.out.below hbt7 HH.out.lt
        refine hK _ _ (by repeat (first | exact PF.owes_nil | refine PF.owes_left ?_ | refine PF.owes_no (by decide +kernel) ?_ | refine PF.owes_yes (by first | exact hG6 | exact hH6 | exact hG7 | exact hH7 | exact hG8 | exact hH8 | assumption) ?_)) ?_
        clear hK K
        try simp only [Act.put, pz0, pz1, pz2]
        refine PF.pf_exec 10 (by kernel_rfl) rfl (by kernel_rfl) (fun K hK => ?_)
        refine wp_store_blk (t := 35) rfl rfl rfl hZ6 rfl info_req (by intro v hv; simp only [List.mem_cons, List.not_mem_nil, or_false] at hv; rcases hv with rfl | rfl | rfl | rfl | rfl | rfl | rfl | rfl | rfl | rfl <;> rfl) ?_
        rintro w8 hS6 hm8
        have hZ7' := hZ7.mod hm8 (fun e => hgne e.symm)
        have hbt8 := hbt7.trans (hm8.to_below hbt7.size fun b hb e => by (have := hZL; have := hbl; omega))
        have hG8 := HG.out.below hbt8 HG.out.lt
        have hH8 := HH.out.below hbt8 HH.out.lt
        refine hK _ _ (by repeat (first | exact PF.owes_nil | refine PF.owes_left ?_ | refine PF.owes_no (by decide +kernel) ?_ | refine PF.owes_yes (by first | exact hG6 | exact hH6 | exact hG7 | exact hH7 | exact hG8 | exact hH8 | assumption) ?_)) ?_
        clear hK K
        try simp only [Act.put, pz0, pz1, pz2]
        refine PF.pf_exec 11 (by kernel_rfl) rfl (by kernel_rfl) (fun K hK => ?_)
        refine wp_store_blk (t := 35) rfl rfl rfl hZ7' rfl info_req (by intro v hv; simp only [List.mem_cons, List.not_mem_nil, or_false] at hv; rcases hv with rfl | rfl | rfl | rfl | rfl | rfl | rfl | rfl | rfl | rfl <;> rfl) ?_
        rintro w9 hS7 hm9
        have hS6' := hS6.mod hm9 hgne
        have hbt9 := hbt8.trans (hm9.to_below hbt8.size fun b hb e => by (have := hZL; have := hbl; omega))
        refine hK _ _ (by repeat (first | exact PF.owes_nil | refine PF.owes_left ?_ | refine PF.owes_no (by decide +kernel) ?_ | refine PF.owes_yes (by first | rfl | assumption | go_simp) ?_)) ?_
        clear hK K
        try simp only [Act.put, pz0, pz1, pz2]
        refine PF.pf_done (by kernel_rfl) ?_
        have p0 := hS6'.cell 0
        have p1 := hS6'.cell 1
        have p2 := hS6'.cell 2
        have p3 := hS6'.cell 3
        have p4 := hS6'.cell 4
        have p5 := hS6'.cell 5
        have p6 := hS6'.cell 6
        have p7 := hS6'.cell 7
        have p8 := hS6'.cell 8
        have p9 := hS6'.cell 9
        have q0 := hS7.cell 0
        have q1 := hS7.cell 1
        have q2 := hS7.cell 2
        have q3 := hS7.cell 3
        have q4 := hS7.cell 4
        have q5 := hS7.cell 5
        have q6 := hS7.cell 6
        have q7 := hS7.cell 7
        have q8 := hS7.cell 8
        have q9 := hS7.cell 9
        simp only [List.getElem?_toArray, List.getElem?_cons_zero, List.getElem?_cons_succ] at p0 p1 p2 p3 p4 p5 p6 p7 p8 p9 q0 q1 q2 q3 q4 q5 q6 q7 q8 q9
        have hcA := conv_str (P := Tryd.prog) (c := c) Tryd.underlying22 Tryd.underlying5 Tryd.underlying9 (HA.out.below hbt9) rfl
        have hcB := conv_str (P := Tryd.prog) (c := d) Tryd.underlying22 Tryd.underlying5 Tryd.underlying9 (HBY.out.below hbt9) rfl
        have HBT9 := Lib.hid hbt9
        clear hS6 hS7 hS6' hZ6 hZ7 hZ7' hm8 hm9 hbt6 hbt7 hbt8 hbt9 hG6 hH6 hG7 hH7 hG8 hH8 hb6 hb7 hg6 hg7 hgne hGr hHr hZL hbl
        go_wp2_with fail
        go_ret
        exact ⟨ret_bool (by symm; rw [decide_eq_false_iff_not]; exact fun h => HNE.out h.1.2.2.2.2.2.2.2), HBT9.out⟩
      -- number 9 first
      · refine PF.step_one rfl (by kernel_rfl) (fun K hK => ?_)
        refine wp_alloc_blk rfl zero_req ?_
        rintro g7 w6 hg7 hZ7 hb6
        have hbt6 : Below w.heap.size w w6 := below_call HB.out.drew HB.out.size hb6
        have hG6 := HG.out.below hbt6 HG.out.lt
        have hH6 := HH.out.below hbt6 HH.out.lt
        refine hK _ _ (by repeat (first | exact PF.owes_nil | refine PF.owes_left ?_ | refine PF.owes_no (by decide +kernel) ?_ | refine PF.owes_yes (by first | exact hG6 | exact hH6 | exact hG7 | exact hH7 | exact hG8 | exact hH8 | assumption) ?_)) ?_
        clear hK K
        try simp only [Act.put, pz0, pz1, pz2]
        refine PF.pf_exec 8 (by kernel_rfl) rfl (by kernel_rfl) (fun K hK => ?_)
        refine wp_alloc_blk rfl zero_req ?_
        rintro g6 w7 hg6 hZ6 hb7
        have hgne : g6 ≠ g7 := by (have := hZ7.lt; omega)
        have hbl := HB.out.drew.size
        have hZL : w.heap.size ≤ g6 ∧ w.heap.size ≤ g7 := by (have := hbt6.size; constructor <;> omega)
        have hbt7 := below_call hbt6 hbt6.size hb7
        have hZ7b := hZ7.below hb7 hZ7.lt
        clear hZ7
        have hZ7 := hZ7b
        have hG7 := HG.out.below hbt7 HG.out.lt
        have hH7 := HH.out.below hbt7 HH.out.lt
        refine hK _ _ (by repeat (first | exact PF.owes_nil | refine PF.owes_left ?_ | refine PF.owes_no (by decide +kernel) ?_ | refine PF.owes_yes (by first | exact hG6 | exact hH6 | exact hG7 | exact hH7 | exact hG8 | exact hH8 | assumption) ?_)) ?_
        clear hK K
        try simp only [Act.put, pz0, pz1, pz2]
        refine PF.pf_exec 10 (by kernel_rfl) rfl (by kernel_rfl) (fun K hK => ?_)
        refine wp_store_blk (t := 35) rfl rfl rfl hZ6 rfl info_req (by intro v hv; simp only [List.mem_cons, List.not_mem_nil, or_false] at hv; rcases hv with rfl | rfl | rfl | rfl | rfl | rfl | rfl | rfl | rfl | rfl <;> rfl) ?_
        rintro w8 hS6 hm8
        have hZ7' := hZ7.mod hm8 (fun e => hgne e.symm)
        have hbt8 := hbt7.trans (hm8.to_below hbt7.size fun b hb e => by (have := hZL; have := hbl; omega))
        have hG8 := HG.out.below hbt8 HG.out.lt
        have hH8 := HH.out.below hbt8 HH.out.lt
        refine hK _ _ (by repeat (first | exact PF.owes_nil | refine PF.owes_left ?_ | refine PF.owes_no (by decide +kernel) ?_ | refine PF.owes_yes (by first | exact hG6 | exact hH6 | exact hG7 | exact hH7 | exact hG8 | exact hH8 | assumption) ?_)) ?_
        clear hK K
        try simp only [Act.put, pz0, pz1, pz2]
        refine PF.pf_exec 11 (by kernel_rfl) rfl (by kernel_rfl) (fun K hK => ?_)
        refine wp_store_blk (t := 35) rfl rfl rfl hZ7' rfl info_req (by intro v hv; simp only [List.mem_cons, List.not_mem_nil, or_false] at hv; rcases hv with rfl | rfl | rfl | rfl | rfl | rfl | rfl | rfl | rfl | rfl <;> rfl) ?_
        rintro w9 hS7 hm9
        have hS6' := hS6.mod hm9 hgne
        have hbt9 := hbt8.trans (hm9.to_below hbt8.size fun b hb e => by (have := hZL; have := hbl; omega))
        refine hK _ _ (by repeat (first | exact PF.owes_nil | refine PF.owes_left ?_ | refine PF.owes_no (by decide +kernel) ?_ | refine PF.owes_yes (by first | rfl | assumption | go_simp) ?_)) ?_
        clear hK K
        try simp only [Act.put, pz0, pz1, pz2]
        refine PF.pf_done (by kernel_rfl) ?_
        have p0 := hS6'.cell 0
        have p1 := hS6'.cell 1
        have p2 := hS6'.cell 2
        have p3 := hS6'.cell 3
        have p4 := hS6'.cell 4
        have p5 := hS6'.cell 5
        have p6 := hS6'.cell 6
        have p7 := hS6'.cell 7
        have p8 := hS6'.cell 8
        have p9 := hS6'.cell 9
        have q0 := hS7.cell 0
        have q1 := hS7.cell 1
        have q2 := hS7.cell 2
        have q3 := hS7.cell 3
        have q4 := hS7.cell 4
        have q5 := hS7.cell 5
        have q6 := hS7.cell 6
        have q7 := hS7.cell 7
        have q8 := hS7.cell 8
        have q9 := hS7.cell 9
        simp only [List.getElem?_toArray, List.getElem?_cons_zero, List.getElem?_cons_succ] at p0 p1 p2 p3 p4 p5 p6 p7 p8 p9 q0 q1 q2 q3 q4 q5 q6 q7 q8 q9
        have hcA := conv_str (P := Tryd.prog) (c := c) Tryd.underlying22 Tryd.underlying5 Tryd.underlying9 (HA.out.below hbt9) rfl
        have hcB := conv_str (P := Tryd.prog) (c := d) Tryd.underlying22 Tryd.underlying5 Tryd.underlying9 (HBY.out.below hbt9) rfl
        have HBT9 := Lib.hid hbt9
        clear hS6 hS7 hS6' hZ6 hZ7 hZ7' hm8 hm9 hbt6 hbt7 hbt8 hbt9 hG6 hH6 hG7 hH7 hG8 hH8 hb6 hb7 hg6 hg7 hgne hGr hHr hZL hbl
        go_wp2_with fail
        go_ret
        exact ⟨ret_bool (by symm; rw [decide_eq_false_iff_not]; exact fun h => HNE.out h.1.2.2.2.2.2.2.2), HBT9.out⟩
    · obtain rfl : k = 1 := by omega
      exact (hc rfl).elim
end Go.Proofs.YtdckdjkkaangmaaDoor
