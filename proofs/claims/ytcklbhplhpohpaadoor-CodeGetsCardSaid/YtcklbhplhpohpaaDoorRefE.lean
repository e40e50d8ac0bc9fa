/- The document's reader: number, Uint, Text. -/
import Derived.Test.YtcklbhplhpohpaaDoorRefD
namespace Go.Proofs.YtcklbhplhpohpaaDoor
open Go.RowKit

def pairOf : Option (Nat × Nat) → Value
  | some (y, k) => .tuple #[.int .u64 (y : Int), .int .i64 (k : Int)]
  | none => .tuple #[.int .u64 0, .int .i64 0]
theorem val_drop {l : List UInt8} {k : Nat} (hk : 0 < k) (hl : k ≤ l.length) : val (l.drop (k - 1)) = (l[k - 1]'(by omega)).toNat % 128 + 128 * val (l.drop k) := by
  have hdr : l.drop (k - 1) = l[k - 1]'(by omega) :: l.drop k := by
    rw [List.drop_eq_getElem_cons (by omega)]
    congr 2
    omega
  rw [hdr]
  rfl
theorem acc128 (x d : Nat) : IntKind.u64.wrap (IntKind.u64.wrap (((x % 18446744073709551616 : Nat) : Int) * 128) + ((d % 128 : Nat) : Int)) = (((d % 128 + 128 * x) % 18446744073709551616 : Nat) : Int) := by
  rw [IntKind.wrap_u64, IntKind.wrap_u64]
  omega
set_option maxRecDepth 100000 in
set_option maxHeartbeats 2000000 in
theorem rnumber_any (base : Nat) (w : World) (m : Nat) (xs : List UInt8) (f : Bool) (h : Rf base w m xs f) :
    Calls Tryd.prog 54 #[.pointer (some ⟨m, 0, none⟩)] w fun e w' => e = .returned (pairOf (num xs 0)) ∧ Below w.heap.size w w' := by
  have HD := Lib.hid (rdigits_any base w m xs f h)
  have H := Lib.hid h
  obtain ⟨A, c, h1, h2, h3, h4, h5, h6⟩ := h
  have c0 : w.cell? ⟨m, 0, none⟩ = some (.slice A xs.length c) := h1.cell 0
  have hltm := h1.lt
  have HB := Lib.hid h2
  obtain ⟨n, hn⟩ : ∃ n, n = digitsN xs := ⟨_, rfl⟩
  have hnl := digitsN_le xs
  have hnum := refNum_eq xs
  unfold refNum at hnum
  rw [← hn] at hnum hnl HD
  have HN := Lib.hid hnum
  clear h1 h2 h6 hn hnum
  go_enter Tryd.func54, Tryd.ntmps54
  go_wp2_with fail
  refine HD.out.mono ?_
  rintro e w1 ⟨rfl, rfl⟩
  obtain ⟨hn1, hn10⟩ := hnl
  go_wp2_with fail
  go_loop [5, 6] (fun x i => ∃ k : Nat, k ≤ n ∧ i = .int .i64 k ∧ x = .int .u64 ((val ((xs.take n).drop k) % 18446744073709551616 : Nat) : Int)) (fun _ i => (intOf i).toNat)
  case atStart => exact ⟨n, Nat.le_refl _, rfl, by rw [List.drop_eq_nil_of_le (by rw [List.length_take]; omega)]; rfl⟩
  case round =>
    obtain ⟨k, hk, rfl, rfl⟩ := hrel
    by_cases h0 : 0 < k
    · obtain ⟨gb, o, rfl, hg, hcell⟩ := Bytes.flat HB.out (by omega)
      have b0 := hcell (k - 1) (by omega)
      have hv := val_drop (l := xs.take n) h0 (by rw [List.length_take]; omega)
      rw [List.getElem_take] at hv
      have HV := Lib.hid hv
      clear hcell hv
      generalize xs[k - 1] = d at b0 HV
      generalize val ((xs.take n).drop k) = x at HV
      have HACC := Lib.hid (acc128 x d.toNat)
      have hx64 : x % 18446744073709551616 < 18446744073709551616 := Nat.mod_lt _ (by decide)
      have hd1 : decide ((0 : Int) < (k : Int)) = true := by rw [decide_eq_true_iff]; omega
      have hd2 : decide (0 < k) = true := by rw [decide_eq_true_iff]; exact h0
      have hk1 : (k : Int) - 1 = ((k - 1 : Nat) : Int) := by omega
      have hd := d.toNat_lt
      generalize hy : x % 18446744073709551616 = y at HACC hx64
      have HY := Lib.hid hy
      clear hy
      go_wp2_with fail
      go_round
      case rel => exact ⟨k - 1, by omega, by go_num, by rw [HV.out, ← HACC.out]; go_num⟩
      case measure => simp [intOf]; omega
    · obtain rfl : k = 0 := by omega
      rw [List.drop_zero]
      generalize hy : val (xs.take n) % 18446744073709551616 = y at HN ⊢
      have hy64 : y < 18446744073709551616 := by rw [← hy]; exact Nat.mod_lt _ (by decide)
      clear hy
      by_cases hn0 : n = 0
      · have hb0 : ((n : Int) == 0) = true := by rw [beq_iff_eq]; omega
        have hnone : num xs 0 = none := by rw [← HN.out, if_pos hn0]
        have HNONE := Lib.hid hnone
        clear hn0 hnone
        go_wp2_with fail
        refine PF.pf_begin (by kernel_rfl) ?_
        refine PF.pf_take0 0 (by kernel_rfl) rfl (fun _ _ _ _ _ h => h) (by kernel_rfl) (fun u => by go_simp; try rfl) ?_
        try simp only [Act.put, List.setIfInBounds_toArray, List.set_cons_zero, List.set_cons_succ]
        refine PF.pf_take0 1 (by kernel_rfl) rfl (fun _ _ _ _ _ h => h) (by kernel_rfl) (fun u => by go_simp; try rfl) ?_
        try simp only [Act.put, List.setIfInBounds_toArray, List.set_cons_zero, List.set_cons_succ]
        refine PF.pf_take0 2 (by kernel_rfl) rfl (fun _ _ _ _ _ h => h) (by kernel_rfl) (fun u => by go_simp; try rfl) ?_
        try simp only [Act.put, List.setIfInBounds_toArray, List.set_cons_zero, List.set_cons_succ]
        refine PF.pf_skip0 3 (by kernel_rfl) rfl (fun _ _ _ _ _ h => h) (by kernel_rfl) ?_
        try simp only [Act.put, List.setIfInBounds_toArray, List.set_cons_zero, List.set_cons_succ]
        refine PF.pf_skip0 6 (by kernel_rfl) rfl (fun _ _ _ _ _ h => h) (by kernel_rfl) ?_
        try simp only [Act.put, List.setIfInBounds_toArray, List.set_cons_zero, List.set_cons_succ]
        refine PF.pf_skip0 7 (by kernel_rfl) rfl (fun _ _ _ _ _ h => h) (by kernel_rfl) ?_
        try simp only [Act.put, List.setIfInBounds_toArray, List.set_cons_zero, List.set_cons_succ]
        refine PF.pf_skip0 8 (by kernel_rfl) rfl (fun _ _ _ _ _ h => h) (by kernel_rfl) ?_
        try simp only [Act.put, List.setIfInBounds_toArray, List.set_cons_zero, List.set_cons_succ]
        refine PF.pf_skip0 9 (by kernel_rfl) rfl (fun _ _ _ _ _ h => h) (by kernel_rfl) ?_
        try simp only [Act.put, List.setIfInBounds_toArray, List.set_cons_zero, List.set_cons_succ]
        refine PF.pf_skip0 10 (by kernel_rfl) rfl (fun _ _ _ _ _ h => h) (by kernel_rfl) ?_
        try simp only [Act.put, List.setIfInBounds_toArray, List.set_cons_zero, List.set_cons_succ]
        refine PF.pf_skip0 11 (by kernel_rfl) rfl (fun _ _ _ _ _ h => h) (by kernel_rfl) ?_
        try simp only [Act.put, List.setIfInBounds_toArray, List.set_cons_zero, List.set_cons_succ]
        refine PF.pf_skip0 12 (by kernel_rfl) rfl (fun _ _ _ _ _ h => h) (by kernel_rfl) ?_
        try simp only [Act.put, List.setIfInBounds_toArray, List.set_cons_zero, List.set_cons_succ]
        refine PF.pf_skip 4 (by kernel_rfl) rfl (by kernel_rfl) ?_
        try simp only [Act.put, List.setIfInBounds_toArray, List.set_cons_zero, List.set_cons_succ]
        refine PF.pf_skip0 5 (by kernel_rfl) rfl (fun _ _ _ _ _ h => h) (by kernel_rfl) ?_
        try simp only [Act.put, List.setIfInBounds_toArray, List.set_cons_zero, List.set_cons_succ]
        refine PF.pf_skip0 13 (by kernel_rfl) rfl (fun _ _ _ _ _ h => h) (by kernel_rfl) ?_
        try simp only [Act.put, List.setIfInBounds_toArray, List.set_cons_zero, List.set_cons_succ]
        refine PF.pf_take0 14 (by kernel_rfl) rfl (fun _ _ _ _ _ h => h) (by kernel_rfl) (fun u => by go_simp; try rfl) ?_
        try simp only [Act.put, List.setIfInBounds_toArray, List.set_cons_zero, List.set_cons_succ]
        refine PF.pf_done (by kernel_rfl) ?_
        go_wp2_with fail
        go_ret2
        rw [HNONE.out]
        exact ⟨rfl, (Below.refl _ _).drew⟩
      · have hb0 : ((n : Int) == 0) = false := by rw [beq_eq_false_iff_ne]; omega
        have HSH := Lib.hid (rshort_any y hy64 w.drew)
        have hbk : Bytes w.drew A (xs.take n) := by
          have h : Bytes w.drew A xs := HB.out.below ((Below.refl _ _).drew)
          have := Reads.take h (k := n) hn1
          unfold Bytes
          rw [List.length_take, Nat.min_eq_left hn1, List.map_take]
          simpa using this
        have HBK := Lib.hid hbk
        have hlq : (xs.take n).length = n := by rw [List.length_take]; omega
        have hnc : (0 : Int) ≤ n ∧ (n : Int) ≤ c := by omega
        clear hbk
        by_cases heq : short y = xs.take n
        · have hneq : (!short y == xs.take n) = false := by rw [heq]; simp
          have HS : Hid (num xs 0 = some (y, n)) := by
            have := HN.out
            rw [if_neg hn0, if_pos heq] at this
            exact this.symm
          clear heq hn0
          go_wp2_with fail
          refine PF.pf_begin (by kernel_rfl) ?_
          refine PF.pf_take0 0 (by kernel_rfl) rfl (fun _ _ _ _ _ h => h) (by kernel_rfl) (fun u => by go_simp; try rfl) ?_
          try simp only [Act.put, List.setIfInBounds_toArray, List.set_cons_zero, List.set_cons_succ]
          refine PF.pf_take0 1 (by kernel_rfl) rfl (fun _ _ _ _ _ h => h) (by kernel_rfl) (fun u => by go_simp; try rfl) ?_
          try simp only [Act.put, List.setIfInBounds_toArray, List.set_cons_zero, List.set_cons_succ]
          refine PF.pf_take0 2 (by kernel_rfl) rfl (fun _ _ _ _ _ h => h) (by kernel_rfl) (fun u => by go_simp; try rfl) ?_
          try simp only [Act.put, List.setIfInBounds_toArray, List.set_cons_zero, List.set_cons_succ]
          refine PF.pf_take0 3 (by kernel_rfl) rfl (fun _ _ _ _ _ h => h) (by kernel_rfl) (fun u => by go_simp; try rfl) ?_
          try simp only [Act.put, List.setIfInBounds_toArray, List.set_cons_zero, List.set_cons_succ]
          refine PF.pf_take0 6 (by kernel_rfl) rfl (fun _ _ _ _ _ h => h) (by kernel_rfl) (fun u => by go_simp; try rfl) ?_
          try simp only [Act.put, List.setIfInBounds_toArray, List.set_cons_zero, List.set_cons_succ]
          refine PF.pf_take0 7 (by kernel_rfl) rfl (fun _ _ _ _ _ h => h) (by kernel_rfl) (fun u => by go_simp; try rfl) ?_
          try simp only [Act.put, List.setIfInBounds_toArray, List.set_cons_zero, List.set_cons_succ]
          refine PF.pf_take0 8 (by kernel_rfl) rfl (fun _ _ _ _ _ h => h) (by kernel_rfl) (fun u => by go_simp; try rfl) ?_
          try simp only [Act.put, List.setIfInBounds_toArray, List.set_cons_zero, List.set_cons_succ]
          refine PF.pf_take1 9 (PF.Same (m) _) (by kernel_rfl) rfl (fun _ _ _ _ _ h => h) (by kernel_rfl) (PF.Same.refl _ _) (fun u hu => by have hcu := hu.cell; go_simp; try rfl) ?_
          try simp only [Act.put, List.setIfInBounds_toArray, List.set_cons_zero, List.set_cons_succ]
          refine PF.pf_take0 10 (by kernel_rfl) rfl (fun _ _ _ _ _ h => h) (by kernel_rfl) (fun u => by go_simp; try rfl) ?_
          try simp only [Act.put, List.setIfInBounds_toArray, List.set_cons_zero, List.set_cons_succ]
          refine PF.pf_take0 11 (by kernel_rfl) rfl (fun _ _ _ _ _ h => h) (by kernel_rfl) (fun u => by go_simp; try rfl) ?_
          try simp only [Act.put, List.setIfInBounds_toArray, List.set_cons_zero, List.set_cons_succ]
          refine PF.pf_take1 12 (fun u => Bytes u A (xs.take n)) (by kernel_rfl) rfl (fun _ _ _ _ _ h => h) (by kernel_rfl) (HBK.out) (fun u hu => by (have hcv := conv_str (P := Tryd.prog) (w := u) (n := n) (c := c) Tryd.underlying27 Tryd.underlying5 Tryd.underlying9 hu hlq; go_simp; rfl)) ?_
          try simp only [Act.put, List.setIfInBounds_toArray, List.set_cons_zero, List.set_cons_succ]
          refine PF.pf_exec 4 (by kernel_rfl) rfl (by kernel_rfl) (fun K hK => ?_)
          go_simp
          refine HSH.out.mono ?_
          rintro e w4 ⟨A4, c4, rfl, ho4, hb4⟩
          have HB4 := Lib.hid (Below.trans ((Below.refl w.heap.size w).drew) hb4)
          have hcv4 := conv_str (P := Tryd.prog) (w := w4) (n := (short y).length) (c := c4) Tryd.underlying27 Tryd.underlying5 Tryd.underlying9 (own_bytes ho4) rfl
          refine hK _ _ (by repeat (first | exact PF.owes_nil | refine PF.owes_left ?_ | refine PF.owes_no (by decide +kernel) ?_ | refine PF.owes_yes (by first | exact HBK.out.below hb4 | exact hb4.block m hltm) ?_)) ?_
          clear hK K
          try simp only [Act.put, List.setIfInBounds_toArray, List.set_cons_zero, List.set_cons_succ]
          refine PF.pf_take1 5 (fun u => (convert 27 9 (.slice A4 (short y).length c4)).run Tryd.prog u = .ok (.string ⟨(short y).toArray⟩) u) (by kernel_rfl) rfl (fun _ _ _ _ _ h => h) (by kernel_rfl) (hcv4) (fun u hu => by (go_simp; rfl)) ?_
          try simp only [Act.put, List.setIfInBounds_toArray, List.set_cons_zero, List.set_cons_succ]
          refine PF.pf_take0 13 (by kernel_rfl) rfl (fun _ _ _ _ _ h => h) (by kernel_rfl) (fun u => by go_simp; try rfl) ?_
          try simp only [Act.put, List.setIfInBounds_toArray, List.set_cons_zero, List.set_cons_succ]
          refine PF.pf_take0 14 (by kernel_rfl) rfl (fun _ _ _ _ _ h => h) (by kernel_rfl) (fun u => by go_simp; try rfl) ?_
          try simp only [Act.put, List.setIfInBounds_toArray, List.set_cons_zero, List.set_cons_succ]
          refine PF.pf_done (by kernel_rfl) ?_
          go_wp2_with fail
          go_ret2
          rw [HS.out]
          exact ⟨rfl, HB4.out⟩
        · have hneq : (!short y == xs.take n) = true := by simpa using heq
          have HS : Hid (num xs 0 = none) := by
            have := HN.out
            rw [if_neg hn0, if_neg heq] at this
            exact this.symm
          clear heq hn0
          go_wp2_with fail
          refine PF.pf_begin (by kernel_rfl) ?_
          refine PF.pf_take0 0 (by kernel_rfl) rfl (fun _ _ _ _ _ h => h) (by kernel_rfl) (fun u => by go_simp; try rfl) ?_
          try simp only [Act.put, List.setIfInBounds_toArray, List.set_cons_zero, List.set_cons_succ]
          refine PF.pf_take0 1 (by kernel_rfl) rfl (fun _ _ _ _ _ h => h) (by kernel_rfl) (fun u => by go_simp; try rfl) ?_
          try simp only [Act.put, List.setIfInBounds_toArray, List.set_cons_zero, List.set_cons_succ]
          refine PF.pf_take0 2 (by kernel_rfl) rfl (fun _ _ _ _ _ h => h) (by kernel_rfl) (fun u => by go_simp; try rfl) ?_
          try simp only [Act.put, List.setIfInBounds_toArray, List.set_cons_zero, List.set_cons_succ]
          refine PF.pf_take0 3 (by kernel_rfl) rfl (fun _ _ _ _ _ h => h) (by kernel_rfl) (fun u => by go_simp; try rfl) ?_
          try simp only [Act.put, List.setIfInBounds_toArray, List.set_cons_zero, List.set_cons_succ]
          refine PF.pf_take0 6 (by kernel_rfl) rfl (fun _ _ _ _ _ h => h) (by kernel_rfl) (fun u => by go_simp; try rfl) ?_
          try simp only [Act.put, List.setIfInBounds_toArray, List.set_cons_zero, List.set_cons_succ]
          refine PF.pf_take0 7 (by kernel_rfl) rfl (fun _ _ _ _ _ h => h) (by kernel_rfl) (fun u => by go_simp; try rfl) ?_
          try simp only [Act.put, List.setIfInBounds_toArray, List.set_cons_zero, List.set_cons_succ]
          refine PF.pf_take0 8 (by kernel_rfl) rfl (fun _ _ _ _ _ h => h) (by kernel_rfl) (fun u => by go_simp; try rfl) ?_
          try simp only [Act.put, List.setIfInBounds_toArray, List.set_cons_zero, List.set_cons_succ]
          refine PF.pf_take1 9 (PF.Same (m) _) (by kernel_rfl) rfl (fun _ _ _ _ _ h => h) (by kernel_rfl) (PF.Same.refl _ _) (fun u hu => by have hcu := hu.cell; go_simp; try rfl) ?_
          try simp only [Act.put, List.setIfInBounds_toArray, List.set_cons_zero, List.set_cons_succ]
          refine PF.pf_take0 10 (by kernel_rfl) rfl (fun _ _ _ _ _ h => h) (by kernel_rfl) (fun u => by go_simp; try rfl) ?_
          try simp only [Act.put, List.setIfInBounds_toArray, List.set_cons_zero, List.set_cons_succ]
          refine PF.pf_take0 11 (by kernel_rfl) rfl (fun _ _ _ _ _ h => h) (by kernel_rfl) (fun u => by go_simp; try rfl) ?_
          try simp only [Act.put, List.setIfInBounds_toArray, List.set_cons_zero, List.set_cons_succ]
          refine PF.pf_take1 12 (fun u => Bytes u A (xs.take n)) (by kernel_rfl) rfl (fun _ _ _ _ _ h => h) (by kernel_rfl) (HBK.out) (fun u hu => by (have hcv := conv_str (P := Tryd.prog) (w := u) (n := n) (c := c) Tryd.underlying27 Tryd.underlying5 Tryd.underlying9 hu hlq; go_simp; rfl)) ?_
          try simp only [Act.put, List.setIfInBounds_toArray, List.set_cons_zero, List.set_cons_succ]
          refine PF.pf_exec 4 (by kernel_rfl) rfl (by kernel_rfl) (fun K hK => ?_)
          go_simp
          refine HSH.out.mono ?_
          rintro e w4 ⟨A4, c4, rfl, ho4, hb4⟩
          have HB4 := Lib.hid (Below.trans ((Below.refl w.heap.size w).drew) hb4)
          have hcv4 := conv_str (P := Tryd.prog) (w := w4) (n := (short y).length) (c := c4) Tryd.underlying27 Tryd.underlying5 Tryd.underlying9 (own_bytes ho4) rfl
          refine hK _ _ (by repeat (first | exact PF.owes_nil | refine PF.owes_left ?_ | refine PF.owes_no (by decide +kernel) ?_ | refine PF.owes_yes (by first | exact HBK.out.below hb4 | exact hb4.block m hltm) ?_)) ?_
          clear hK K
          try simp only [Act.put, List.setIfInBounds_toArray, List.set_cons_zero, List.set_cons_succ]
          refine PF.pf_take1 5 (fun u => (convert 27 9 (.slice A4 (short y).length c4)).run Tryd.prog u = .ok (.string ⟨(short y).toArray⟩) u) (by kernel_rfl) rfl (fun _ _ _ _ _ h => h) (by kernel_rfl) (hcv4) (fun u hu => by (go_simp; rfl)) ?_
          try simp only [Act.put, List.setIfInBounds_toArray, List.set_cons_zero, List.set_cons_succ]
          refine PF.pf_take0 13 (by kernel_rfl) rfl (fun _ _ _ _ _ h => h) (by kernel_rfl) (fun u => by go_simp; try rfl) ?_
          try simp only [Act.put, List.setIfInBounds_toArray, List.set_cons_zero, List.set_cons_succ]
          refine PF.pf_take0 14 (by kernel_rfl) rfl (fun _ _ _ _ _ h => h) (by kernel_rfl) (fun u => by go_simp; try rfl) ?_
          try simp only [Act.put, List.setIfInBounds_toArray, List.set_cons_zero, List.set_cons_succ]
          refine PF.pf_done (by kernel_rfl) ?_
          go_wp2_with fail
          go_ret2
          rw [HS.out]
          exact ⟨rfl, HB4.out⟩
end Go.Proofs.YtcklbhplhpohpaaDoor
