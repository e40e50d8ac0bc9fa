/- The walk of the law of how a sum goes on. -/
import Derived.Test.YtgnegofkffiopaaLawOne
namespace Go.Proofs.Ytgnegofkffiopaa
open Go.RowKit

theorem and255 (n : Int) : ∃ m : Nat, m ≤ 255 ∧ bits .and .i64 n 255 = (m : Int) := by
  refine ⟨(BitVec.ofInt 64 n &&& BitVec.ofInt 64 255).toNat, ?_, ?_⟩
  · rw [BitVec.toNat_and]
    have h : (BitVec.ofInt 64 255).toNat = 255 := by decide
    rw [h]
    exact Nat.and_le_right
  · show IntKind.i64.wrap ((BitVec.ofInt 64 n &&& BitVec.ofInt 64 255).toNat : Int) = _
    have h : (BitVec.ofInt 64 n &&& BitVec.ofInt 64 255).toNat ≤ 255 := by
      rw [BitVec.toNat_and]
      have h : (BitVec.ofInt 64 255).toNat = 255 := by decide
      rw [h]
      exact Nat.and_le_right
    rw [IntKind.wrap_i64]
    omega

set_option maxHeartbeats 400000 in
theorem goes_long1 (A B D : Option Addr) (a b d ca cb cd : Nat) (x y n : Int) (w : World) (hn : 20000 < a) :
    Calls Try.prog 5 #[.slice A a ca, .slice B b cb, .slice D d cd, .int .u32 x, .int .u32 y, .int .i64 n] w fun e w' => e = .returned (.bool true) ∧ Below w.heap.size w w' := by
  go_enter Try.func5, Try.ntmps5
  go_wp2_with (go_at_call 8; refine (awake_any _).mono ?_; rintro e w' ⟨rfl, hb⟩)
  go_ret
  exact ⟨rfl, hb⟩
set_option maxHeartbeats 400000 in
theorem goes_long2 (A B D : Option Addr) (a b d ca cb cd : Nat) (x y n : Int) (w : World) (ha : a ≤ 20000) (hn : 20000 < b) :
    Calls Try.prog 5 #[.slice A a ca, .slice B b cb, .slice D d cd, .int .u32 x, .int .u32 y, .int .i64 n] w fun e w' => e = .returned (.bool true) ∧ Below w.heap.size w w' := by
  go_enter Try.func5, Try.ntmps5
  go_wp2_with (go_at_call 8; refine (awake_any _).mono ?_; rintro e w' ⟨rfl, hb⟩)
  go_ret
  exact ⟨rfl, hb⟩
set_option maxHeartbeats 400000 in
theorem goes_long3 (A B D : Option Addr) (a b d ca cb cd : Nat) (x y n : Int) (w : World) (ha : a ≤ 20000) (hb : b ≤ 20000) (hn : 20000 < d) :
    Calls Try.prog 5 #[.slice A a ca, .slice B b cb, .slice D d cd, .int .u32 x, .int .u32 y, .int .i64 n] w fun e w' => e = .returned (.bool true) ∧ Below w.heap.size w w' := by
  go_enter Try.func5, Try.ntmps5
  go_wp2_with (go_at_call 8; refine (awake_any _).mono ?_; rintro e w' ⟨rfl, hb⟩)
  go_ret
  exact ⟨rfl, hb⟩

theorem part2 {w : World} {A B : Option Addr} {n c m d : Nat} {l k : List UInt8} (hp : Bytes w A l) (hn : l.length = n) (h1 : n ≤ c) (h2 : c ≤ 9223372036854775807) (hq : Bytes w B k) (hm : k.length = m) (h3 : m ≤ d) (h4 : d ≤ 9223372036854775807) :
    Parts (w.alloc (.cells #[.slice A n c, .slice B m d] 23)) (some ⟨w.heap.size, 0, none⟩) [l, k] := by
  refine Parts.block _ [.slice A n c, .slice B m d] _ rfl rfl fun i v x hv hx => ?_
  match i, hv, hx with
  | 0, hv, hx => simp at hv hx; subst hv hx; exact BytesV.mk_ hp hn.symm (by omega) h2
  | 1, hv, hx => simp at hv hx; subst hv hx; exact BytesV.mk_ hq hm.symm (by omega) h4
theorem nat_beq (a b : BitVec 32) (q : Bool) (h : a = b ↔ q = true) : ((a.toNat : Int) == (b.toNat : Int)) = q := by
  cases q
  · rw [beq_eq_false_iff_ne]
    intro e
    exact absurd (h.1 (BitVec.eq_of_toNat_eq (by omega))) (by decide)
  · rw [h.2 rfl]; simp

set_option maxRecDepth 100000 in
set_option maxHeartbeats 1600000 in
theorem goes_any (A B D : Option Addr) (a b d : List UInt8) (ca cb cd : Nat) (x y : BitVec 32) (n : Int) (w : World) (hA : Bytes w A a) (hB : Bytes w B b) (hD : Bytes w D d)
    (ha : a.length ≤ 20000) (hb : b.length ≤ 20000) (hd : d.length ≤ 20000) (ha1 : a.length ≤ ca) (ha2 : ca ≤ 9223372036854775807) (hb1 : b.length ≤ cb) (hb2 : cb ≤ 9223372036854775807) (hd1 : d.length ≤ cd) (hd2 : cd ≤ 9223372036854775807) :
    Calls Try.prog 5 #[.slice A a.length ca, .slice B b.length cb, .slice D d.length cd, .int .u32 (x.toNat : Int), .int .u32 (y.toNat : Int), .int .i64 n] w fun e w' => e = .returned (.bool true) ∧ Below w.heap.size w w' := by
  have hx := x.isLt
  have hy := y.isLt
  obtain ⟨q, hq⟩ : ∃ q : Bool, q = decide (Crc.sum a = Crc.sum b) := ⟨_, rfl⟩
  have hq1 := nat_beq (Crc.sum a) (Crc.sum b) q (by rw [hq]; simp)
  have hq2 := nat_beq (Crc.sum (a ++ d)) (Crc.sum (b ++ d)) q (by rw [hq, ← Crc.sum_on]; simp)
  have HQ1 := Lib.hid hq1
  have HQ2 := Lib.hid hq2
  clear hq hq1 hq2
  go_enter Try.func5, Try.ntmps5
  go_wp2_with fail
  refine (of_one hA rfl ha1 ha2).mono ?_
  rintro e w1 ⟨rfl, h1⟩
  go_wp2_with fail
  refine (of_one (hB.below h1) rfl hb1 hb2).mono ?_
  rintro e w2 ⟨rfl, h2⟩
  have k2 := below_call h1 h1.size h2
  have H1 := HQ1.out
  go_wp2_with fail
  clear H1 HQ1
  refine (of_two (hA.below k2) rfl ha1 ha2 (hD.below k2) rfl hd1 hd2).mono ?_
  rintro e w3 ⟨rfl, h3⟩
  have k3 := below_call k2 k2.size h3
  go_wp2_with fail
  refine (of_two (hB.below k3) rfl hb1 hb2 (hD.below k3) rfl hd1 hd2).mono ?_
  rintro e w4 ⟨rfl, h4⟩
  have k4 := below_call k3 k3.size h4
  have H2 := HQ2.out
  obtain ⟨m, hm, hm2⟩ := and255 n
  obtain ⟨k, hk, hk2⟩ : ∃ k : Nat, k ≤ 4 ∧ (m : Int) % 5 = (k : Int) := ⟨m % 5, by omega, by omega⟩
  have x0 := w_b0 x
  have x1 := w_b1 x
  have x2 := w_b2 x
  have x3 := w_b3 x
  have y0 := w_b0 y
  have y1 := w_b1 y
  have y2 := w_b2 y
  have y3 := w_b3 y
  go_wp2_with fail
  rw [hk2]
  clear x0 x1 x2 x3 y0 y1 y2 y3 hm2 hk2 H2 HQ2
  have hP0 : Bytes (w4.alloc (.cells ((Crc.le4 x).map bv).toArray 5)) (some ⟨w4.heap.size, 0, none⟩) (Crc.le4 x) := Bytes.block _ _ _ _ _ rfl
  have hP := hP0.alloc (.cells ((Crc.le4 y).map bv).toArray 5)
  have hQ : Bytes ((w4.alloc (.cells ((Crc.le4 x).map bv).toArray 5)).alloc (.cells ((Crc.le4 y).map bv).toArray 5)) (some ⟨(w4.alloc (.cells ((Crc.le4 x).map bv).toArray 5)).heap.size, 0, none⟩) (Crc.le4 y) := Bytes.block _ _ _ _ _ rfl
  rw [alloc_size] at hQ
  have k5 : Below w.heap.size w ((w4.alloc (.cells ((Crc.le4 x).map bv).toArray 5)).alloc (.cells ((Crc.le4 y).map bv).toArray 5)) := (k4.alloc k4.size _).alloc (by have := k4.size; simp; omega) _
  clear hP0
  change Code.wp _ _ _ _ ((w4.alloc (.cells ((Crc.le4 x).map bv).toArray 5)).alloc (.cells ((Crc.le4 y).map bv).toArray 5))
  generalize (w4.alloc (.cells ((Crc.le4 x).map bv).toArray 5)).alloc (.cells ((Crc.le4 y).map bv).toArray 5) = w5 at hP hQ k5
  have hPk := Reads.take hP (k := k) (by rw [len_le4]; omega)
  have hQk := Reads.take hQ (k := k) (by rw [len_le4]; omega)
  rw [Nat.mul_one, ← List.map_take] at hPk hQk
  have hpl : ((Crc.le4 x).take k).length = k := by rw [List.length_take, len_le4]; omega
  have hql : ((Crc.le4 y).take k).length = k := by rw [List.length_take, len_le4]; omega
  obtain ⟨r, hr⟩ : ∃ r : Bool, r = decide ((Crc.le4 x).take k = (Crc.le4 y).take k) := ⟨_, rfl⟩
  have hr1 : ((Crc.le4 x).take k == (Crc.le4 y).take k) = r := by rw [hr, Bool.eq_iff_iff]; simp
  have hr2 := nat_beq (Crc.sum (a ++ (Crc.le4 x).take k)) (Crc.sum (a ++ (Crc.le4 y).take k)) r (by rw [hr, Crc.sum_few _ _ _ (by omega) (by omega)]; simp)
  have HR1 := Lib.hid hr1
  have HR2 := Lib.hid hr2
  clear hr hr1 hr2
  generalize (Crc.le4 x).take k = p at hPk hpl HR1 HR2
  generalize (Crc.le4 y).take k = z at hQk hql HR1 HR2
  have hPp : Bytes w5 (some ⟨w4.heap.size, 0, none⟩) p := by unfold Bytes; rw [hpl]; exact hPk
  have hQp : Bytes w5 (some ⟨w4.heap.size + 1, 0, none⟩) z := by unfold Bytes; rw [hql]; exact hQk
  have hA5 := hA.below k5
  clear hP hQ hPk hQk hA hB hD h1 h2 h3 h4 k2 k3 k4 hx hy hm
  have HPL := Lib.hid hpl
  have HQL := Lib.hid hql
  clear hpl hql
  have c0 : (0 : Int) ≤ (k : Int) := by omega
  have c1 : (k : Int) ≤ 4 := by omega
  have hPp' : Bytes w5.drew (some ⟨w4.heap.size, 0, none⟩) p := hPp
  have hQp' : Bytes w5.drew (some ⟨w4.heap.size + 1, 0, none⟩) z := hQp
  have hA5' : Bytes w5.drew A a := hA5
  have k5' : Below w.heap.size w w5.drew := k5.drew
  clear hPp hQp hA5 k5
  refine PF.pf_begin (by kernel_rfl) ?_
  generalize w5.drew = w6 at hPp' hQp' hA5' k5' ⊢
  have f : Below w6.heap.size w6 w6 := Below.refl _ _
  have R1 := HR1.out
  have R2 := HR2.out
  refine PF.pf_take0 0 (by kernel_rfl) rfl (fun _ _ _ _ _ h => h) (by rfl) (fun u => by go_simp; try rfl) ?_
  try dsimp only [Act.put, List.setIfInBounds_toArray, List.set_cons_zero, List.set_cons_succ]
  refine PF.pf_take0 1 (by kernel_rfl) rfl (fun _ _ _ _ _ h => h) (by rfl) (fun u => by go_simp; try rfl) ?_
  try dsimp only [Act.put, List.setIfInBounds_toArray, List.set_cons_zero, List.set_cons_succ]
  refine PF.pf_take0 2 (by kernel_rfl) rfl (fun _ _ _ _ _ h => h) (by rfl) (fun u => by go_simp; try rfl) ?_
  try dsimp only [Act.put, List.setIfInBounds_toArray, List.set_cons_zero, List.set_cons_succ]
  refine PF.pf_take0 3 (by kernel_rfl) rfl (fun _ _ _ _ _ h => h) (by rfl) (fun u => by go_simp; try rfl) ?_
  try dsimp only [Act.put, List.setIfInBounds_toArray, List.set_cons_zero, List.set_cons_succ]
  refine PF.pf_take0 6 (by kernel_rfl) rfl (fun _ _ _ _ _ h => h) (by rfl) (fun u => by go_simp; try rfl) ?_
  try dsimp only [Act.put, List.setIfInBounds_toArray, List.set_cons_zero, List.set_cons_succ]
  refine PF.pf_take0 7 (by kernel_rfl) rfl (fun _ _ _ _ _ h => h) (by rfl) (fun u => by go_simp; try rfl) ?_
  try dsimp only [Act.put, List.setIfInBounds_toArray, List.set_cons_zero, List.set_cons_succ]
  refine PF.pf_take0 8 (by kernel_rfl) rfl (fun _ _ _ _ _ h => h) (by rfl) (fun u => by go_simp; try rfl) ?_
  try dsimp only [Act.put, List.setIfInBounds_toArray, List.set_cons_zero, List.set_cons_succ]
  refine PF.pf_take0 9 (by kernel_rfl) rfl (fun _ _ _ _ _ h => h) (by rfl) (fun u => by go_simp; try rfl) ?_
  try dsimp only [Act.put, List.setIfInBounds_toArray, List.set_cons_zero, List.set_cons_succ]
  refine PF.pf_take0 13 (by kernel_rfl) rfl (fun _ _ _ _ _ h => h) (by rfl) (fun u => by go_simp; try rfl) ?_
  try dsimp only [Act.put, List.setIfInBounds_toArray, List.set_cons_zero, List.set_cons_succ]
  refine PF.pf_take0 14 (by kernel_rfl) rfl (fun _ _ _ _ _ h => h) (by rfl) (fun u => by go_simp; try rfl) ?_
  try dsimp only [Act.put, List.setIfInBounds_toArray, List.set_cons_zero, List.set_cons_succ]
  refine PF.pf_take0 15 (by kernel_rfl) rfl (fun _ _ _ _ _ h => h) (by rfl) (fun u => by go_simp; try rfl) ?_
  try dsimp only [Act.put, List.setIfInBounds_toArray, List.set_cons_zero, List.set_cons_succ]
  refine PF.pf_take1 16 ((fun u => Bytes u (some ⟨w4.heap.size, 0, none⟩) p)) (by kernel_rfl) rfl (fun _ _ _ _ _ h => h) (by rfl) (hPp') (fun u hu => by (go_simp; rw [conv_str Try.underlying23 Try.underlying5 Try.underlying9 hu HPL.out]; rfl)) ?_
  try dsimp only [Act.put, List.setIfInBounds_toArray, List.set_cons_zero, List.set_cons_succ]
  refine PF.pf_take0 17 (by kernel_rfl) rfl (fun _ _ _ _ _ h => h) (by rfl) (fun u => by go_simp; try rfl) ?_
  try dsimp only [Act.put, List.setIfInBounds_toArray, List.set_cons_zero, List.set_cons_succ]
  refine PF.pf_take0 18 (by kernel_rfl) rfl (fun _ _ _ _ _ h => h) (by rfl) (fun u => by go_simp; try rfl) ?_
  try dsimp only [Act.put, List.setIfInBounds_toArray, List.set_cons_zero, List.set_cons_succ]
  refine PF.pf_take0 19 (by kernel_rfl) rfl (fun _ _ _ _ _ h => h) (by rfl) (fun u => by go_simp; try rfl) ?_
  try dsimp only [Act.put, List.setIfInBounds_toArray, List.set_cons_zero, List.set_cons_succ]
  refine PF.pf_take1 20 ((fun u => Bytes u (some ⟨w4.heap.size + 1, 0, none⟩) z)) (by kernel_rfl) rfl (fun _ _ _ _ _ h => h) (by rfl) (hQp') (fun u hu => by (go_simp; rw [conv_str Try.underlying23 Try.underlying5 Try.underlying9 hu HQL.out]; rfl)) ?_
  try dsimp only [Act.put, List.setIfInBounds_toArray, List.set_cons_zero, List.set_cons_succ]
  refine PF.pf_take0 21 (by kernel_rfl) rfl (fun _ _ _ _ _ h => h) (by rfl) (fun u => by go_simp; try rfl) ?_
  try dsimp only [Act.put, List.setIfInBounds_toArray, List.set_cons_zero, List.set_cons_succ]
  refine PF.pf_fork [4, 10] (by kernel_rfl) rfl (PF.fork_cons ?_ (PF.fork_cons ?_ PF.fork_nil))
  -- number 4 first
  · refine PF.step_one rfl (by rfl) (fun K hK => ?_)
    go_simp
    have hp4 := part2 (w := w6) hA5' rfl ha1 ha2 hPp' HPL.out (show k ≤ 4 by omega) (by omega)
    replace f : Below w6.heap.size w6 (w6.alloc (.cells #[.slice A a.length ca, .slice (some ⟨w4.heap.size, 0, none⟩) k 4] 23)) := below_new _ _
    refine hK _ _ (by repeat (first | exact PF.owes_nil | refine PF.owes_left ?_ | refine PF.owes_no (by decide +kernel) ?_ | refine PF.owes_yes (by first | exact hPp'.below f | exact hQp'.below f) ?_)) ?_
    clear hK K
    try dsimp only [Act.put, List.setIfInBounds_toArray, List.set_cons_zero, List.set_cons_succ]
    refine PF.pf_fork [5, 10] (by kernel_rfl) rfl (PF.fork_cons ?_ (PF.fork_cons ?_ PF.fork_nil))
    -- number 5 first
    · refine PF.step_one rfl (by rfl) (fun K hK => ?_)
      go_simp
      refine (of_any _ 2 [a, p] _ hp4 (by simp) (by simp; have := HPL.out; omega)).mono ?_
      rintro e w7 ⟨rfl, hb7⟩
      simp only [List.flatten_cons, List.flatten_nil, List.append_nil]
      replace f : Below w6.heap.size w6 w7 := below_call f f.size hb7
      refine hK _ _ (by repeat (first | exact PF.owes_nil | refine PF.owes_left ?_ | refine PF.owes_no (by decide +kernel) ?_ | refine PF.owes_yes (by first | exact hPp'.below f | exact hQp'.below f) ?_)) ?_
      clear hK K
      try dsimp only [Act.put, List.setIfInBounds_toArray, List.set_cons_zero, List.set_cons_succ]
      refine PF.pf_exec 10 (by kernel_rfl) rfl (by rfl) (fun K hK => ?_)
      go_simp
      have hp10 := part2 (w := w7) (hA5'.below f) rfl ha1 ha2 (hQp'.below f) HQL.out (show k ≤ 4 by omega) (by omega)
      replace f : Below w6.heap.size w6 (w7.alloc (.cells #[.slice A a.length ca, .slice (some ⟨w4.heap.size + 1, 0, none⟩) k 4] 23)) := f.alloc f.size _
      refine hK _ _ (by repeat (first | exact PF.owes_nil | refine PF.owes_left ?_ | refine PF.owes_no (by decide +kernel) ?_ | refine PF.owes_yes (by first | exact hPp'.below f | exact hQp'.below f) ?_)) ?_
      clear hK K
      try dsimp only [Act.put, List.setIfInBounds_toArray, List.set_cons_zero, List.set_cons_succ]
      refine PF.pf_exec 11 (by kernel_rfl) rfl (by rfl) (fun K hK => ?_)
      go_simp
      refine (of_any _ 2 [a, z] _ hp10 (by simp) (by simp; have := HQL.out; omega)).mono ?_
      rintro e w8 ⟨rfl, hb8⟩
      simp only [List.flatten_cons, List.flatten_nil, List.append_nil]
      replace f : Below w6.heap.size w6 w8 := below_call f f.size hb8
      refine hK _ _ (by repeat (first | exact PF.owes_nil | refine PF.owes_left ?_ | refine PF.owes_no (by decide +kernel) ?_ | refine PF.owes_yes (by first | exact hPp'.below f | exact hQp'.below f) ?_)) ?_
      clear hK K
      try dsimp only [Act.put, List.setIfInBounds_toArray, List.set_cons_zero, List.set_cons_succ]
      refine PF.pf_take0 12 (by kernel_rfl) rfl (fun _ _ _ _ _ h => h) (by rfl) (fun u => by go_simp; try rfl) ?_
      try dsimp only [Act.put, List.setIfInBounds_toArray, List.set_cons_zero, List.set_cons_succ]
      refine PF.pf_take0 22 (by kernel_rfl) rfl (fun _ _ _ _ _ h => h) (by rfl) (fun u => by go_simp; try rfl) ?_
      try dsimp only [Act.put, List.setIfInBounds_toArray, List.set_cons_zero, List.set_cons_succ]
      refine PF.pf_take0 23 (by kernel_rfl) rfl (fun _ _ _ _ _ h => h) (by rfl) (fun u => by go_simp; try rfl) ?_
      try dsimp only [Act.put, List.setIfInBounds_toArray, List.set_cons_zero, List.set_cons_succ]
      refine PF.pf_exec 24 (by kernel_rfl) rfl (by rfl) (fun K hK => ?_)
      go_simp
      refine (awake_any _).mono ?_
      rintro e w9 ⟨rfl, hb9⟩
      replace f : Below w6.heap.size w6 w9 := below_call f f.size hb9
      refine hK _ _ (by repeat (first | exact PF.owes_nil | refine PF.owes_left ?_ | refine PF.owes_no (by decide +kernel) ?_ | refine PF.owes_yes (by first | rfl | assumption | go_simp) ?_)) ?_
      clear hK K
      try dsimp only [Act.put, List.setIfInBounds_toArray, List.set_cons_zero, List.set_cons_succ]
      refine PF.pf_take0 25 (by kernel_rfl) rfl (fun _ _ _ _ _ h => h) (by rfl) (fun u => by go_simp; try rfl) ?_
      try dsimp only [Act.put, List.setIfInBounds_toArray, List.set_cons_zero, List.set_cons_succ]
      refine PF.pf_take0 26 (by kernel_rfl) rfl (fun _ _ _ _ _ h => h) (by rfl) (fun u => by go_simp; try rfl) ?_
      try dsimp only [Act.put, List.setIfInBounds_toArray, List.set_cons_zero, List.set_cons_succ]
      refine PF.pf_done (by kernel_rfl) ?_
      go_wp2
      go_ret
      exact ⟨rfl, below_call k5' k5'.size f⟩
    -- number 10 first
    · refine PF.step_one rfl (by rfl) (fun K hK => ?_)
      go_simp
      have hp10 := part2 (w := w6.alloc (.cells #[.slice A a.length ca, .slice (some ⟨w4.heap.size, 0, none⟩) k 4] 23)) (hA5'.alloc _) rfl ha1 ha2 (hQp'.alloc _) HQL.out (show k ≤ 4 by omega) (by omega)
      simp only [alloc_size] at hp10
      replace hp4 := hp4.below (below_new _ (.cells #[.slice A a.length ca, .slice (some ⟨w4.heap.size + 1, 0, none⟩) k 4] 23))
      replace f : Below w6.heap.size w6 ((w6.alloc (.cells #[.slice A a.length ca, .slice (some ⟨w4.heap.size, 0, none⟩) k 4] 23)).alloc (.cells #[.slice A a.length ca, .slice (some ⟨w4.heap.size + 1, 0, none⟩) k 4] 23)) := f.alloc f.size _
      refine hK _ _ (by repeat (first | exact PF.owes_nil | refine PF.owes_left ?_ | refine PF.owes_no (by decide +kernel) ?_ | refine PF.owes_yes (by first | exact hPp'.below f | exact hQp'.below f) ?_)) ?_
      clear hK K
      try dsimp only [Act.put, List.setIfInBounds_toArray, List.set_cons_zero, List.set_cons_succ]
      refine PF.pf_exec 5 (by kernel_rfl) rfl (by rfl) (fun K hK => ?_)
      go_simp
      refine (of_any _ 2 [a, p] _ hp4 (by simp) (by simp; have := HPL.out; omega)).mono ?_
      rintro e w7 ⟨rfl, hb7⟩
      simp only [List.flatten_cons, List.flatten_nil, List.append_nil]
      replace f : Below w6.heap.size w6 w7 := below_call f f.size hb7
      replace hp10 := hp10.below hb7
      refine hK _ _ (by repeat (first | exact PF.owes_nil | refine PF.owes_left ?_ | refine PF.owes_no (by decide +kernel) ?_ | refine PF.owes_yes (by first | exact hPp'.below f | exact hQp'.below f) ?_)) ?_
      clear hK K
      try dsimp only [Act.put, List.setIfInBounds_toArray, List.set_cons_zero, List.set_cons_succ]
      refine PF.pf_exec 11 (by kernel_rfl) rfl (by rfl) (fun K hK => ?_)
      go_simp
      refine (of_any _ 2 [a, z] _ hp10 (by simp) (by simp; have := HQL.out; omega)).mono ?_
      rintro e w8 ⟨rfl, hb8⟩
      simp only [List.flatten_cons, List.flatten_nil, List.append_nil]
      replace f : Below w6.heap.size w6 w8 := below_call f f.size hb8
      refine hK _ _ (by repeat (first | exact PF.owes_nil | refine PF.owes_left ?_ | refine PF.owes_no (by decide +kernel) ?_ | refine PF.owes_yes (by first | exact hPp'.below f | exact hQp'.below f) ?_)) ?_
      clear hK K
      try dsimp only [Act.put, List.setIfInBounds_toArray, List.set_cons_zero, List.set_cons_succ]
      refine PF.pf_take0 12 (by kernel_rfl) rfl (fun _ _ _ _ _ h => h) (by rfl) (fun u => by go_simp; try rfl) ?_
      try dsimp only [Act.put, List.setIfInBounds_toArray, List.set_cons_zero, List.set_cons_succ]
      refine PF.pf_take0 22 (by kernel_rfl) rfl (fun _ _ _ _ _ h => h) (by rfl) (fun u => by go_simp; try rfl) ?_
      try dsimp only [Act.put, List.setIfInBounds_toArray, List.set_cons_zero, List.set_cons_succ]
      refine PF.pf_take0 23 (by kernel_rfl) rfl (fun _ _ _ _ _ h => h) (by rfl) (fun u => by go_simp; try rfl) ?_
      try dsimp only [Act.put, List.setIfInBounds_toArray, List.set_cons_zero, List.set_cons_succ]
      refine PF.pf_exec 24 (by kernel_rfl) rfl (by rfl) (fun K hK => ?_)
      go_simp
      refine (awake_any _).mono ?_
      rintro e w9 ⟨rfl, hb9⟩
      replace f : Below w6.heap.size w6 w9 := below_call f f.size hb9
      refine hK _ _ (by repeat (first | exact PF.owes_nil | refine PF.owes_left ?_ | refine PF.owes_no (by decide +kernel) ?_ | refine PF.owes_yes (by first | rfl | assumption | go_simp) ?_)) ?_
      clear hK K
      try dsimp only [Act.put, List.setIfInBounds_toArray, List.set_cons_zero, List.set_cons_succ]
      refine PF.pf_take0 25 (by kernel_rfl) rfl (fun _ _ _ _ _ h => h) (by rfl) (fun u => by go_simp; try rfl) ?_
      try dsimp only [Act.put, List.setIfInBounds_toArray, List.set_cons_zero, List.set_cons_succ]
      refine PF.pf_take0 26 (by kernel_rfl) rfl (fun _ _ _ _ _ h => h) (by rfl) (fun u => by go_simp; try rfl) ?_
      try dsimp only [Act.put, List.setIfInBounds_toArray, List.set_cons_zero, List.set_cons_succ]
      refine PF.pf_done (by kernel_rfl) ?_
      go_wp2
      go_ret
      exact ⟨rfl, below_call k5' k5'.size f⟩
  -- number 10 first
  · refine PF.step_one rfl (by rfl) (fun K hK => ?_)
    go_simp
    have hp10 := part2 (w := w6) hA5' rfl ha1 ha2 hQp' HQL.out (show k ≤ 4 by omega) (by omega)
    replace f : Below w6.heap.size w6 (w6.alloc (.cells #[.slice A a.length ca, .slice (some ⟨w4.heap.size + 1, 0, none⟩) k 4] 23)) := below_new _ _
    refine hK _ _ (by repeat (first | exact PF.owes_nil | refine PF.owes_left ?_ | refine PF.owes_no (by decide +kernel) ?_ | refine PF.owes_yes (by first | exact hPp'.below f | exact hQp'.below f) ?_)) ?_
    clear hK K
    try dsimp only [Act.put, List.setIfInBounds_toArray, List.set_cons_zero, List.set_cons_succ]
    refine PF.pf_exec 4 (by kernel_rfl) rfl (by rfl) (fun K hK => ?_)
    go_simp
    have hp4 := part2 (w := w6.alloc (.cells #[.slice A a.length ca, .slice (some ⟨w4.heap.size + 1, 0, none⟩) k 4] 23)) (hA5'.alloc _) rfl ha1 ha2 (hPp'.alloc _) HPL.out (show k ≤ 4 by omega) (by omega)
    simp only [alloc_size] at hp4
    replace hp10 := hp10.below (below_new _ (.cells #[.slice A a.length ca, .slice (some ⟨w4.heap.size, 0, none⟩) k 4] 23))
    replace f : Below w6.heap.size w6 ((w6.alloc (.cells #[.slice A a.length ca, .slice (some ⟨w4.heap.size + 1, 0, none⟩) k 4] 23)).alloc (.cells #[.slice A a.length ca, .slice (some ⟨w4.heap.size, 0, none⟩) k 4] 23)) := f.alloc f.size _
    refine hK _ _ (by repeat (first | exact PF.owes_nil | refine PF.owes_left ?_ | refine PF.owes_no (by decide +kernel) ?_ | refine PF.owes_yes (by first | exact hPp'.below f | exact hQp'.below f) ?_)) ?_
    clear hK K
    try dsimp only [Act.put, List.setIfInBounds_toArray, List.set_cons_zero, List.set_cons_succ]
    refine PF.pf_exec 5 (by kernel_rfl) rfl (by rfl) (fun K hK => ?_)
    go_simp
    refine (of_any _ 2 [a, p] _ hp4 (by simp) (by simp; have := HPL.out; omega)).mono ?_
    rintro e w7 ⟨rfl, hb7⟩
    simp only [List.flatten_cons, List.flatten_nil, List.append_nil]
    replace f : Below w6.heap.size w6 w7 := below_call f f.size hb7
    replace hp10 := hp10.below hb7
    refine hK _ _ (by repeat (first | exact PF.owes_nil | refine PF.owes_left ?_ | refine PF.owes_no (by decide +kernel) ?_ | refine PF.owes_yes (by first | exact hPp'.below f | exact hQp'.below f) ?_)) ?_
    clear hK K
    try dsimp only [Act.put, List.setIfInBounds_toArray, List.set_cons_zero, List.set_cons_succ]
    refine PF.pf_exec 11 (by kernel_rfl) rfl (by rfl) (fun K hK => ?_)
    go_simp
    refine (of_any _ 2 [a, z] _ hp10 (by simp) (by simp; have := HQL.out; omega)).mono ?_
    rintro e w8 ⟨rfl, hb8⟩
    simp only [List.flatten_cons, List.flatten_nil, List.append_nil]
    replace f : Below w6.heap.size w6 w8 := below_call f f.size hb8
    refine hK _ _ (by repeat (first | exact PF.owes_nil | refine PF.owes_left ?_ | refine PF.owes_no (by decide +kernel) ?_ | refine PF.owes_yes (by first | exact hPp'.below f | exact hQp'.below f) ?_)) ?_
    clear hK K
    try dsimp only [Act.put, List.setIfInBounds_toArray, List.set_cons_zero, List.set_cons_succ]
    refine PF.pf_take0 12 (by kernel_rfl) rfl (fun _ _ _ _ _ h => h) (by rfl) (fun u => by go_simp; try rfl) ?_
    try dsimp only [Act.put, List.setIfInBounds_toArray, List.set_cons_zero, List.set_cons_succ]
    refine PF.pf_take0 22 (by kernel_rfl) rfl (fun _ _ _ _ _ h => h) (by rfl) (fun u => by go_simp; try rfl) ?_
    try dsimp only [Act.put, List.setIfInBounds_toArray, List.set_cons_zero, List.set_cons_succ]
    refine PF.pf_take0 23 (by kernel_rfl) rfl (fun _ _ _ _ _ h => h) (by rfl) (fun u => by go_simp; try rfl) ?_
    try dsimp only [Act.put, List.setIfInBounds_toArray, List.set_cons_zero, List.set_cons_succ]
    refine PF.pf_exec 24 (by kernel_rfl) rfl (by rfl) (fun K hK => ?_)
    go_simp
    refine (awake_any _).mono ?_
    rintro e w9 ⟨rfl, hb9⟩
    replace f : Below w6.heap.size w6 w9 := below_call f f.size hb9
    refine hK _ _ (by repeat (first | exact PF.owes_nil | refine PF.owes_left ?_ | refine PF.owes_no (by decide +kernel) ?_ | refine PF.owes_yes (by first | rfl | assumption | go_simp) ?_)) ?_
    clear hK K
    try dsimp only [Act.put, List.setIfInBounds_toArray, List.set_cons_zero, List.set_cons_succ]
    refine PF.pf_take0 25 (by kernel_rfl) rfl (fun _ _ _ _ _ h => h) (by rfl) (fun u => by go_simp; try rfl) ?_
    try dsimp only [Act.put, List.setIfInBounds_toArray, List.set_cons_zero, List.set_cons_succ]
    refine PF.pf_take0 26 (by kernel_rfl) rfl (fun _ _ _ _ _ h => h) (by rfl) (fun u => by go_simp; try rfl) ?_
    try dsimp only [Act.put, List.setIfInBounds_toArray, List.set_cons_zero, List.set_cons_succ]
    refine PF.pf_done (by kernel_rfl) ?_
    go_wp2
    go_ret
    exact ⟨rfl, below_call k5' k5'.size f⟩

namespace SumGoesOn
theorem walk {w : World} (A : Option Addr) (a : List UInt8) (ca : Nat) (hA : Bytes w A a) (ha1 : a.length ≤ ca) (ha2 : ca ≤ 9223372036854775807)
    (B : Option Addr) (b : List UInt8) (cb : Nat) (hB : Bytes w B b) (hb1 : b.length ≤ cb) (hb2 : cb ≤ 9223372036854775807)
    (D : Option Addr) (d : List UInt8) (cd : Nat) (hD : Bytes w D d) (hd1 : d.length ≤ cd) (hd2 : cd ≤ 9223372036854775807)
    (x : Int) (wx : (Lit.int .u32 x).wf = true) (y : Int) (wy : (Lit.int .u32 y).wf = true) (n : Int) (_ : (Lit.int .i64 n).wf = true) :
    Calls Try.prog 5 #[.slice A a.length ca, .slice B b.length cb, .slice D d.length cd, .int .u32 x, .int .u32 y, .int .i64 n] w fun e w' => e = .returned (.bool true) ∧ Below w.heap.size w w' := by
  obtain ⟨x, rfl⟩ := word_of wx
  obtain ⟨y, rfl⟩ := word_of wy
  by_cases ha : a.length ≤ 20000
  · by_cases hb : b.length ≤ 20000
    · by_cases hd : d.length ≤ 20000
      · exact goes_any A B D a b d ca cb cd x y n w hA hB hD ha hb hd ha1 ha2 hb1 hb2 hd1 hd2
      · exact goes_long3 A B D _ _ _ ca cb cd _ _ n w ha hb (by omega)
    · exact goes_long2 A B D _ _ _ ca cb cd _ _ n w ha (by omega)
  · exact goes_long1 A B D _ _ _ ca cb cd _ _ n w (by omega)
end SumGoesOn
end Go.Proofs.Ytgnegofkffiopaa
