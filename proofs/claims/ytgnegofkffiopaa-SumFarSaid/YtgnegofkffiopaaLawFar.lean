/- The walk of the law of the distance. -/
import Derived.Test.YtgnegofkffiopaaLawGoes
import Derived.Test.YtgnegofkffiopaaCrcTold
namespace Go.Proofs.Ytgnegofkffiopaa
open Go.RowKit

set_option maxHeartbeats 400000 in
theorem far_long (A B : Option Addr) (a b ca cb : Nat) (n : Int) (w : World) (hn : 65536 < a) :
    Calls Try.prog 7 #[.slice A a ca, .slice B b cb, .int .i64 n] w fun e w' => e = .returned (.bool true) ∧ Below w.heap.size w w' := by
  go_enter Try.func7, Try.ntmps7
  go_wp2_with (go_at_call 8; refine (awake_any _).mono ?_; rintro e w' ⟨rfl, hb⟩)
  go_ret
  exact ⟨rfl, hb⟩
set_option maxHeartbeats 400000 in
theorem far_none (A B : Option Addr) (b ca cb : Nat) (n : Int) (w : World) :
    Calls Try.prog 7 #[.slice A 0 ca, .slice B b cb, .int .i64 n] w fun e w' => e = .returned (.bool true) ∧ Below w.heap.size w w' := by
  go_enter Try.func7, Try.ntmps7
  go_wp2_with (go_at_call 8; refine (awake_any _).mono ?_; rintro e w' ⟨rfl, hb⟩)
  go_ret
  exact ⟨rfl, hb⟩

theorem and24 (n : Int) : ∃ m : Nat, m ≤ 16777215 ∧ bits .and .i64 n 16777215 = (m : Int) := by
  have h0 : (BitVec.ofInt 64 n &&& BitVec.ofInt 64 16777215).toNat ≤ 16777215 := by
    rw [BitVec.toNat_and]
    have h : (BitVec.ofInt 64 16777215).toNat = 16777215 := by decide
    rw [h]
    exact Nat.and_le_right
  refine ⟨_, h0, ?_⟩
  show IntKind.i64.wrap ((BitVec.ofInt 64 n &&& BitVec.ofInt 64 16777215).toNat : Int) = _
  rw [IntKind.wrap_i64]
  omega
theorem w_xor8 (x y : UInt8) : bits .xor .u8 (x.toNat : Int) (y.toNat : Int) = ((x ^^^ y).toNat : Int) := by
  rw [u8_xor_nat _ _ x.toNat_lt y.toNat_lt, UInt8.toNat_xor]

theorem exec_shr {P : Program} {u : World} {o : Oper} {a : Act} {t ty : TypeId} {x y : Operand} (ho : o.op = .binOp .shr t x y ty) {k k' : IntKind} {xv : Int} {j : Nat} (hx : a.eval x = .int k xv)
    (hy : a.eval y = .int k' (j : Int)) (hj : j ≤ k.bits) : (execOp a.eval o).run P u = .ok (.value (.int k (shrI xv j))) u := by
  unfold execOp
  simp [ho, hx, hy, run_shr_at _ _ _ _ _ _ hj, eqGuard]

set_option maxRecDepth 100000 in
set_option maxHeartbeats 4000000 in
theorem far_any (A B : Option Addr) (a b : List UInt8) (ca cb : Nat) (n : Int) (w : World) (hA : Bytes w A a) (hB : Bytes w B b)
    (ha0 : 0 < a.length) (ha : a.length ≤ 65536) (hb : b.length ≤ 9223372036854775807) (ha1 : a.length ≤ ca) (ha2 : ca ≤ 9223372036854775807) :
    Calls Try.prog 7 #[.slice A a.length ca, .slice B b.length cb, .int .i64 n] w fun e w' => e = .returned (.bool true) ∧ Below w.heap.size w w' := by
  have hown0 : (w.alloc (.cells #[] 5)).ownsRow w.heap.size 5 1 (.slice (some ⟨w.heap.size, 0, none⟩) 0 0) 0 [] := World.ownsRow_made _ _ _ (Nat.le_refl _) (by simp [maxLen]) rfl
  have hne : ((a.length : Int) == 0) = false := by rw [beq_eq_false_iff_ne]; omega
  have hd : decide ((65536 : Int) < (a.length : Int)) = false := by rw [decide_eq_false_iff_not]; omega
  obtain ⟨m, hm, hm2⟩ := and24 n
  obtain ⟨k, hk, hk2⟩ : ∃ k : Nat, k < a.length ∧ (m : Int) % (a.length : Int) = (k : Int) := ⟨m % a.length, Nat.mod_lt _ ha0, by omega⟩
  go_enter Try.func7, Try.ntmps7
  go_wp2_with (first
    | (at_builtin; refine app_list bytes_ty rfl (s := .tmp 26) (x := .tmp 27) rfl hown0 rfl (Reads.alloc hA _) rfl (bv_one a) (by omega) (by simp) ?_; intro v1 w1 hown1 hg1 _; have hb1 : Below w.heap.size w w1 := (below_new w _).grown hg1 (by simp) (own_ge hown0)))
  rw [Nat.zero_add, List.nil_append] at hown1
  obtain ⟨g1, c1, rfl, hg1', hc1, hc2⟩ := own_ptr hown1 ha0
  have hca : c1 ≤ 9223372036854775807 := hc2
  rw [hk2]
  clear hm2 hk2 hm hne hd
  go_loopw [9] (fun i wr => ∃ (j : Nat) (xs : List UInt8), j ≤ b.length ∧ k + j ≤ a.length ∧ i = .int .i64 j ∧ wr.ownsRow w.heap.size 5 1 (.slice (some ⟨g1, 0, none⟩) a.length c1) a.length (xs.map bv) ∧ Below w.heap.size w wr) (fun i _ => b.length - (intOf i).toNat)
  case atStart => exact ⟨0, _, by omega, by omega, rfl, hown1, hb1⟩
  case round =>
    obtain ⟨j, xs, hj, hkj, rfl, hown, hbr⟩ := hrel
    obtain ⟨s, hs⟩ : ∃ s, s = k + j := ⟨_, rfl⟩
    have hw1 : IntKind.i64.wrap ((k : Int) + (j : Int)) = (s : Int) := by rw [IntKind.wrap_i64]; omega
    have hw2 : wrap64 ((k : Int) + (j : Int)) = (s : Int) := by unfold wrap64; omega
    have HS := Lib.hid hs
    by_cases hlt : j < b.length ∧ s < a.length
    · obtain ⟨hlt1, hlt2⟩ := hlt
      obtain ⟨ad, rfl, had1, had2⟩ := hB.at_ hlt1
      have hcB : wr.cell? (ad.add j) = some (.int .u8 (b[j].toNat : Int)) := (hbr.cell (by rw [add_block]; exact had1)).trans had2
      have hcA := own_at hown hlt2
      have hfr := hown.frozenAt s
      have hst := own_set hown s (xs.getD s 0 ^^^ b[j])
      have hbs := hbr.setCell (p := ⟨g1, s, none⟩) hg1' (.int .u8 ((xs.getD s 0 ^^^ b[j]).toNat : Int))
      have hxo := w_xor8 (xs.getD s 0) b[j]
      obtain ⟨q1, hq1⟩ : ∃ q, q = xs.getD s 0 ^^^ b[j] := ⟨_, rfl⟩
      rw [← hq1] at hst hbs hxo
      clear hq1
      generalize xs.getD s 0 = q at hcA hxo
      generalize b[j] = q2 at hcB hxo
      clear hs hkj
      go_wp2_with fail
      refine PF.pf_begin (by kernel_rfl) ?_
      refine PF.pf_take0 0 (by kernel_rfl) rfl (fun _ _ _ _ _ h => h) (by kernel_rfl) (fun u => by go_simp; try rfl) ?_
      try simp only [Act.put, List.setIfInBounds_toArray, List.set_cons_zero, List.set_cons_succ]
      refine PF.pf_take0 1 (by kernel_rfl) rfl (fun _ _ _ _ _ h => h) (by kernel_rfl) (fun u => by go_simp; try rfl) ?_
      try simp only [Act.put, List.setIfInBounds_toArray, List.set_cons_zero, List.set_cons_succ]
      refine PF.pf_take0 2 (by kernel_rfl) rfl (fun _ _ _ _ _ h => h) (by kernel_rfl) (fun u => by go_simp; try rfl) ?_
      try simp only [Act.put, List.setIfInBounds_toArray, List.set_cons_zero, List.set_cons_succ]
      refine PF.pf_take0 3 (by kernel_rfl) rfl (fun _ _ _ _ _ h => h) (by kernel_rfl) (fun u => by go_simp; try rfl) ?_
      try simp only [Act.put, List.setIfInBounds_toArray, List.set_cons_zero, List.set_cons_succ]
      refine PF.pf_take0 4 (by kernel_rfl) rfl (fun _ _ _ _ _ h => h) (by kernel_rfl) (fun u => by go_simp; try rfl) ?_
      try simp only [Act.put, List.setIfInBounds_toArray, List.set_cons_zero, List.set_cons_succ]
      refine PF.pf_take1 5 (PF.Same (g1) _) (by kernel_rfl) rfl (fun _ _ _ _ _ h => h) (by kernel_rfl) (PF.Same.refl _ _) (fun u hu => by have hcu := hu.cell; go_simp; try rfl) ?_
      try simp only [Act.put, List.setIfInBounds_toArray, List.set_cons_zero, List.set_cons_succ]
      refine PF.pf_take0 6 (by kernel_rfl) rfl (fun _ _ _ _ _ h => h) (by kernel_rfl) (fun u => by go_simp; try rfl) ?_
      try simp only [Act.put, List.setIfInBounds_toArray, List.set_cons_zero, List.set_cons_succ]
      refine PF.pf_take0 7 (by kernel_rfl) rfl (fun _ _ _ _ _ h => h) (by kernel_rfl) (fun u => by go_simp; try rfl) ?_
      try simp only [Act.put, List.setIfInBounds_toArray, List.set_cons_zero, List.set_cons_succ]
      refine PF.pf_take0 8 (by kernel_rfl) rfl (fun _ _ _ _ _ h => h) (by kernel_rfl) (fun u => by go_simp; try rfl) ?_
      try simp only [Act.put, List.setIfInBounds_toArray, List.set_cons_zero, List.set_cons_succ]
      refine PF.pf_take1 9 (PF.Same (ad.block) _) (by kernel_rfl) rfl (fun _ _ _ _ _ h => h) (by kernel_rfl) (PF.Same.refl _ _) (fun u hu => by have hcu := hu.cell; (have hcu2 := (hu.cell (ad.add j) (add_block _ _)).trans hcB; clear hcu; go_simp; try rfl)) ?_
      try simp only [Act.put, List.setIfInBounds_toArray, List.set_cons_zero, List.set_cons_succ]
      refine PF.pf_take0 10 (by kernel_rfl) rfl (fun _ _ _ _ _ h => h) (by kernel_rfl) (fun u => by go_simp; try rfl) ?_
      try simp only [Act.put, List.setIfInBounds_toArray, List.set_cons_zero, List.set_cons_succ]
      refine PF.pf_take0 11 (by kernel_rfl) rfl (fun _ _ _ _ _ h => h) (by kernel_rfl) (fun u => by go_simp; try rfl) ?_
      try simp only [Act.put, List.setIfInBounds_toArray, List.set_cons_zero, List.set_cons_succ]
      refine PF.pf_exec 12 (by kernel_rfl) rfl (by kernel_rfl) (fun K hK => ?_)
      go_simp
      refine hK _ _ (by repeat (first | exact PF.owes_nil | refine PF.owes_left ?_ | refine PF.owes_no (by decide +kernel) ?_ | refine PF.owes_yes (by first | rfl | assumption | go_simp) ?_)) ?_
      clear hK K
      try simp only [Act.put, List.setIfInBounds_toArray, List.set_cons_zero, List.set_cons_succ]
      refine PF.pf_done (by kernel_rfl) ?_
      clear hw1 hw2
      go_wp2_with fail
      go_roundw
      case rel => exact ⟨j + 1, xs.set s q1, by omega, by have := HS.out; omega, by go_num, hst, hbs.drew⟩
      case measure => simp [intOf]; omega
    · have hxa := conv_str (P := Try.prog) (c := ca) Try.underlying23 Try.underlying5 Try.underlying9 (hA.below hbr) rfl
      have hxl := own_len hown
      have hxc := conv_str (P := Try.prog) (c := c1) Try.underlying23 Try.underlying5 Try.underlying9 (own_bytes hown) hxl
      clear hs hkj hB hown1 hb1 hg1 hown0
      by_cases heq : a = xs
      · have hbq : (a == xs) = true := by rw [beq_iff_eq]; exact heq
        clear heq
        rcases Nat.lt_or_ge j b.length with hlt1 | hlt1
        · clear hw1
          have hd1 : decide ((s : Int) < (a.length : Int)) = false := by rw [decide_eq_false_iff_not]; omega
          go_wp2_with (go_at_call 8; refine (awake_any _).mono ?_; rintro e w' ⟨rfl, hb⟩)
          go_ret
          exact ⟨rfl, below_call hbr hbr.size hb⟩
        · clear hw1 hw2
          go_wp2_with (go_at_call 8; refine (awake_any _).mono ?_; rintro e w' ⟨rfl, hb⟩)
          go_ret
          exact ⟨rfl, below_call hbr hbr.size hb⟩
      · have hbq : (a == xs) = false := by rw [beq_eq_false_iff_ne]; exact heq
        have HNE := Lib.hid heq
        clear heq
        rcases Nat.lt_or_ge j b.length with hlt1 | hlt1
        case' inl =>
          clear hw1
          have hd1 : decide ((s : Int) < (a.length : Int)) = false := by rw [decide_eq_false_iff_not]; omega
          go_wp2_with fail
          clear hd1 hw2 hlt1
        case' inr =>
          clear hw1 hw2
          go_wp2_with fail
          clear hlt1
        all_goals
          clear hlt HS hbq hxa hxc
          refine (seal_any _ _ a _ (hA.below hbr) (by omega) ha1 ha2).mono ?_
          rintro e w2 ⟨v2, rfl, hown2, hb2⟩
          have k2 := below_call hbr hbr.size hb2
          go_wp2_with fail
          have hse := seal_any (some ⟨g1, 0, none⟩) c1 xs w2 (own_bytes (own_call hown hb2)) (by omega) (by omega) hca
          rw [hxl] at hse
          refine hse.mono ?_
          clear hse
          rintro e w3 ⟨v3, rfl, hown3, hb3⟩
          have hown2' := own_call hown2 hb3
          have hbw := below_call k2 k2.size hb3
          obtain ⟨g2, c2, rfl, _, _, _⟩ := own_ptr hown2 (by omega)
          obtain ⟨g3, c3, rfl, _, _, _⟩ := own_ptr hown3 (by omega)
          clear hown2 hb3 hb2 k2 hbr hown
          obtain ⟨X, hX⟩ : ∃ X, X = Crc.sealed a := ⟨_, rfl⟩
          obtain ⟨Y, hY⟩ : ∃ Y, Y = Crc.sealed xs := ⟨_, rfl⟩
          rw [← hX] at hown2'
          rw [← hY] at hown3
          have hXl := own_len hown2'
          have hYl := own_len hown3
          have hfar : 4 ≤ (Crc.TT X Y (8 * (a.length + 4))).many ∧ 32 ≤ (Crc.TT X Y (8 * (a.length + 4))).last - (Crc.TT X Y (8 * (a.length + 4))).first := by
            rw [← hXl, Crc.TT_all X Y (hXl.trans hYl.symm), hX, hY]
            exact Crc.far a xs hxl.symm HNE.out (by omega)
          have HFAR := Lib.hid hfar
          have HXL := Lib.hid hXl
          have HYL := Lib.hid hYl
          clear hX hY hfar HNE hXl hYl hxl
          go_wp2_with fail
          have hal : a.length + 4 ≤ 70000 := by omega
          clear hk ha0 ha hb ha1 ha2 hA hg1' hc1 hc2 hca hj
          go_loopw [12, 13, 14, 15] (fun f l m i wq => ∃ p : Nat, p ≤ a.length + 4 ∧ i = .int .i64 p ∧ f = .int .i64 (Crc.TT X Y (8 * p)).first ∧ l = .int .i64 (Crc.TT X Y (8 * p)).last ∧ m = .int .i64 (Crc.TT X Y (8 * p)).many ∧ Below w3.heap.size w3 wq) (fun _ _ _ i _ => a.length + 4 - (intOf i).toNat)
          case atStart => exact ⟨0, by omega, rfl, rfl, rfl, rfl, Below.refl _ _⟩
          case round =>
            obtain ⟨p, hp, rfl, rfl, rfl, rfl, hq⟩ := hrel
            by_cases hlt : p < a.length + 4
            · go_wp2_with fail
              obtain ⟨wo, hwo⟩ : ∃ wo : World, wo = wr := ⟨_, rfl⟩
              rw [← hwo]
              rw [← hwo] at hq
              clear hwo
              go_loopw [12, 13, 14, 16] (fun f l m i wi => ∃ q : Nat, q ≤ 8 ∧ i = .int .i64 q ∧ f = .int .i64 (Crc.TT X Y (8 * p + q)).first ∧ l = .int .i64 (Crc.TT X Y (8 * p + q)).last ∧ m = .int .i64 (Crc.TT X Y (8 * p + q)).many ∧ Below w3.heap.size w3 wi) (fun _ _ _ i _ => 8 - (intOf i).toNat)
              case atStart => exact ⟨0, by omega, rfl, rfl, rfl, rfl, hq⟩
              case round =>
                obtain ⟨q, hq8, rfl, rfl, rfl, rfl, hqi⟩ := hrel
                have hcX := own_at (own_call hown2' hqi) hlt
                have hcY := own_at (own_call hown3 hqi) hlt
                have hbd := Crc.TT_bounds X Y (8 * p + q)
                have HSAME := Lib.hid (Crc.TT_same' X Y _ p q hq8 hlt HXL.out HYL.out)
                have HBIT := Lib.hid (fun h8 : q < 8 => Crc.TT_bit' X Y _ p q h8 hlt HXL.out HYL.out)
                generalize X.getD p 0 = x at hcX HSAME HBIT
                generalize Y.getD p 0 = y at hcY HSAME HBIT
                obtain ⟨T, hT⟩ : ∃ T, T = Crc.TT X Y (8 * p + q) := ⟨_, rfl⟩
                rw [← hT] at hbd HSAME HBIT ⊢
                clear hT
                by_cases hgo : q < 8 ∧ x ≠ y
                · obtain ⟨h8, hxy⟩ := hgo
                  have hd8 : decide ((q : Int) < 8) = true := by rw [decide_eq_true_iff]; omega
                  have hxn : x.toNat ≠ y.toNat := fun e => hxy (UInt8.toNat_inj.1 e)
                  have hbe : ((x.toNat : Int) != (y.toNat : Int)) = true := by rw [bne_iff_ne]; omega
                  have hxo := w_xor8 x y
                  have hone := Crc.w_one8 x y q
                  have HB := HBIT.out h8
                  generalize x ^^^ y = z at hxo hone
                  generalize hbb : (x.toNat.testBit q ^^ y.toNat.testBit q) = b at hone HB
                  have HT := Lib.hid HB
                  clear hxy hxn HB hbb HBIT HSAME
                  go_wp2_with fail
                  refine PF.pf_begin (by kernel_rfl) ?_
                  refine PF.pf_take0 0 (by kernel_rfl) rfl (fun _ _ _ _ _ h => h) (by kernel_rfl) (fun u => by go_simp; try rfl) ?_
                  try simp only [Act.put, List.setIfInBounds_toArray, List.set_cons_zero, List.set_cons_succ]
                  refine PF.pf_take0 1 (by kernel_rfl) rfl (fun _ _ _ _ _ h => h) (by kernel_rfl) (fun u => by go_simp; try rfl) ?_
                  try simp only [Act.put, List.setIfInBounds_toArray, List.set_cons_zero, List.set_cons_succ]
                  refine PF.pf_take0 2 (by kernel_rfl) rfl (fun _ _ _ _ _ h => h) (by kernel_rfl) (fun u => by go_simp; try rfl) ?_
                  try simp only [Act.put, List.setIfInBounds_toArray, List.set_cons_zero, List.set_cons_succ]
                  refine PF.pf_take0 3 (by kernel_rfl) rfl (fun _ _ _ _ _ h => h) (by kernel_rfl) (fun u => by go_simp; try rfl) ?_
                  try simp only [Act.put, List.setIfInBounds_toArray, List.set_cons_zero, List.set_cons_succ]
                  refine PF.pf_take0 4 (by kernel_rfl) rfl (fun _ _ _ _ _ h => h) (by kernel_rfl) (fun u => by go_simp; try rfl) ?_
                  try simp only [Act.put, List.setIfInBounds_toArray, List.set_cons_zero, List.set_cons_succ]
                  refine PF.pf_take0 5 (by kernel_rfl) rfl (fun _ _ _ _ _ h => h) (by kernel_rfl) (fun u => by go_simp; try rfl) ?_
                  try simp only [Act.put, List.setIfInBounds_toArray, List.set_cons_zero, List.set_cons_succ]
                  refine PF.pf_take1 6 (PF.Same (g2) _) (by kernel_rfl) rfl (fun _ _ _ _ _ h => h) (by kernel_rfl) (PF.Same.refl _ _) (fun u hu => by have hcu := hu.cell; go_simp; try rfl) ?_
                  try simp only [Act.put, List.setIfInBounds_toArray, List.set_cons_zero, List.set_cons_succ]
                  refine PF.pf_take0 7 (by kernel_rfl) rfl (fun _ _ _ _ _ h => h) (by kernel_rfl) (fun u => by go_simp; try rfl) ?_
                  try simp only [Act.put, List.setIfInBounds_toArray, List.set_cons_zero, List.set_cons_succ]
                  refine PF.pf_take0 8 (by kernel_rfl) rfl (fun _ _ _ _ _ h => h) (by kernel_rfl) (fun u => by go_simp; try rfl) ?_
                  try simp only [Act.put, List.setIfInBounds_toArray, List.set_cons_zero, List.set_cons_succ]
                  refine PF.pf_take0 9 (by kernel_rfl) rfl (fun _ _ _ _ _ h => h) (by kernel_rfl) (fun u => by go_simp; try rfl) ?_
                  try simp only [Act.put, List.setIfInBounds_toArray, List.set_cons_zero, List.set_cons_succ]
                  refine PF.pf_take1 10 (PF.Same (g3) _) (by kernel_rfl) rfl (fun _ _ _ _ _ h => h) (by kernel_rfl) (PF.Same.refl _ _) (fun u hu => by have hcu := hu.cell; go_simp; try rfl) ?_
                  try simp only [Act.put, List.setIfInBounds_toArray, List.set_cons_zero, List.set_cons_succ]
                  refine PF.pf_take0 11 (by kernel_rfl) rfl (fun _ _ _ _ _ h => h) (by kernel_rfl) (fun u => by (go_simp; first | rw [hbe] | skip; rfl)) ?_
                  try simp only [Act.put, List.setIfInBounds_toArray, List.set_cons_zero, List.set_cons_succ]
                  refine PF.pf_take0 12 (by kernel_rfl) rfl (fun _ _ _ _ _ h => h) (by kernel_rfl) (fun u => by go_simp; try rfl) ?_
                  try simp only [Act.put, List.setIfInBounds_toArray, List.set_cons_zero, List.set_cons_succ]
                  refine PF.pf_done (by kernel_rfl) ?_
                  go_wp2_with fail
                  cases b
                  · rw [Crc.tell_off] at HT
                    refine PF.pf_begin (by kernel_rfl) ?_
                    refine PF.pf_take0 0 (by kernel_rfl) rfl (fun _ _ _ _ _ h => h) (by kernel_rfl) (fun u => by go_simp; try rfl) ?_
                    try simp only [Act.put, List.setIfInBounds_toArray, List.set_cons_zero, List.set_cons_succ]
                    refine PF.pf_take0 1 (by kernel_rfl) rfl (fun _ _ _ _ _ h => h) (by kernel_rfl) (fun u => by go_simp; try rfl) ?_
                    try simp only [Act.put, List.setIfInBounds_toArray, List.set_cons_zero, List.set_cons_succ]
                    refine PF.pf_take0 2 (by kernel_rfl) rfl (fun _ _ _ _ _ h => h) (by kernel_rfl) (fun u => by go_simp; try rfl) ?_
                    try simp only [Act.put, List.setIfInBounds_toArray, List.set_cons_zero, List.set_cons_succ]
                    refine PF.pf_take1 3 (PF.Same (g2) _) (by kernel_rfl) rfl (fun _ _ _ _ _ h => h) (by kernel_rfl) (PF.Same.refl _ _) (fun u hu => by have hcu := hu.cell; go_simp; try rfl) ?_
                    try simp only [Act.put, List.setIfInBounds_toArray, List.set_cons_zero, List.set_cons_succ]
                    refine PF.pf_take0 4 (by kernel_rfl) rfl (fun _ _ _ _ _ h => h) (by kernel_rfl) (fun u => by go_simp; try rfl) ?_
                    try simp only [Act.put, List.setIfInBounds_toArray, List.set_cons_zero, List.set_cons_succ]
                    refine PF.pf_take0 5 (by kernel_rfl) rfl (fun _ _ _ _ _ h => h) (by kernel_rfl) (fun u => by go_simp; try rfl) ?_
                    try simp only [Act.put, List.setIfInBounds_toArray, List.set_cons_zero, List.set_cons_succ]
                    refine PF.pf_take0 6 (by kernel_rfl) rfl (fun _ _ _ _ _ h => h) (by kernel_rfl) (fun u => by go_simp; try rfl) ?_
                    try simp only [Act.put, List.setIfInBounds_toArray, List.set_cons_zero, List.set_cons_succ]
                    refine PF.pf_take1 7 (PF.Same (g3) _) (by kernel_rfl) rfl (fun _ _ _ _ _ h => h) (by kernel_rfl) (PF.Same.refl _ _) (fun u hu => by have hcu := hu.cell; go_simp; try rfl) ?_
                    try simp only [Act.put, List.setIfInBounds_toArray, List.set_cons_zero, List.set_cons_succ]
                    refine PF.pf_take0 8 (by kernel_rfl) rfl (fun _ _ _ _ _ h => h) (by kernel_rfl) (fun u => by go_simp; try rfl) ?_
                    try simp only [Act.put, List.setIfInBounds_toArray, List.set_cons_zero, List.set_cons_succ]
                    refine PF.pf_take0 9 (by kernel_rfl) rfl (fun _ _ _ _ _ h => h) (by kernel_rfl) (fun u => by go_simp; try rfl) ?_
                    try simp only [Act.put, List.setIfInBounds_toArray, List.set_cons_zero, List.set_cons_succ]
                    refine PF.pf_take0 10 (by kernel_rfl) rfl (fun _ _ _ _ _ h => h) (by kernel_rfl) (fun u => by exact exec_shr rfl rfl rfl (by show q ≤ 8; omega)) ?_
                    try simp only [Act.put, List.setIfInBounds_toArray, List.set_cons_zero, List.set_cons_succ]
                    refine PF.pf_take0 11 (by kernel_rfl) rfl (fun _ _ _ _ _ h => h) (by kernel_rfl) (fun u => by go_simp; try rfl) ?_
                    try simp only [Act.put, List.setIfInBounds_toArray, List.set_cons_zero, List.set_cons_succ]
                    refine PF.pf_take0 12 (by kernel_rfl) rfl (fun _ _ _ _ _ h => h) (by kernel_rfl) (fun u => by go_simp; try rfl) ?_
                    try simp only [Act.put, List.setIfInBounds_toArray, List.set_cons_zero, List.set_cons_succ]
                    refine PF.pf_done (by kernel_rfl) ?_
                    go_wp2_with fail
                    go_roundw
                    case rel => exact ⟨q + 1, by omega, by go_num, by rw [HT.out], by rw [HT.out], by rw [HT.out], by first | exact hqi.drew.drew | exact hqi.drew⟩
                    case measure => simp [intOf]; omega
                  · skip
                    refine PF.pf_begin (by kernel_rfl) ?_
                    refine PF.pf_take0 0 (by kernel_rfl) rfl (fun _ _ _ _ _ h => h) (by kernel_rfl) (fun u => by go_simp; try rfl) ?_
                    try simp only [Act.put, List.setIfInBounds_toArray, List.set_cons_zero, List.set_cons_succ]
                    refine PF.pf_take0 1 (by kernel_rfl) rfl (fun _ _ _ _ _ h => h) (by kernel_rfl) (fun u => by go_simp; try rfl) ?_
                    try simp only [Act.put, List.setIfInBounds_toArray, List.set_cons_zero, List.set_cons_succ]
                    refine PF.pf_take0 2 (by kernel_rfl) rfl (fun _ _ _ _ _ h => h) (by kernel_rfl) (fun u => by go_simp; try rfl) ?_
                    try simp only [Act.put, List.setIfInBounds_toArray, List.set_cons_zero, List.set_cons_succ]
                    refine PF.pf_take1 3 (PF.Same (g2) _) (by kernel_rfl) rfl (fun _ _ _ _ _ h => h) (by kernel_rfl) (PF.Same.refl _ _) (fun u hu => by have hcu := hu.cell; go_simp; try rfl) ?_
                    try simp only [Act.put, List.setIfInBounds_toArray, List.set_cons_zero, List.set_cons_succ]
                    refine PF.pf_take0 4 (by kernel_rfl) rfl (fun _ _ _ _ _ h => h) (by kernel_rfl) (fun u => by go_simp; try rfl) ?_
                    try simp only [Act.put, List.setIfInBounds_toArray, List.set_cons_zero, List.set_cons_succ]
                    refine PF.pf_take0 5 (by kernel_rfl) rfl (fun _ _ _ _ _ h => h) (by kernel_rfl) (fun u => by go_simp; try rfl) ?_
                    try simp only [Act.put, List.setIfInBounds_toArray, List.set_cons_zero, List.set_cons_succ]
                    refine PF.pf_take0 6 (by kernel_rfl) rfl (fun _ _ _ _ _ h => h) (by kernel_rfl) (fun u => by go_simp; try rfl) ?_
                    try simp only [Act.put, List.setIfInBounds_toArray, List.set_cons_zero, List.set_cons_succ]
                    refine PF.pf_take1 7 (PF.Same (g3) _) (by kernel_rfl) rfl (fun _ _ _ _ _ h => h) (by kernel_rfl) (PF.Same.refl _ _) (fun u hu => by have hcu := hu.cell; go_simp; try rfl) ?_
                    try simp only [Act.put, List.setIfInBounds_toArray, List.set_cons_zero, List.set_cons_succ]
                    refine PF.pf_take0 8 (by kernel_rfl) rfl (fun _ _ _ _ _ h => h) (by kernel_rfl) (fun u => by go_simp; try rfl) ?_
                    try simp only [Act.put, List.setIfInBounds_toArray, List.set_cons_zero, List.set_cons_succ]
                    refine PF.pf_take0 9 (by kernel_rfl) rfl (fun _ _ _ _ _ h => h) (by kernel_rfl) (fun u => by go_simp; try rfl) ?_
                    try simp only [Act.put, List.setIfInBounds_toArray, List.set_cons_zero, List.set_cons_succ]
                    refine PF.pf_take0 10 (by kernel_rfl) rfl (fun _ _ _ _ _ h => h) (by kernel_rfl) (fun u => by exact exec_shr rfl rfl rfl (by show q ≤ 8; omega)) ?_
                    try simp only [Act.put, List.setIfInBounds_toArray, List.set_cons_zero, List.set_cons_succ]
                    refine PF.pf_take0 11 (by kernel_rfl) rfl (fun _ _ _ _ _ h => h) (by kernel_rfl) (fun u => by go_simp; try rfl) ?_
                    try simp only [Act.put, List.setIfInBounds_toArray, List.set_cons_zero, List.set_cons_succ]
                    refine PF.pf_take0 12 (by kernel_rfl) rfl (fun _ _ _ _ _ h => h) (by kernel_rfl) (fun u => by go_simp; try rfl) ?_
                    try simp only [Act.put, List.setIfInBounds_toArray, List.set_cons_zero, List.set_cons_succ]
                    refine PF.pf_done (by kernel_rfl) ?_
                    by_cases hneg : T.first < 0
                    · have hd : decide (T.first < 0) = true := by rw [decide_eq_true_iff]; exact hneg
                      rw [Crc.tell_new _ hneg] at HT
                      go_wp2_with fail
                      go_roundw
                      case rel => exact ⟨q + 1, by omega, by go_num, by rw [HT.out] <;> go_num, by rw [HT.out] <;> go_num, by rw [HT.out] <;> go_num, by first | exact hqi.drew.drew | exact hqi.drew⟩
                      case measure => simp [intOf]; omega
                    · have hd : decide (T.first < 0) = false := by rw [decide_eq_false_iff_not]; exact hneg
                      rw [Crc.tell_old _ hneg] at HT
                      go_wp2_with fail
                      go_roundw
                      case rel => exact ⟨q + 1, by omega, by go_num, by rw [HT.out], by rw [HT.out] <;> go_num, by rw [HT.out] <;> go_num, by first | exact hqi.drew.drew | exact hqi.drew⟩
                      case measure => simp [intOf]; omega
                · have HS1 := Lib.hid (HSAME.out fun h8 => Classical.byContradiction fun hxy => hgo ⟨h8, hxy⟩)
                  clear HSAME HBIT
                  rcases Nat.lt_or_ge q 8 with h8 | h8
                  · have hd8 : decide ((q : Int) < 8) = true := by rw [decide_eq_true_iff]; omega
                    have hxy : x = y := Classical.byContradiction fun hxy => hgo ⟨h8, hxy⟩
                    subst hxy
                    have hbe : ((x.toNat : Int) != (x.toNat : Int)) = false := by rw [bne_self_eq_false]
                    clear hgo
                    go_wp2_with fail
                    refine PF.pf_begin (by kernel_rfl) ?_
                    refine PF.pf_take0 0 (by kernel_rfl) rfl (fun _ _ _ _ _ h => h) (by kernel_rfl) (fun u => by go_simp; try rfl) ?_
                    try simp only [Act.put, List.setIfInBounds_toArray, List.set_cons_zero, List.set_cons_succ]
                    refine PF.pf_take0 1 (by kernel_rfl) rfl (fun _ _ _ _ _ h => h) (by kernel_rfl) (fun u => by go_simp; try rfl) ?_
                    try simp only [Act.put, List.setIfInBounds_toArray, List.set_cons_zero, List.set_cons_succ]
                    refine PF.pf_take0 2 (by kernel_rfl) rfl (fun _ _ _ _ _ h => h) (by kernel_rfl) (fun u => by go_simp; try rfl) ?_
                    try simp only [Act.put, List.setIfInBounds_toArray, List.set_cons_zero, List.set_cons_succ]
                    refine PF.pf_take0 3 (by kernel_rfl) rfl (fun _ _ _ _ _ h => h) (by kernel_rfl) (fun u => by go_simp; try rfl) ?_
                    try simp only [Act.put, List.setIfInBounds_toArray, List.set_cons_zero, List.set_cons_succ]
                    refine PF.pf_take0 4 (by kernel_rfl) rfl (fun _ _ _ _ _ h => h) (by kernel_rfl) (fun u => by go_simp; try rfl) ?_
                    try simp only [Act.put, List.setIfInBounds_toArray, List.set_cons_zero, List.set_cons_succ]
                    refine PF.pf_take0 5 (by kernel_rfl) rfl (fun _ _ _ _ _ h => h) (by kernel_rfl) (fun u => by go_simp; try rfl) ?_
                    try simp only [Act.put, List.setIfInBounds_toArray, List.set_cons_zero, List.set_cons_succ]
                    refine PF.pf_take1 6 (PF.Same (g2) _) (by kernel_rfl) rfl (fun _ _ _ _ _ h => h) (by kernel_rfl) (PF.Same.refl _ _) (fun u hu => by have hcu := hu.cell; go_simp; try rfl) ?_
                    try simp only [Act.put, List.setIfInBounds_toArray, List.set_cons_zero, List.set_cons_succ]
                    refine PF.pf_take0 7 (by kernel_rfl) rfl (fun _ _ _ _ _ h => h) (by kernel_rfl) (fun u => by go_simp; try rfl) ?_
                    try simp only [Act.put, List.setIfInBounds_toArray, List.set_cons_zero, List.set_cons_succ]
                    refine PF.pf_take0 8 (by kernel_rfl) rfl (fun _ _ _ _ _ h => h) (by kernel_rfl) (fun u => by go_simp; try rfl) ?_
                    try simp only [Act.put, List.setIfInBounds_toArray, List.set_cons_zero, List.set_cons_succ]
                    refine PF.pf_take0 9 (by kernel_rfl) rfl (fun _ _ _ _ _ h => h) (by kernel_rfl) (fun u => by go_simp; try rfl) ?_
                    try simp only [Act.put, List.setIfInBounds_toArray, List.set_cons_zero, List.set_cons_succ]
                    refine PF.pf_take1 10 (PF.Same (g3) _) (by kernel_rfl) rfl (fun _ _ _ _ _ h => h) (by kernel_rfl) (PF.Same.refl _ _) (fun u hu => by have hcu := hu.cell; go_simp; try rfl) ?_
                    try simp only [Act.put, List.setIfInBounds_toArray, List.set_cons_zero, List.set_cons_succ]
                    refine PF.pf_take0 11 (by kernel_rfl) rfl (fun _ _ _ _ _ h => h) (by kernel_rfl) (fun u => by (go_simp; first | rw [hbe] | skip; rfl)) ?_
                    try simp only [Act.put, List.setIfInBounds_toArray, List.set_cons_zero, List.set_cons_succ]
                    refine PF.pf_take0 12 (by kernel_rfl) rfl (fun _ _ _ _ _ h => h) (by kernel_rfl) (fun u => by go_simp; try rfl) ?_
                    try simp only [Act.put, List.setIfInBounds_toArray, List.set_cons_zero, List.set_cons_succ]
                    refine PF.pf_done (by kernel_rfl) ?_
                    go_wp2_with fail
                    go_roundw
                    case rel => exact ⟨p + 1, by omega, by go_num, by rw [HS1.out], by rw [HS1.out], by rw [HS1.out], hqi.drew⟩
                    case measure => simp [intOf]; omega
                  · have hd8 : decide ((q : Int) < 8) = false := by rw [decide_eq_false_iff_not]; omega
                    clear hgo
                    go_wp2_with fail
                    refine PF.pf_begin (by kernel_rfl) ?_
                    refine PF.pf_take0 0 (by kernel_rfl) rfl (fun _ _ _ _ _ h => h) (by kernel_rfl) (fun u => by go_simp; try rfl) ?_
                    try simp only [Act.put, List.setIfInBounds_toArray, List.set_cons_zero, List.set_cons_succ]
                    refine PF.pf_take0 1 (by kernel_rfl) rfl (fun _ _ _ _ _ h => h) (by kernel_rfl) (fun u => by go_simp; try rfl) ?_
                    try simp only [Act.put, List.setIfInBounds_toArray, List.set_cons_zero, List.set_cons_succ]
                    refine PF.pf_take0 2 (by kernel_rfl) rfl (fun _ _ _ _ _ h => h) (by kernel_rfl) (fun u => by go_simp; try rfl) ?_
                    try simp only [Act.put, List.setIfInBounds_toArray, List.set_cons_zero, List.set_cons_succ]
                    refine PF.pf_skip0 3 (by kernel_rfl) rfl (fun _ _ _ _ _ h => h) (by kernel_rfl) ?_
                    try simp only [Act.put, List.setIfInBounds_toArray, List.set_cons_zero, List.set_cons_succ]
                    refine PF.pf_skip0 4 (by kernel_rfl) rfl (fun _ _ _ _ _ h => h) (by kernel_rfl) ?_
                    try simp only [Act.put, List.setIfInBounds_toArray, List.set_cons_zero, List.set_cons_succ]
                    refine PF.pf_skip0 5 (by kernel_rfl) rfl (fun _ _ _ _ _ h => h) (by kernel_rfl) ?_
                    try simp only [Act.put, List.setIfInBounds_toArray, List.set_cons_zero, List.set_cons_succ]
                    refine PF.pf_skip0 6 (by kernel_rfl) rfl (fun _ _ _ _ _ h => h) (by kernel_rfl) ?_
                    try simp only [Act.put, List.setIfInBounds_toArray, List.set_cons_zero, List.set_cons_succ]
                    refine PF.pf_skip0 7 (by kernel_rfl) rfl (fun _ _ _ _ _ h => h) (by kernel_rfl) ?_
                    try simp only [Act.put, List.setIfInBounds_toArray, List.set_cons_zero, List.set_cons_succ]
                    refine PF.pf_skip0 8 (by kernel_rfl) rfl (fun _ _ _ _ _ h => h) (by kernel_rfl) ?_
                    try simp only [Act.put, List.setIfInBounds_toArray, List.set_cons_zero, List.set_cons_succ]
                    refine PF.pf_skip0 9 (by kernel_rfl) rfl (fun _ _ _ _ _ h => h) (by kernel_rfl) ?_
                    try simp only [Act.put, List.setIfInBounds_toArray, List.set_cons_zero, List.set_cons_succ]
                    refine PF.pf_skip0 10 (by kernel_rfl) rfl (fun _ _ _ _ _ h => h) (by kernel_rfl) ?_
                    try simp only [Act.put, List.setIfInBounds_toArray, List.set_cons_zero, List.set_cons_succ]
                    refine PF.pf_skip0 11 (by kernel_rfl) rfl (fun _ _ _ _ _ h => h) (by kernel_rfl) ?_
                    try simp only [Act.put, List.setIfInBounds_toArray, List.set_cons_zero, List.set_cons_succ]
                    refine PF.pf_take0 12 (by kernel_rfl) rfl (fun _ _ _ _ _ h => h) (by kernel_rfl) (fun u => by go_simp; try rfl) ?_
                    try simp only [Act.put, List.setIfInBounds_toArray, List.set_cons_zero, List.set_cons_succ]
                    refine PF.pf_done (by kernel_rfl) ?_
                    go_wp2_with fail
                    go_roundw
                    case rel => exact ⟨p + 1, by omega, by go_num, by rw [HS1.out], by rw [HS1.out], by rw [HS1.out], hqi.drew⟩
                    case measure => simp [intOf]; omega
            · have hpl : p = a.length + 4 := by omega
              subst hpl
              have hbd := Crc.TT_bounds X Y (8 * (a.length + 4))
              obtain ⟨hf1, hf2⟩ := HFAR.out
              clear HFAR
              generalize Crc.TT X Y (8 * (a.length + 4)) = T at hbd hf1 hf2 ⊢
              have hd4 : decide (T.many ≥ 4) = true := by rw [decide_eq_true_iff]; exact hf1
              have hd32 : decide (T.last - T.first ≥ 32) = true := by rw [decide_eq_true_iff]; exact hf2
              clear hlt
              go_wp2_with (go_at_call 8; refine (awake_any _).mono ?_; rintro e w' ⟨rfl, hb⟩)
              go_ret
              exact ⟨rfl, below_call (below_call hbw hbw.size hq) (below_call hbw hbw.size hq).size hb⟩

namespace SumFar
theorem walk {w : World} (A : Option Addr) (a : List UInt8) (ca : Nat) (hA : Bytes w A a) (ha1 : a.length ≤ ca) (ha2 : ca ≤ 9223372036854775807)
    (B : Option Addr) (b : List UInt8) (cb : Nat) (hB : Bytes w B b) (hb1 : b.length ≤ cb) (hb2 : cb ≤ 9223372036854775807)
    (n : Int) (_ : (Lit.int .i64 n).wf = true) :
    Calls Try.prog 7 #[.slice A a.length ca, .slice B b.length cb, .int .i64 n] w fun e w' => e = .returned (.bool true) ∧ Below w.heap.size w w' := by
  by_cases ha : a.length ≤ 65536
  · rcases Nat.eq_zero_or_pos a.length with h0 | h0
    · rw [h0]
      exact far_none A B b.length ca cb n w
    · exact far_any A B a b ca cb n w hA hB h0 ha (by omega) ha1 ha2
  · exact far_long A B a.length b.length ca cb n w (by omega)
end SumFar
end Go.Proofs.Ytgnegofkffiopaa
