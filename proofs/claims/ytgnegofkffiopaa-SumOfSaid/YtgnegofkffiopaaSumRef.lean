/- The walks of the reference's sum. -/
import Derived.Test.YtgnegofkffiopaaSumC
import Derived.Test.YtgnegofkffiopaaCrcLaw
namespace Go.Proofs.Ytgnegofkffiopaa
open Go.RowKit

namespace Crc
theorem xor_hi (a : Nat) (ha : a < 4294967296) : a ^^^ 4294967296 = a + 4294967296 := by
  have h1 : a + 4294967296 = 2 ^ 32 ||| a := by
    have := Nat.two_pow_add_eq_or_of_lt (i := 32) (b := a) (by simpa using ha) 1
    simp only [Nat.mul_one] at this
    rw [← this, Nat.add_comm]
  rw [h1]
  apply Nat.eq_of_testBit_eq
  intro i
  rw [Nat.testBit_xor, Nat.testBit_or, show (4294967296 : Nat) = 2 ^ 32 from rfl, Nat.testBit_two_pow]
  by_cases hi : 32 = i
  · subst hi
    simp [Nat.testBit_lt_two_pow (show a < 2 ^ 32 from ha)]
  · simp [hi]
theorem hi_xor (a : Nat) (ha : a < 4294967296) : (a + 4294967296) ^^^ 4294967296 = a := by
  rw [← xor_hi a ha, Nat.xor_assoc, Nat.xor_self, Nat.xor_zero]

/-- The step of the reference, on numbers: the doubled register, the bit at the place 32. -/
theorem stepR_num (x : BitVec 32) (b : Bool) : (x.toNat * 2) ^^^ (b.toNat * 4294967296) = (x <<< 1).toNat + (if x.msb ^^ b then 4294967296 else 0) := by
  have hx := x.isLt
  have h1 : (x <<< 1).toNat = x.toNat * 2 % 4294967296 := by rw [BitVec.toNat_shiftLeft, Nat.shiftLeft_eq]
  have h2 := (x <<< 1).isLt
  rw [h1] at h2 ⊢
  rw [BitVec.msb_eq_decide]
  by_cases hm : 2147483648 ≤ x.toNat
  · have e : x.toNat * 2 = x.toNat * 2 % 4294967296 + 4294967296 := by omega
    generalize x.toNat * 2 % 4294967296 = lo at *
    rw [e]
    cases b
    · simp [hm]
    · simp [hm]
      exact hi_xor lo h2
  · have e : x.toNat * 2 = x.toNat * 2 % 4294967296 := by omega
    generalize x.toNat * 2 % 4294967296 = lo at *
    rw [e]
    cases b
    · simp [hm]
    · simp [hm]
      exact xor_hi lo h2
theorem stepR_no (x : BitVec 32) (b : Bool) (h : (x.msb ^^ b) = false) : stepR x b = x <<< 1 := by unfold stepR; simp [h]
theorem stepR_yes (x : BitVec 32) (b : Bool) (h : (x.msb ^^ b) = true) : (((x <<< 1).toNat + 4294967296) ^^^ 4294967296) ^^^ 517762881 = (stepR x b).toNat := by
  unfold stepR
  rw [hi_xor _ (x <<< 1).isLt, h, if_pos rfl, BitVec.toNat_xor]
  rfl

theorem w_bit (c k : Nat) (hc : c < 256) (b : Bool) (hb : b = c.testBit k) : bits .and .u64 (IntKind.u64.wrap (shrI (c : Int) k)) 1 = (b.toNat : Int) := by
  have h0 : shrI (c : Int) k = ((c / 2 ^ k : Nat) : Int) := by unfold shrI; simp
  have h1 : c / 2 ^ k ≤ c := Nat.div_le_self _ _
  have h2 : IntKind.u64.wrap ((c / 2 ^ k : Nat) : Int) = ((c / 2 ^ k : Nat) : Int) := by
    rw [IntKind.wrap_u64]
    generalize c / 2 ^ k = d at h1
    omega
  rw [h0, h2, show (1 : Int) = ((1 : Nat) : Int) from rfl, u64_and_nat _ _ (by omega) (by omega), Nat.and_one_is_mod, hb, Nat.testBit_eq_decide_div_mod_eq]
  have := Nat.mod_two_eq_zero_or_one (c / 2 ^ k)
  rcases this with h | h <;> simp [h]
theorem w_step (y : BitVec 32) (b : Bool) (i : Int) (hi : i = ((b.toNat * 4294967296 : Nat) : Int)) :
    bits .xor .u64 ((y.toNat : Int) * 2) i = (((y <<< 1).toNat + (if y.msb ^^ b then 4294967296 else 0) : Nat) : Int) := by
  have hy := y.isLt
  have e : (y.toNat : Int) * 2 = ((y.toNat * 2 : Nat) : Int) := by omega
  rw [hi, e, u64_xor_nat _ _ (by omega) (by cases b <;> simp), stepR_num]
theorem w_back (y : BitVec 32) (b : Bool) (h : (y.msb ^^ b) = true) (z : Nat) (hz : z = (y <<< 1).toNat + 4294967296) :
    bits .xor .u64 (bits .xor .u64 (z : Int) 4294967296) 517762881 = ((stepR y b).toNat : Int) := by
  have hy := (y <<< 1).isLt
  rw [hz, show (4294967296 : Int) = ((4294967296 : Nat) : Int) from rfl, u64_xor_nat _ _ (by omega) (by omega)]
  rw [show (517762881 : Int) = ((517762881 : Nat) : Int) from rfl, u64_xor_nat _ _ (by rw [hi_xor _ hy]; omega) (by omega), stepR_yes y b h]
theorem w_bit64 (x : BitVec 32) (k : Nat) (b : Bool) (hb : b = x.getLsbD k) : bits .and .u64 (shrI (x.toNat : Int) k) 1 = (b.toNat : Int) := by
  have hx := x.isLt
  have h0 : shrI (x.toNat : Int) k = ((x.toNat / 2 ^ k : Nat) : Int) := by unfold shrI; simp
  have h1 : x.toNat / 2 ^ k ≤ x.toNat := Nat.div_le_self _ _
  rw [h0, show (1 : Int) = ((1 : Nat) : Int) from rfl, u64_and_nat _ _ (by generalize x.toNat / 2 ^ k = d at h1; omega) (by omega), Nat.and_one_is_mod, hb, BitVec.getLsbD, Nat.testBit_eq_decide_div_mod_eq]
  have := Nat.mod_two_eq_zero_or_one (x.toNat / 2 ^ k)
  rcases this with h | h <;> simp [h]
theorem w_one (j : Nat) : (2 : Int) ^ (31 - j) % 4294967296 = ((1#32 <<< (31 - j)).toNat : Int) := by
  rw [BitVec.toNat_shiftLeft, Nat.shiftLeft_eq]
  simp
end Crc

set_option maxRecDepth 100000 in
set_option maxHeartbeats 800000 in
theorem refof_any (A : Option Addr) (cap : Nat) (l : List UInt8) (w : World) (hp : Bytes w A l) (hn : l.length ≤ 9223372036854775807) :
    Calls Try.prog 10 #[.slice A l.length cap] w fun e w' => e = .returned (.int .u32 ((Crc.sum l).toNat : Int)) ∧ w = w' := by
  go_enter Try.func10, Try.ntmps10
  go_wp2
  go_loop [3, 4] (fun x i => ∃ k : Nat, k ≤ l.length ∧ i = .int .i64 k ∧ x = .int .u64 ((Crc.feedR 0xFFFFFFFF#32 (l.take k)).toNat : Int)) (fun _ i => l.length - (intOf i).toNat)
  case atStart => exact ⟨0, by omega, rfl, rfl⟩
  case round =>
    obtain ⟨k, hk, rfl, rfl⟩ := hrel
    by_cases hlt : k < l.length
    · obtain ⟨ad, rfl, had, hcell⟩ := hp.at_ hlt
      have hfs : Crc.feedR 0xFFFFFFFF#32 (l.take (k + 1)) = Crc.handR (Crc.feedR 0xFFFFFFFF#32 (l.take k)) l[k] 8 := by
        rw [take_snoc' l k hlt]
        exact List.foldl_append
      have HFS := Lib.hid hfs
      clear hfs
      generalize Crc.feedR 0xFFFFFFFF#32 (l.take k) = x at HFS
      have hc := l[k].toNat_lt
      generalize l[k] = c at hcell HFS hc
      have hx := x.isLt
      go_wp2_with fail
      go_loop [3, 5] (fun z i => ∃ j : Nat, j ≤ 8 ∧ i = .int .i64 j ∧ z = .int .u64 ((Crc.handR x c j).toNat : Int)) (fun _ i => 8 - (intOf i).toNat)
      case atStart => exact ⟨0, by omega, rfl, rfl⟩
      case round =>
        obtain ⟨j, hj, rfl, rfl⟩ := hrel
        by_cases hlt3 : j < 8
        · obtain ⟨y, hy0⟩ : ∃ y, y = Crc.handR x c j := ⟨_, rfl⟩
          obtain ⟨b, hb0⟩ : ∃ b, b = c.toNat.testBit j := ⟨_, rfl⟩
          have hst : Crc.handR x c (j + 1) = Crc.stepR y b := by rw [hy0, hb0]; rfl
          have HST := Lib.hid hst
          have HX := Crc.w_bit c.toNat j hc b hb0
          rw [← hy0]
          clear hst hy0 hb0
          have hy := y.isLt
          have hy1 := (y <<< 1).isLt
          have hjb : j ≤ IntKind.u8.bits := by show j ≤ 8; omega
          have HY0 := Crc.w_step y b _ rfl
          cases hm : (y.msb ^^ b)
          · rw [hm, if_neg (by decide), Nat.add_zero] at HY0
            rw [Crc.stepR_no y b hm] at HST
            clear hm
            obtain ⟨z, hz⟩ : ∃ z, z = (y <<< 1).toNat := ⟨_, rfl⟩
            rw [← hz] at HY0 hy1
            have HZ := Lib.hid hz
            clear hz
            obtain ⟨i, hi, HX1, HY⟩ : ∃ i : Int, (i = 0 ∨ i = 1) ∧ bits .and .u64 (IntKind.u64.wrap (shrI (c.toNat : Int) j)) 1 = i ∧ bits .xor .u64 ((y.toNat : Int) * 2) (i * 4294967296) = (z : Int) := by
              refine ⟨_, ?_, HX, ?_⟩
              · cases b <;> simp
              · rw [← HY0]; congr 1
            have hd : decide ((4294967296 : Int) ≤ (z : Int)) = false := by rw [decide_eq_false_iff_not]; omega
            clear HX HY0
            rcases hi with rfl | rfl
            all_goals
              simp only [Int.zero_mul, Int.one_mul] at HY
              go_wp2_with (((with_reducible refine wpList_shr (k := .u8) (k' := .i64) (xv := (c.toNat : Int)) (j := j) rfl rfl ?_ ?_ hjb ?_); rfl; rfl))
              go_round
              case rel => exact ⟨j + 1, by omega, by go_num, by rw [HST.out, HZ.out]⟩
              case measure => simp [intOf]; omega
          · rw [hm, if_pos rfl] at HY0
            obtain ⟨z, hz⟩ : ∃ z, z = (y <<< 1).toNat + 4294967296 := ⟨_, rfl⟩
            have HZ := Crc.w_back y b hm z hz
            have hz1 : 4294967296 ≤ z := by omega
            rw [← hz] at HY0
            clear hm hz
            obtain ⟨i, hi, HX1, HY⟩ : ∃ i : Int, (i = 0 ∨ i = 1) ∧ bits .and .u64 (IntKind.u64.wrap (shrI (c.toNat : Int) j)) 1 = i ∧ bits .xor .u64 ((y.toNat : Int) * 2) (i * 4294967296) = (z : Int) := by
              refine ⟨_, ?_, HX, ?_⟩
              · cases b <;> simp
              · rw [← HY0]; congr 1
            have hd : decide ((4294967296 : Int) ≤ (z : Int)) = true := by rw [decide_eq_true_iff]; omega
            clear HX HY0
            rcases hi with rfl | rfl
            all_goals
              simp only [Int.zero_mul, Int.one_mul] at HY
              go_wp2_with (((with_reducible refine wpList_shr (k := .u8) (k' := .i64) (xv := (c.toNat : Int)) (j := j) rfl rfl ?_ ?_ hjb ?_); rfl; rfl))
              go_round
              case rel => exact ⟨j + 1, by omega, by go_num, by rw [HST.out]⟩
              case measure => simp [intOf]; omega
        · have hj8 : j = 8 := by omega
          subst hj8
          rw [← HFS.out]
          clear hlt3
          go_wp2
          go_round
          case rel => exact ⟨k + 1, by omega, by go_num, rfl⟩
          case measure => simp [intOf]; omega
    · have hkl : k = l.length := by omega
      subst hkl
      rw [List.take_length, Crc.feedR_eq]
      obtain ⟨x, hx0⟩ : ∃ x, x = Crc.feed 0xFFFFFFFF#32 l := ⟨_, rfl⟩
      rw [← hx0]
      have HX0 := Lib.hid hx0
      clear hlt hx0
      have hx := x.isLt
      go_wp2_with fail
      go_loop [7, 8] (fun o i => ∃ j : Nat, j ≤ 32 ∧ i = .int .i64 j ∧ o = .int .u32 ((Crc.outR x j).toNat : Int)) (fun _ i => 32 - (intOf i).toNat)
      case atStart => exact ⟨0, by omega, rfl, rfl⟩
      case round =>
        obtain ⟨j, hj, rfl, rfl⟩ := hrel
        by_cases hlt3 : j < 32
        · obtain ⟨y, hy0⟩ : ∃ y, y = Crc.outR x j := ⟨_, rfl⟩
          have hst : Crc.outR x (j + 1) = if x.getLsbD j then y else y ||| (1#32 <<< (31 - j)) := by rw [hy0]; rfl
          rw [← hy0]
          clear hy0
          have hy := y.isLt
          have hjb : j ≤ IntKind.u64.bits := by show j ≤ 64; omega
          have HX := Crc.w_bit64 x j _ rfl
          cases hb : x.getLsbD j
          · rw [hb, if_neg (by decide)] at hst
            have HST := Lib.hid hst
            rw [hb] at HX
            simp only [Bool.toNat_false] at HX
            clear hst hb
            go_wp2_with (((with_reducible refine wpList_shr (k := .u64) (k' := .i64) (xv := (x.toNat : Int)) (j := j) rfl rfl ?_ ?_ hjb ?_); rfl; rfl))
            go_round
            case rel => exact ⟨j + 1, by omega, by go_num, by rw [HST.out]; exact congrArg (Value.int .u32) (Crc.w_or _ _ _ _ rfl (Crc.w_one j))⟩
            case measure => simp [intOf]; omega
          · rw [hb, if_pos rfl] at hst
            have HST := Lib.hid hst
            rw [hb] at HX
            simp only [Bool.toNat_true] at HX
            clear hst hb
            go_wp2_with (((with_reducible refine wpList_shr (k := .u64) (k' := .i64) (xv := (x.toNat : Int)) (j := j) rfl rfl ?_ ?_ hjb ?_); rfl; rfl))
            go_round
            case rel => exact ⟨j + 1, by omega, by go_num, by rw [HST.out]⟩
            case measure => simp [intOf]; omega
        · have hj8 : j = 32 := by omega
          subst hj8
          rw [Crc.outR_32, HX0.out]
          clear hlt3
          go_wp2
          go_ret
          exact ⟨rfl, rfl⟩
end Go.Proofs.Ytgnegofkffiopaa
