/- Plain laws of what is told of a row of bits, bit by bit. -/
import Derived.Test.YtgnegofkffiopaaCrcSeal
import Derived.Test.YtgnegofkffiopaaWords3
namespace Go.Proofs.Ytgnegofkffiopaa
open Go.RowKit
namespace Crc

theorem bits8_at (c : UInt8) (j : Nat) (hj : j < 8) : (bits8 c)[j]? = some (c.toNat.testBit j) := by
  have : j = 0 ∨ j = 1 ∨ j = 2 ∨ j = 3 ∨ j = 4 ∨ j = 5 ∨ j = 6 ∨ j = 7 := by omega
  rcases this with rfl | rfl | rfl | rfl | rfl | rfl | rfl | rfl <;> rfl
theorem bitsOf_at : ∀ (l : List UInt8) (i j : Nat) (_ : j < 8) (hi : i < l.length), (bitsOf l)[8 * i + j]? = some (l[i].toNat.testBit j)
  | c :: l, 0, j, hj, _ => by
    rw [bitsOf_cons, List.getElem?_append_left (by simp [bits8]; omega), Nat.mul_zero, Nat.zero_add, bits8_at c j hj]
    rfl
  | c :: l, i + 1, j, hj, hi => by
    rw [bitsOf_cons, List.getElem?_append_right (by simp [bits8]; omega)]
    have : 8 * (i + 1) + j - (bits8 c).length = 8 * i + j := by simp [bits8]; omega
    rw [this, bitsOf_at l i j hj (by simpa using hi)]
    rfl
theorem diffs_at (X Y : List UInt8) (i j : Nat) (hj : j < 8) (hi : i < X.length) (hi2 : i < Y.length) : (diffs X Y)[8 * i + j]? = some (X[i].toNat.testBit j ^^ Y[i].toNat.testBit j) := by
  unfold diffs
  rw [List.getElem?_zipWith, bitsOf_at X i j hj hi, bitsOf_at Y i j hj hi2]
/-- What is told of the first n places. -/
def TT (X Y : List UInt8) (n : Nat) : Told := toldOf told0 0 ((diffs X Y).take n)
theorem TT_zero (X Y : List UInt8) : TT X Y 0 = told0 := rfl
theorem TT_step (X Y : List UInt8) (n : Nat) (b : Bool) (h : (diffs X Y)[n]? = some b) : TT X Y (n + 1) = tell (TT X Y n) n b := by
  unfold TT
  have hn : n < (diffs X Y).length := (List.getElem?_eq_some_iff.1 h).1
  rw [List.take_add_one, h, toldOf_append]
  simp only [List.length_take, Nat.min_eq_left (Nat.le_of_lt hn), Nat.zero_add, Option.toList_some]
  rfl
theorem TT_bit (X Y : List UInt8) (i j : Nat) (hj : j < 8) (hi : i < X.length) (hi2 : i < Y.length) :
    TT X Y (8 * i + j + 1) = tell (TT X Y (8 * i + j)) (8 * i + j) (X[i].toNat.testBit j ^^ Y[i].toNat.testBit j) := TT_step X Y _ _ (diffs_at X Y i j hj hi hi2)
theorem TT_same (X Y : List UInt8) (i : Nat) (hi : i < X.length) (hi2 : i < Y.length) (h : X[i] = Y[i]) : ∀ (m j : Nat), j + m = 8 → TT X Y (8 * i + 8) = TT X Y (8 * i + j)
  | 0, j, hm => by rw [show j = 8 by omega]
  | m + 1, j, hm => by
    rw [TT_same X Y i hi hi2 h m (j + 1) (by omega)]
    show TT X Y (8 * i + j + 1) = _
    rw [TT_bit X Y i j (by omega) hi hi2, h, Bool.xor_self]
    rfl
theorem TT_all (X Y : List UInt8) (h : X.length = Y.length) : TT X Y (8 * X.length) = toldOf told0 0 (diffs X Y) := by
  unfold TT
  rw [List.take_of_length_le (by rw [diffs_len X Y h]; exact Nat.le_refl _)]
theorem toldOf_bounds : ∀ (ds : List Bool) (t : Told) (n : Nat), (-1 ≤ t.first ∧ t.first < n ∧ -1 ≤ t.last ∧ t.last < n ∧ 0 ≤ t.many ∧ t.many ≤ n) →
    (-1 ≤ (toldOf t n ds).first ∧ (toldOf t n ds).first < n + ds.length ∧ -1 ≤ (toldOf t n ds).last ∧ (toldOf t n ds).last < n + ds.length ∧ 0 ≤ (toldOf t n ds).many ∧ (toldOf t n ds).many ≤ n + ds.length)
  | [], t, n, h => by simpa [toldOf] using h
  | b :: ds, t, n, h => by
    have := toldOf_bounds ds (tell t n b) (n + 1) (by
      cases b
      · simp only [tell, Bool.false_eq_true, if_false]; omega
      · simp only [tell, if_true]
        split <;> omega)
    show _ ≤ (toldOf (tell t n b) (n + 1) ds).first ∧ _
    simp only [List.length_cons]
    show _ ∧ (toldOf (tell t n b) (n + 1) ds).first < _ ∧ _ ≤ (toldOf (tell t n b) (n + 1) ds).last ∧ (toldOf (tell t n b) (n + 1) ds).last < _ ∧ _ ≤ (toldOf (tell t n b) (n + 1) ds).many ∧ (toldOf (tell t n b) (n + 1) ds).many ≤ _
    omega
theorem TT_bounds (X Y : List UInt8) (n : Nat) : -1 ≤ (TT X Y n).first ∧ (TT X Y n).first ≤ n ∧ -1 ≤ (TT X Y n).last ∧ (TT X Y n).last ≤ n ∧ 0 ≤ (TT X Y n).many ∧ (TT X Y n).many ≤ n := by
  have := toldOf_bounds ((diffs X Y).take n) told0 0 (by simp [told0])
  have hl : ((diffs X Y).take n).length ≤ n := List.length_take_le _ _
  unfold TT
  omega
theorem w_one8 (x y : UInt8) (j : Nat) : (bits .and .u8 (shrI ((x ^^^ y).toNat : Int) j) 1 == 1) = (x.toNat.testBit j ^^ y.toNat.testBit j) := by
  rw [← Nat.testBit_xor, ← UInt8.toNat_xor]
  generalize x ^^^ y = z
  have hz := z.toNat_lt
  have h0 : shrI (z.toNat : Int) j = ((z.toNat / 2 ^ j : Nat) : Int) := by unfold shrI; simp
  have h1 : z.toNat / 2 ^ j ≤ z.toNat := Nat.div_le_self _ _
  rw [h0, show (1 : Int) = ((1 : Nat) : Int) from rfl, u8_and_nat _ _ (by generalize z.toNat / 2 ^ j = d at h1; omega) (by omega), Nat.and_one_is_mod, Nat.testBit_eq_decide_div_mod_eq]
  have := Nat.mod_two_eq_zero_or_one (z.toNat / 2 ^ j)
  rcases this with h | h <;> simp [h]
theorem TT_bit' (X Y : List UInt8) (n k j : Nat) (hj : j < 8) (hk : k < n) (hX : X.length = n) (hY : Y.length = n) :
    TT X Y (8 * k + (j + 1)) = tell (TT X Y (8 * k + j)) (8 * k + j) ((X.getD k 0).toNat.testBit j ^^ (Y.getD k 0).toNat.testBit j) := by
  have h := TT_bit X Y k j hj (by omega) (by omega)
  rw [List.getD_eq_getElem?_getD, List.getD_eq_getElem?_getD, List.getElem?_eq_getElem (show k < X.length by omega), List.getElem?_eq_getElem (show k < Y.length by omega)]
  exact h
theorem TT_same' (X Y : List UInt8) (n k j : Nat) (hj : j ≤ 8) (hk : k < n) (hX : X.length = n) (hY : Y.length = n) (h : j < 8 → X.getD k 0 = Y.getD k 0) : TT X Y (8 * (k + 1)) = TT X Y (8 * k + j) := by
  rcases Nat.lt_or_ge j 8 with h8 | h8
  · have he := h h8
    rw [List.getD_eq_getElem?_getD, List.getD_eq_getElem?_getD, List.getElem?_eq_getElem (show k < X.length by omega), List.getElem?_eq_getElem (show k < Y.length by omega)] at he
    exact TT_same X Y k (by omega) (by omega) he (8 - j) j (by omega)
  · rw [show 8 * (k + 1) = 8 * k + j by omega]
theorem tell_off (T : Told) (n : Nat) : tell T n false = T := rfl
theorem tell_new {T : Told} (n : Nat) (h : T.first < 0) : tell T n true = ⟨n, n, T.many + 1⟩ := by simp [tell, h]
theorem tell_old {T : Told} (n : Nat) (h : ¬ T.first < 0) : tell T n true = ⟨T.first, n, T.many + 1⟩ := by simp [tell, h]
end Crc
end Go.Proofs.Ytgnegofkffiopaa
