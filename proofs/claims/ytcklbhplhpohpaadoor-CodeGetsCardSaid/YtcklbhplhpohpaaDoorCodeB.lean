/- The document's way to read a number, and the program's. -/
import Derived.Test.YtcklbhplhpohpaaDoorCodeA
namespace Go.Proofs.YtcklbhplhpohpaaDoor

theorem val_short : ∀ y, val (short y) = y := by
  intro y
  induction y using Nat.strongRecOn with
  | ind y ih =>
    by_cases hy : y < 128
    · rw [short_low hy, val, val, u8_ofNat (by omega)]
      omega
    · rw [short_high (by omega), val, ih (y / 128) (by omega), u8_ofNat (by omega)]
      omega
/-- All digits but the last one go on. -/
theorem short_shape : ∀ (y i : Nat) (h : i < (short y).length), (128 ≤ (short y)[i].toNat) ↔ i + 1 < (short y).length := by
  intro y
  induction y using Nat.strongRecOn with
  | ind y ih =>
    intro i h
    by_cases hy : y < 128
    · have e := short_low hy
      have hl : (short y).length = 1 := by rw [e]; rfl
      have hi : i = 0 := by omega
      subst hi
      have h0 : (short y)[0] = UInt8.ofNat y := by simp [e]
      rw [h0, u8_ofNat (by omega), hl]
      omega
    · have e := short_high (x := y) (by omega)
      have hl : (short y).length = (short (y / 128)).length + 1 := by rw [e]; rfl
      cases i with
      | zero =>
        have h0 : (short y)[0] = UInt8.ofNat (y % 128 + 128) := by simp [e]
        have := short_len_pos (y / 128)
        rw [h0, u8_ofNat (by omega), hl]
        omega
      | succ i =>
        have h1 : (short y)[i + 1] = (short (y / 128))[i]'(by omega) := by simp [e]
        rw [h1, hl, ih (y / 128) (by omega) i (by omega)]
        omega
theorem short_len {y : Nat} (h : y < 18446744073709551616) : (short y).length ≤ 10 := by
  have h1 := num_whole y 0 [] (by omega) (by omega) (by omega)
  have := (num_sound _ 0 _ _ (by omega) h1).2.2.2.2.1
  omega
/-- How many bytes stand at the front up to the first one below 128, among the first ten. -/
def digitsN (xs : List UInt8) : Nat := match (xs.take 10).findIdx? fun c => decide (c.toNat < 128) with | some i => i + 1 | none => 0
theorem digitsN_some {xs : List UInt8} {i : Nat} (hi : i < xs.length) (h10 : i < 10) (hc : xs[i].toNat < 128) (hno : ∀ j (_ : j < xs.length), j < i → 128 ≤ xs[j].toNat) : digitsN xs = i + 1 := by
  unfold digitsN
  have : (xs.take 10).findIdx? (fun c => decide (c.toNat < 128)) = some i := by
    rw [List.findIdx?_eq_some_iff_getElem]
    refine ⟨by rw [List.length_take]; omega, by rw [List.getElem_take]; simpa using hc, fun j hj => ?_⟩
    rw [List.getElem_take]
    have := hno j (by omega) hj
    simp
    exact this
  rw [this]
theorem digitsN_none {xs : List UInt8} (hno : ∀ j (_ : j < xs.length), j < 10 → 128 ≤ xs[j].toNat) : digitsN xs = 0 := by
  unfold digitsN
  have : (xs.take 10).findIdx? (fun c => decide (c.toNat < 128)) = none := by
    rw [List.findIdx?_eq_none_iff]
    intro c hc
    obtain ⟨j, hj, rfl⟩ := List.getElem_of_mem hc
    rw [List.length_take] at hj
    rw [List.getElem_take]
    have := hno j (by omega) (by omega)
    simp
    exact this
  rw [this]
theorem digitsN_le (xs : List UInt8) : digitsN xs ≤ xs.length ∧ digitsN xs ≤ 10 := by
  unfold digitsN
  split
  · rename_i i h
    have := (List.findIdx?_eq_some_iff_getElem.1 h).1
    rw [List.length_take] at this
    omega
  · omega
/-- What the document reads: the number modulo 2^64, if its digits are these. -/
def refNum (xs : List UInt8) : Option (Nat × Nat) :=
  if digitsN xs = 0 then none else if short (val (xs.take (digitsN xs)) % 18446744073709551616) = xs.take (digitsN xs) then some (val (xs.take (digitsN xs)) % 18446744073709551616, digitsN xs) else none
theorem num_digits {xs : List UInt8} {y k : Nat} (h : num xs 0 = some (y, k)) : digitsN xs = k ∧ val (xs.take k) = y ∧ y < 18446744073709551616 := by
  obtain ⟨h1, h2, _, h4, h5, h6⟩ := num_sound xs 0 y k (by omega) h
  have hl : (short y).length = k := by rw [h2, List.length_take]; omega
  refine ⟨?_, by rw [← h2, val_short], by omega⟩
  have hat : ∀ j (hj : j < k), xs[j]'(by omega) = (short y)[j]'(by omega) := fun j hj => by
    simp only [h2, List.getElem_take]
  have := digitsN_some (xs := xs) (i := k - 1) (by omega) (by omega) (by
    rw [hat (k - 1) (by omega)]
    have := short_shape y (k - 1) (by omega)
    omega) (fun j hj hjk => by
    rw [hat j (by omega)]
    exact (short_shape y j (by omega)).2 (by omega))
  omega
theorem refNum_eq (xs : List UInt8) : refNum xs = num xs 0 := by
  unfold refNum
  cases h : num xs 0 with
  | some r =>
    obtain ⟨y, k⟩ := r
    obtain ⟨h1, h2, h3⟩ := num_digits h
    have h4 := num_sound xs 0 y k (by omega) h
    rw [h1, if_neg (by omega), h2, Nat.mod_eq_of_lt h3, if_pos h4.2.1]
  | none =>
    split
    · rfl
    · split
      · rename_i h1 h2
        exfalso
        have h3 := num_whole (val (xs.take (digitsN xs)) % 18446744073709551616) 0 (xs.drop (digitsN xs)) (by omega) (by omega) (by omega)
        rw [h2, List.take_append_drop, h] at h3
        cases h3
      · rfl
end Go.Proofs.YtcklbhplhpohpaaDoor
