/- Joined texts: CodeA, CodeB, CodeC. -/
import Derived.RowKit
/- Plain laws of numbers' digits to the base 128. -/
set_option linter.unusedVariables false
set_option linter.unusedSimpArgs false
namespace Go.Proofs.YtpjmolnkmlpfeaaGreatDoor
set_option maxRecDepth 100000

/-- A number's digits to the base 128, the least one first. -/
def short (x : Nat) : List UInt8 := if x < 128 then [UInt8.ofNat x] else UInt8.ofNat (x % 128 + 128) :: short (x / 128)
termination_by x
decreasing_by omega
/-- What 'number' reads, from the digit number n on: the number, and how many digits. -/
def num : List UInt8 → Nat → Option (Nat × Nat)
 | [], _ => none
 | c :: cs, n =>
  if n < 9 ∨ n = 9 ∧ c.toNat = 1 then
   if c.toNat < 128 then (if n = 0 ∨ 0 < c.toNat then some (c.toNat, 1) else none)
   else (num cs (n + 1)).map fun r => (c.toNat % 128 + 128 * r.1, r.2 + 1)
  else none
def val : List UInt8 → Nat
 | [] => 0
 | c :: cs => c.toNat % 128 + 128 * val cs
theorem short_low {x : Nat} (h : x < 128) : short x = [UInt8.ofNat x] := by rw [short, if_pos h]
theorem short_high {x : Nat} (h : 128 ≤ x) : short x = UInt8.ofNat (x % 128 + 128) :: short (x / 128) := by rw [short, if_neg (by omega)]
theorem u8_ofNat {x : Nat} (h : x < 256) : (UInt8.ofNat x).toNat = x := by rw [UInt8.toNat_ofNat']; omega
theorem u8_self (c : UInt8) : UInt8.ofNat c.toNat = c := by apply UInt8.toNat_inj.1; rw [u8_ofNat c.toNat_lt]
theorem short_len_pos (x : Nat) : 0 < (short x).length := by
 rw [short]; split <;> simp
/-- What is read is a number's digits. -/
theorem num_sound : ∀ (xs : List UInt8) (n y k : Nat), n ≤ 9 → num xs n = some (y, k) → k ≤ xs.length ∧ short y = xs.take k ∧ (0 < n → 0 < y) ∧ y * 128 ^ n < 18446744073709551616 ∧ k + n ≤ 10 ∧ 0 < k
 | [], n, y, k, _, h => by simp [num] at h
 | c :: cs, n, y, k, hn, h => by
  rw [num] at h
  split at h
  ·rename_i h1
   split at h
   ·rename_i h2
    split at h
    ·rename_i h3
     injection h with h
     injection h with ha hb
     subst ha hb
     refine ⟨by simp, ?_, by omega, ?_, by omega, by omega⟩
     ·rw [short_low h2, u8_self]; rfl
     ·rcases h1 with h1 | ⟨h1, h4⟩
      ·have : 128 ^ n ≤ 128 ^ 8 := Nat.pow_le_pow_right (by decide) (by omega)
       calc c.toNat * 128 ^ n ≤ 127 * 128 ^ 8 := Nat.mul_le_mul (by omega) this
        _ < _ := by decide
      ·subst h1; rw [h4]; decide
    ·cases h
   ·rename_i h2
    rw [Option.map_eq_some_iff] at h
    obtain ⟨⟨y', k'⟩, h3, h4⟩ := h
    injection h4 with ha hb
    have hn9 : n < 9 := by omega
    obtain ⟨r1, r2, r3, r4, r5, r6⟩ := num_sound cs (n + 1) y' k' (by omega) h3
    have hc := c.toNat_lt
    have hy : 0 < y' := r3 (by omega)
    subst ha hb
    refine ⟨by simpa using r1, ?_, by omega, ?_, by omega, by omega⟩
    ·rw [short_high (by omega)]
     have e1 : (c.toNat % 128 + 128 * y') % 128 + 128 = c.toNat := by omega
     have e2 : (c.toNat % 128 + 128 * y') / 128 = y' := by omega
     rw [e1, e2, u8_self, r2]; rfl
    ·have e : y' * 128 ^ (n + 1) = y' * 128 * 128 ^ n := by rw [Nat.pow_succ]; rw [Nat.mul_assoc, Nat.mul_comm 128]
     rw [e] at r4
     have hle : (c.toNat % 128 + 128 * y') * 128 ^ n ≤ (y' * 128 + 127) * 128 ^ n := Nat.mul_le_mul_right _ (by omega)
     have hd : 18446744073709551616 = 2 ^ (64 - 7 * n) * 128 ^ n := by
      rw [show (128 : Nat) = 2 ^ 7 from rfl, ← Nat.pow_mul, ← Nat.pow_add, show 64 - 7 * n + 7 * n = 64 by omega]
     have hlt : y' * 128 < 2 ^ (64 - 7 * n) := by
      rw [hd] at r4
      exact Nat.lt_of_mul_lt_mul_right r4
     have hq : 2 ^ (64 - 7 * n) = 128 * 2 ^ (57 - 7 * n) := by
      rw [show (128 : Nat) = 2 ^ 7 from rfl, ← Nat.pow_add, show 7 + (57 - 7 * n) = 64 - 7 * n by omega]
     have h5 : c.toNat % 128 + 128 * y' < 2 ^ (64 - 7 * n) := by
      rw [hq] at hlt ⊢
      generalize 2 ^ (57 - 7 * n) = z at hlt ⊢
      omega
     rw [hd]
     exact Nat.mul_lt_mul_of_pos_right h5 (Nat.pow_pos (by decide))
  ·cases h
/-- A number's digits are read, whatever is behind. -/
theorem num_whole : ∀ (y n : Nat) (rest : List UInt8), n ≤ 9 → (0 < n → 0 < y) → y * 128 ^ n < 18446744073709551616 → num (short y ++ rest) n = some (y, (short y).length) := by
 intro y
 induction y using Nat.strongRecOn with
 | ind y ih =>
  intro n rest hn h0 hlt
  have h9 : n = 9 → y ≤ 1 := fun h => by subst h; omega
  by_cases hy : y < 128
  ·rw [short_low hy, List.singleton_append, num, u8_ofNat (by omega), if_pos (by omega), if_pos hy, if_pos (by omega)]
   rfl
  ·have hn8 : n < 9 := by
    rcases Nat.lt_or_ge n 9 with h | h
    ·exact h
    ·have := h9 (by omega); omega
   rw [short_high (by omega), List.cons_append, num, u8_ofNat (by omega), if_pos (.inl hn8), if_neg (by omega), ih (y / 128) (by omega) (n + 1) rest (by omega) (by omega)]
   ·rw [Option.map_some, List.length_cons]
    have e1 : (y % 128 + 128) % 128 + 128 * (y / 128) = y := by omega
    simp only [e1]
   ·have e : y / 128 * 128 ^ (n + 1) = y / 128 * 128 * 128 ^ n := by rw [Nat.pow_succ, Nat.mul_assoc, Nat.mul_comm 128]
    rw [e]
    exact Nat.lt_of_le_of_lt (Nat.mul_le_mul_right _ (by omega)) hlt
end Go.Proofs.YtpjmolnkmlpfeaaGreatDoor

/- The document's way to read a number, and the program's. -/
namespace Go.Proofs.YtpjmolnkmlpfeaaGreatDoor
set_option maxRecDepth 100000

theorem short_len {y : Nat} (h : y < 18446744073709551616) : (short y).length ≤ 10 := by
 have h1 := num_whole y 0 [] (by omega) (by omega) (by omega)
 have := (num_sound _ 0 _ _ (by omega) h1).2.2.2.2.1
 omega
end Go.Proofs.YtpjmolnkmlpfeaaGreatDoor

/- What a part's bytes are, and how a part is read: plain. -/
namespace Go.Proofs.YtpjmolnkmlpfeaaGreatDoor
set_option maxRecDepth 100000

end Go.Proofs.YtpjmolnkmlpfeaaGreatDoor
