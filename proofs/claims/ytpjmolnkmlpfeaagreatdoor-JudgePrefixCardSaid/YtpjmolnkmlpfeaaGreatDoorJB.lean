/- Joined texts: CodeA, CodeB, CodeC. -/
import Derived.RowKit
/- Plain laws of numbers' digits to the base 128. -/
namespace Go.Proofs.YtpjmolnkmlpfeaaGreatDoor
set_option linter.unusedVariables false
set_option linter.unusedSimpArgs false
set_option maxRecDepth 100000

/-- A number's digits to the base 128, the least one first. -/
def short (x : Nat) : List UInt8 := if x < 128 then [UInt8.ofNat x] else UInt8.ofNat (x % 128 + 128) :: short (x / 128)
termination_by x
decreasing_by omega
/-- What 'number' reads, from the digit number n on: the number, and how many digits. -/
def num : List UInt8 → Nat → Option (Nat × Nat)
  | [], _ => none
  | c :: cs, n =>
    if n < 9 ∨ n = 9 ∧ c.toNat = 1 then
      if c.toNat < 128 then (if n = 0 ∨ 0 < c.toNat then some (c.toNat, 1) else none)
      else (num cs (n + 1)).map fun r => (c.toNat % 128 + 128 * r.1, r.2 + 1)
    else none
def val : List UInt8 → Nat
  | [] => 0
  | c :: cs => c.toNat % 128 + 128 * val cs
theorem short_low {x : Nat} (h : x < 128) : short x = [UInt8.ofNat x] := by rw [short, if_pos h]
theorem short_high {x : Nat} (h : 128 ≤ x) : short x = UInt8.ofNat (x % 128 + 128) :: short (x / 128) := by rw [short, if_neg (by omega)]
theorem u8_ofNat {x : Nat} (h : x < 256) : (UInt8.ofNat x).toNat = x := by rw [UInt8.toNat_ofNat']; omega
theorem u8_self (c : UInt8) : UInt8.ofNat c.toNat = c := by apply UInt8.toNat_inj.1; rw [u8_ofNat c.toNat_lt]
theorem short_len_pos (x : Nat) : 0 < (short x).length := by
  rw [short]; split <;> simp
/-- What is read is a number's digits. -/
theorem num_sound : ∀ (xs : List UInt8) (n y k : Nat), n ≤ 9 → num xs n = some (y, k) → k ≤ xs.length ∧ short y = xs.take k ∧ (0 < n → 0 < y) ∧ y * 128 ^ n < 18446744073709551616 ∧ k + n ≤ 10 ∧ 0 < k
  | [], n, y, k, _, h => by simp [num] at h
  | c :: cs, n, y, k, hn, h => by
    rw [num] at h
    split at h
    · rename_i h1
      split at h
      · rename_i h2
        split at h
        · rename_i h3
          injection h with h
          injection h with ha hb
          subst ha hb
          refine ⟨by simp, ?_, by omega, ?_, by omega, by omega⟩
          · rw [short_low h2, u8_self]; rfl
          · rcases h1 with h1 | ⟨h1, h4⟩
            · have : 128 ^ n ≤ 128 ^ 8 := Nat.pow_le_pow_right (by decide) (by omega)
              calc c.toNat * 128 ^ n ≤ 127 * 128 ^ 8 := Nat.mul_le_mul (by omega) this
                _ < _ := by decide
            · subst h1; rw [h4]; decide
        · cases h
      · rename_i h2
        rw [Option.map_eq_some_iff] at h
        obtain ⟨⟨y', k'⟩, h3, h4⟩ := h
        injection h4 with ha hb
        have hn9 : n < 9 := by omega
        obtain ⟨r1, r2, r3, r4, r5, r6⟩ := num_sound cs (n + 1) y' k' (by omega) h3
        have hc := c.toNat_lt
        have hy : 0 < y' := r3 (by omega)
        subst ha hb
        refine ⟨by simpa using r1, ?_, by omega, ?_, by omega, by omega⟩
        · rw [short_high (by omega)]
          have e1 : (c.toNat % 128 + 128 * y') % 128 + 128 = c.toNat := by omega
          have e2 : (c.toNat % 128 + 128 * y') / 128 = y' := by omega
          rw [e1, e2, u8_self, r2]; rfl
        · have e : y' * 128 ^ (n + 1) = y' * 128 * 128 ^ n := by rw [Nat.pow_succ]; rw [Nat.mul_assoc, Nat.mul_comm 128]
          rw [e] at r4
          have hle : (c.toNat % 128 + 128 * y') * 128 ^ n ≤ (y' * 128 + 127) * 128 ^ n := Nat.mul_le_mul_right _ (by omega)
          have hd : 18446744073709551616 = 2 ^ (64 - 7 * n) * 128 ^ n := by
            rw [show (128 : Nat) = 2 ^ 7 from rfl, ← Nat.pow_mul, ← Nat.pow_add, show 64 - 7 * n + 7 * n = 64 by omega]
          have hlt : y' * 128 < 2 ^ (64 - 7 * n) := by
            rw [hd] at r4
            exact Nat.lt_of_mul_lt_mul_right r4
          have hq : 2 ^ (64 - 7 * n) = 128 * 2 ^ (57 - 7 * n) := by
            rw [show (128 : Nat) = 2 ^ 7 from rfl, ← Nat.pow_add, show 7 + (57 - 7 * n) = 64 - 7 * n by omega]
          have h5 : c.toNat % 128 + 128 * y' < 2 ^ (64 - 7 * n) := by
            rw [hq] at hlt ⊢
            generalize 2 ^ (57 - 7 * n) = z at hlt ⊢
            omega
          rw [hd]
          exact Nat.mul_lt_mul_of_pos_right h5 (Nat.pow_pos (by decide))
    · cases h
/-- A number's digits are read, whatever is behind. -/
theorem num_whole : ∀ (y n : Nat) (rest : List UInt8), n ≤ 9 → (0 < n → 0 < y) → y * 128 ^ n < 18446744073709551616 → num (short y ++ rest) n = some (y, (short y).length) := by
  intro y
  induction y using Nat.strongRecOn with
  | ind y ih =>
    intro n rest hn h0 hlt
    have h9 : n = 9 → y ≤ 1 := fun h => by subst h; omega
    by_cases hy : y < 128
    · rw [short_low hy, List.singleton_append, num, u8_ofNat (by omega), if_pos (by omega), if_pos hy, if_pos (by omega)]
      rfl
    · have hn8 : n < 9 := by
        rcases Nat.lt_or_ge n 9 with h | h
        · exact h
        · have := h9 (by omega); omega
      rw [short_high (by omega), List.cons_append, num, u8_ofNat (by omega), if_pos (.inl hn8), if_neg (by omega), ih (y / 128) (by omega) (n + 1) rest (by omega) (by omega)]
      · rw [Option.map_some, List.length_cons]
        have e1 : (y % 128 + 128) % 128 + 128 * (y / 128) = y := by omega
        simp only [e1]
      · have e : y / 128 * 128 ^ (n + 1) = y / 128 * 128 * 128 ^ n := by rw [Nat.pow_succ, Nat.mul_assoc, Nat.mul_comm 128]
        rw [e]
        exact Nat.lt_of_le_of_lt (Nat.mul_le_mul_right _ (by omega)) hlt
theorem num_more : ∀ (xs ys : List UInt8) (n : Nat) (r : Nat × Nat), num xs n = some r → num (xs ++ ys) n = some r
  | [], _, _, _, h => by simp [num] at h
  | c :: cs, ys, n, r, h => by
    rw [num] at h
    rw [List.cons_append, num]
    split at h
    · rename_i h1
      rw [if_pos h1]
      split at h
      · rename_i h2
        rw [if_pos h2]; exact h
      · rename_i h2
        rw [if_neg h2]
        rw [Option.map_eq_some_iff] at h ⊢
        obtain ⟨q, h3, h4⟩ := h
        exact ⟨q, num_more cs ys (n + 1) q h3, h4⟩
    · cases h
/-- Of a beginning of a number's digits that is not all of them there is no number. -/
theorem num_cut {y : Nat} (hy : y < 18446744073709551616) {j : Nat} (hj : j < (short y).length) : num ((short y).take j) 0 = none := by
  cases h : num ((short y).take j) 0 with
  | none => rfl
  | some r =>
    have h2 := num_more _ ((short y).drop j) 0 r h
    rw [List.take_append_drop, ← List.append_nil (short y), num_whole y 0 [] (by omega) (by omega) (by omega)] at h2
    injection h2 with h2
    subst h2
    have := (num_sound _ 0 _ _ (by omega) h).1
    rw [List.length_take] at this
    omega
/-- Where digits that go on are behind us. -/
theorem num_on : ∀ (xs : List UInt8) (n k : Nat), n + k ≤ 9 → (∀ c ∈ xs.take k, 128 ≤ c.toNat) → k ≤ xs.length → num xs n = (num (xs.drop k) (n + k)).map fun r => (val (xs.take k) + 128 ^ k * r.1, r.2 + k)
  | xs, n, 0, _, _, _ => by
    simp [val]
  | [], n, k + 1, _, _, h => by simp at h
  | c :: cs, n, k + 1, hn, hc, hk => by
    have h1 : 128 ≤ c.toNat := hc c (by simp)
    rw [num, if_pos (by omega), if_neg (by omega), num_on cs (n + 1) k (by omega) (fun d hd => hc d (by simp [hd])) (by simpa using hk)]
    rw [List.drop_succ_cons, List.take_succ_cons, Option.map_map, show n + 1 + k = n + (k + 1) by omega]
    congr 1
    funext r
    simp only [Function.comp, val, Nat.pow_succ, Prod.mk.injEq]
    refine ⟨?_, by omega⟩
    rw [Nat.mul_add, ← Nat.mul_assoc, Nat.mul_comm 128 (128 ^ k)]
    omega
theorem val_snoc : ∀ (l : List UInt8) (c : UInt8), val (l ++ [c]) = val l + 128 ^ l.length * (c.toNat % 128)
  | [], c => by simp [val]
  | d :: l, c => by
    rw [List.cons_append, val, val, val_snoc l c, List.length_cons, Nat.pow_succ, Nat.mul_add, ← Nat.mul_assoc, Nat.mul_comm 128 (128 ^ l.length)]
    omega
theorem val_lt : ∀ (l : List UInt8), val l < 128 ^ l.length
  | [] => by simp [val]
  | d :: l => by
    have := val_lt l
    rw [val, List.length_cons, Nat.pow_succ]
    omega
/-- One step of the loop. -/
theorem num_step {xs : List UInt8} {k : Nat} (hk : k < xs.length) (h9 : k ≤ 9) (hc : ∀ c ∈ xs.take k, 128 ≤ c.toNat) :
    num xs 0 = if k < 9 ∨ k = 9 ∧ xs[k].toNat = 1 then
      if xs[k].toNat < 128 then (if k = 0 ∨ 0 < xs[k].toNat then some (val (xs.take (k + 1)), k + 1) else none)
      else num xs 0 else none := by
  have h := num_on xs 0 k (by omega) hc (by omega)
  rw [List.drop_eq_getElem_cons hk, Nat.zero_add, num] at h
  split
  · rename_i h1
    rw [if_pos h1] at h
    split
    · rename_i h2
      rw [if_pos h2] at h
      split
      · rename_i h3
        rw [if_pos h3] at h
        rw [h, List.take_succ_eq_append_getElem hk, val_snoc, List.length_take, Nat.min_eq_left (by omega), Nat.mod_eq_of_lt h2, Option.map_some, Nat.add_comm 1 k]
      · rename_i h3
        rw [if_neg h3] at h
        rw [h]; rfl
    · rfl
  · rename_i h1
    rw [if_neg h1] at h
    rw [h]; rfl
theorem num_end {xs : List UInt8} {k : Nat} (hk : k = xs.length) (h9 : k ≤ 9) (hc : ∀ c ∈ xs.take k, 128 ≤ c.toNat) : num xs 0 = none := by
  rw [num_on xs 0 k (by omega) hc (by omega), hk, List.drop_length, num]
  rfl
end Go.Proofs.YtpjmolnkmlpfeaaGreatDoor

/- The document's way to read a number, and the program's. -/
namespace Go.Proofs.YtpjmolnkmlpfeaaGreatDoor
set_option linter.unusedVariables false
set_option linter.unusedSimpArgs false
set_option maxRecDepth 100000

theorem val_short : ∀ y, val (short y) = y := by
  intro y
  induction y using Nat.strongRecOn with
  | ind y ih =>
    by_cases hy : y < 128
    · rw [short_low hy, val, val, u8_ofNat (by omega)]
      omega
    · rw [short_high (by omega), val, ih (y / 128) (by omega), u8_ofNat (by omega)]
      omega
/-- All digits but the last one go on. -/
theorem short_shape : ∀ (y i : Nat) (h : i < (short y).length), (128 ≤ (short y)[i].toNat) ↔ i + 1 < (short y).length := by
  intro y
  induction y using Nat.strongRecOn with
  | ind y ih =>
    intro i h
    by_cases hy : y < 128
    · have e := short_low hy
      have hl : (short y).length = 1 := by rw [e]; rfl
      have hi : i = 0 := by omega
      subst hi
      have h0 : (short y)[0] = UInt8.ofNat y := by simp [e]
      rw [h0, u8_ofNat (by omega), hl]
      omega
    · have e := short_high (x := y) (by omega)
      have hl : (short y).length = (short (y / 128)).length + 1 := by rw [e]; rfl
      cases i with
      | zero =>
        have h0 : (short y)[0] = UInt8.ofNat (y % 128 + 128) := by simp [e]
        have := short_len_pos (y / 128)
        rw [h0, u8_ofNat (by omega), hl]
        omega
      | succ i =>
        have h1 : (short y)[i + 1] = (short (y / 128))[i]'(by omega) := by simp [e]
        rw [h1, hl, ih (y / 128) (by omega) i (by omega)]
        omega
theorem short_len {y : Nat} (h : y < 18446744073709551616) : (short y).length ≤ 10 := by
  have h1 := num_whole y 0 [] (by omega) (by omega) (by omega)
  have := (num_sound _ 0 _ _ (by omega) h1).2.2.2.2.1
  omega
/-- How many bytes stand at the front up to the first one below 128, among the first ten. -/
def digitsN (xs : List UInt8) : Nat := match (xs.take 10).findIdx? fun c => decide (c.toNat < 128) with | some i => i + 1 | none => 0
theorem digitsN_some {xs : List UInt8} {i : Nat} (hi : i < xs.length) (h10 : i < 10) (hc : xs[i].toNat < 128) (hno : ∀ j (_ : j < xs.length), j < i → 128 ≤ xs[j].toNat) : digitsN xs = i + 1 := by
  unfold digitsN
  have : (xs.take 10).findIdx? (fun c => decide (c.toNat < 128)) = some i := by
    rw [List.findIdx?_eq_some_iff_getElem]
    refine ⟨by rw [List.length_take]; omega, by rw [List.getElem_take]; simpa using hc, fun j hj => ?_⟩
    rw [List.getElem_take]
    have := hno j (by omega) hj
    simp
    exact this
  rw [this]
theorem digitsN_none {xs : List UInt8} (hno : ∀ j (_ : j < xs.length), j < 10 → 128 ≤ xs[j].toNat) : digitsN xs = 0 := by
  unfold digitsN
  have : (xs.take 10).findIdx? (fun c => decide (c.toNat < 128)) = none := by
    rw [List.findIdx?_eq_none_iff]
    intro c hc
    obtain ⟨j, hj, rfl⟩ := List.getElem_of_mem hc
    rw [List.length_take] at hj
    rw [List.getElem_take]
    have := hno j (by omega) (by omega)
    simp
    exact this
  rw [this]
theorem digitsN_le (xs : List UInt8) : digitsN xs ≤ xs.length ∧ digitsN xs ≤ 10 := by
  unfold digitsN
  split
  · rename_i i h
    have := (List.findIdx?_eq_some_iff_getElem.1 h).1
    rw [List.length_take] at this
    omega
  · omega
/-- What the document reads: the number modulo 2^64, if its digits are these. -/
def refNum (xs : List UInt8) : Option (Nat × Nat) :=
  if digitsN xs = 0 then none else if short (val (xs.take (digitsN xs)) % 18446744073709551616) = xs.take (digitsN xs) then some (val (xs.take (digitsN xs)) % 18446744073709551616, digitsN xs) else none
theorem num_digits {xs : List UInt8} {y k : Nat} (h : num xs 0 = some (y, k)) : digitsN xs = k ∧ val (xs.take k) = y ∧ y < 18446744073709551616 := by
  obtain ⟨h1, h2, _, h4, h5, h6⟩ := num_sound xs 0 y k (by omega) h
  have hl : (short y).length = k := by rw [h2, List.length_take]; omega
  refine ⟨?_, by rw [← h2, val_short], by omega⟩
  have hat : ∀ j (hj : j < k), xs[j]'(by omega) = (short y)[j]'(by omega) := fun j hj => by
    simp only [h2, List.getElem_take]
  have := digitsN_some (xs := xs) (i := k - 1) (by omega) (by omega) (by
    rw [hat (k - 1) (by omega)]
    have := short_shape y (k - 1) (by omega)
    omega) (fun j hj hjk => by
    rw [hat j (by omega)]
    exact (short_shape y j (by omega)).2 (by omega))
  omega
theorem refNum_eq (xs : List UInt8) : refNum xs = num xs 0 := by
  unfold refNum
  cases h : num xs 0 with
  | some r =>
    obtain ⟨y, k⟩ := r
    obtain ⟨h1, h2, h3⟩ := num_digits h
    have h4 := num_sound xs 0 y k (by omega) h
    rw [h1, if_neg (by omega), h2, Nat.mod_eq_of_lt h3, if_pos h4.2.1]
  | none =>
    split
    · rfl
    · split
      · rename_i h1 h2
        exfalso
        have h3 := num_whole (val (xs.take (digitsN xs)) % 18446744073709551616) 0 (xs.drop (digitsN xs)) (by omega) (by omega) (by omega)
        rw [h2, List.take_append_drop, h] at h3
        cases h3
      · rfl
end Go.Proofs.YtpjmolnkmlpfeaaGreatDoor

/- What a part's bytes are, and how a part is read: plain. -/
namespace Go.Proofs.YtpjmolnkmlpfeaaGreatDoor
set_option linter.unusedVariables false
set_option linter.unusedSimpArgs false
set_option maxRecDepth 100000

def leN : List UInt8 → Nat
  | [] => 0
  | c :: cs => c.toNat + 256 * leN cs
def le4 (x : Nat) : List UInt8 := [UInt8.ofNat x, UInt8.ofNat (x / 256), UInt8.ofNat (x / 65536), UInt8.ofNat (x / 16777216)]
theorem leN_le4 (x : Nat) : leN (le4 x) = x % 4294967296 := by
  simp only [le4, leN, UInt8.toNat_ofNat']
  omega
/-- How a part of the sort k is read: the number, the bytes, how many bytes were taken. -/
def getP (k most : Int) (xs : List UInt8) : Option (Nat × List UInt8 × Nat) :=
  if k = 0 then (if 1 ≤ xs.length then some (leN (xs.take 1), [], 1) else none)
  else if k = 1 then (if 4 ≤ xs.length then some (leN (xs.take 4), [], 4) else none)
  else if k = 2 then (num xs 0).map fun r => (r.1, [], r.2)
  else if k = 3 then (num xs 0).bind fun r => if 0 ≤ most ∧ (r.1 : Int) ≤ most ∧ r.1 ≤ xs.length - r.2 then some (0, (xs.drop r.2).take r.1, r.2 + r.1) else none
  else if 0 ≤ most ∧ most ≤ xs.length then some (0, xs.take most.toNat, most.toNat) else none
/-- A part's bytes. -/
def putP (k : Int) (x : Nat) (b : List UInt8) : List UInt8 :=
  if k = 0 then [UInt8.ofNat x] else if k = 1 then le4 x else if k = 2 then short x else if k = 3 then short b.length ++ b else b
def numP (k : Int) (x : Nat) : Nat := if k = 0 then x % 256 else if k = 1 then x % 4294967296 else if k = 2 then x else 0
def textP (k : Int) (b : List UInt8) : List UInt8 := if k = 0 ∨ k = 1 ∨ k = 2 then [] else b
/-- What was put is read. -/
theorem get_put {k : Int} {x : Nat} {b rest : List UInt8} (hx : x < 18446744073709551616) (hb : b.length ≤ 9223372036854775807) :
    getP k b.length (putP k x b ++ rest) = some (numP k x, textP k b, (putP k x b).length) := by
  unfold getP putP numP textP
  by_cases h0 : k = 0
  · simp [h0, leN]
  by_cases h1 : k = 1
  · subst h1
    simp only [if_true, show ¬ ((1 : Int) = 0) by decide, if_false]
    rw [if_pos (by simp [le4])]
    have : List.take 4 (le4 x ++ rest) = le4 x := by simp [le4]
    rw [this, leN_le4]
    simp [le4]
  by_cases h2 : k = 2
  · subst h2
    simp only [if_true, show ¬ ((2 : Int) = 0) by decide, show ¬ ((2 : Int) = 1) by decide, if_false]
    rw [num_whole x 0 rest (by omega) (by omega) (by omega)]
    simp
  by_cases h3 : k = 3
  · subst h3
    simp only [if_true, show ¬ ((3 : Int) = 0) by decide, show ¬ ((3 : Int) = 1) by decide, show ¬ ((3 : Int) = 2) by decide, if_false, List.append_assoc]
    rw [num_whole b.length 0 (b ++ rest) (by omega) (by omega) (by omega), Option.bind_some, if_pos (by simp)]
    simp
  · simp only [h0, h1, h2, h3, if_false]
    rw [if_pos (by rw [List.length_append]; omega)]
    simp
theorem getP_more {k most : Int} {xs ys : List UInt8} {x : Nat} {s : List UInt8} {j : Nat} (h : getP k most xs = some (x, s, j)) : j ≤ xs.length ∧ getP k most (xs ++ ys) = some (x, s, j) := by
  unfold getP at h ⊢
  by_cases h0 : k = 0
  · simp only [h0, if_true] at h ⊢
    split at h
    · rename_i hl
      injection h with h
      injection h with e1 e2
      injection e2 with e2 e3
      subst e1 e2 e3
      refine ⟨hl, ?_⟩
      rw [if_pos (by rw [List.length_append]; omega), List.take_append_of_le_length hl]
    · cases h
  by_cases h1 : k = 1
  · subst h1
    simp only [if_true, show ¬ ((1 : Int) = 0) by decide, if_false] at h ⊢
    split at h
    · rename_i hl
      injection h with h
      injection h with e1 e2
      injection e2 with e2 e3
      subst e1 e2 e3
      refine ⟨hl, ?_⟩
      rw [if_pos (by rw [List.length_append]; omega), List.take_append_of_le_length hl]
    · cases h
  by_cases h2 : k = 2
  · subst h2
    simp only [if_true, show ¬ ((2 : Int) = 0) by decide, show ¬ ((2 : Int) = 1) by decide, if_false, Option.map_eq_some_iff] at h ⊢
    obtain ⟨r, hr, e⟩ := h
    obtain ⟨r1, r2⟩ := r
    simp only [Prod.mk.injEq] at e
    refine ⟨?_, _, num_more _ ys _ _ hr, by simpa using e⟩
    have := (num_sound _ 0 _ _ (by omega) hr).1
    omega
  by_cases h3 : k = 3
  · subst h3
    simp only [if_true, show ¬ ((3 : Int) = 0) by decide, show ¬ ((3 : Int) = 1) by decide, show ¬ ((3 : Int) = 2) by decide, if_false, Option.bind_eq_some_iff] at h ⊢
    obtain ⟨⟨r1, r2⟩, hr, e⟩ := h
    have hk := (num_sound _ 0 _ _ (by omega) hr).1
    simp only at e
    split at e
    · rename_i hc
      injection e with e
      injection e with e1 e2
      injection e2 with e2 e3
      subst e1 e2 e3
      refine ⟨by omega, _, num_more _ ys _ _ hr, ?_⟩
      simp only
      rw [if_pos ⟨hc.1, hc.2.1, by rw [List.length_append]; omega⟩, List.drop_append_of_le_length hk, List.take_append_of_le_length (by rw [List.length_drop]; omega)]
    · cases e
  · simp only [h0, h1, h2, h3, if_false] at h ⊢
    split at h
    · rename_i hl
      injection h with h
      injection h with e1 e2
      injection e2 with e2 e3
      subst e1 e2 e3
      refine ⟨by omega, ?_⟩
      rw [if_pos ⟨hl.1, by rw [List.length_append]; omega⟩, List.take_append_of_le_length (by omega)]
    · cases h
/-- Of a beginning of a part's bytes that is not all of them there is no part. -/
theorem get_cut {k : Int} {x : Nat} {b : List UInt8} (hx : x < 18446744073709551616) (hb : b.length ≤ 9223372036854775807) {j : Nat} (hj : j < (putP k x b).length) : getP k b.length ((putP k x b).take j) = none := by
  cases h : getP k b.length ((putP k x b).take j) with
  | none => rfl
  | some r =>
    obtain ⟨y, s, i⟩ := r
    have h1 := getP_more (ys := (putP k x b).drop j) h
    have h2 := get_put (k := k) (x := x) (b := b) (rest := []) hx hb
    rw [List.take_append_drop] at h1
    rw [List.append_nil, h1.2] at h2
    simp only [Option.some.injEq, Prod.mk.injEq] at h2
    have := h1.1
    rw [List.length_take] at this
    omega
end Go.Proofs.YtpjmolnkmlpfeaaGreatDoor
