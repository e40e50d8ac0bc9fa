/- Joined texts: CodeA, CodeB, CodeC, CodeD, CodeE, CodeF, CodeG, CodeH, CodeI, CodeJ, CodeK, CodeL, CodeM, CodeN, CodeO, CodeP, CodeS. -/
import Derived.RowKit
import Derived.Test.YtdckdjkkaangmaaDoorJA
import Derived.Test.YtdckdjkkaangmaaDoorRegion
import Derived.Test.YtdckdjkkaangmaaDoorChecked
import Derived.Tactics
import Derived.Handy
import Derived.Defers
import Derived.Recover
import Derived.Shelf.Abstract
import Derived.Laws.BitsAllLaws
/- Plain laws of numbers' digits to the base 128. -/
namespace Go.Proofs.YtdckdjkkaangmaaDoor
set_option linter.unusedVariables false
set_option linter.unusedSimpArgs false
set_option maxRecDepth 100000

/-- A number's digits to the base 128, the least one first. -/
def short (x : Nat) : List UInt8 := if x < 128 then [UInt8.ofNat x] else UInt8.ofNat (x % 128 + 128) :: short (x / 128)
termination_by x
decreasing_by omega
/-- What 'number' reads, from the digit number n on: the number, and how many digits. -/
def num : List UInt8 → Nat → Option (Nat × Nat)
  | [], _ => none
  | c :: cs, n =>
    if n < 9 ∨ n = 9 ∧ c.toNat = 1 then
      if c.toNat < 128 then (if n = 0 ∨ 0 < c.toNat then some (c.toNat, 1) else none)
      else (num cs (n + 1)).map fun r => (c.toNat % 128 + 128 * r.1, r.2 + 1)
    else none
def val : List UInt8 → Nat
  | [] => 0
  | c :: cs => c.toNat % 128 + 128 * val cs
theorem short_low {x : Nat} (h : x < 128) : short x = [UInt8.ofNat x] := by rw [short, if_pos h]
theorem short_high {x : Nat} (h : 128 ≤ x) : short x = UInt8.ofNat (x % 128 + 128) :: short (x / 128) := by rw [short, if_neg (by omega)]
theorem u8_ofNat {x : Nat} (h : x < 256) : (UInt8.ofNat x).toNat = x := by rw [UInt8.toNat_ofNat']; omega
theorem u8_self (c : UInt8) : UInt8.ofNat c.toNat = c := by apply UInt8.toNat_inj.1; rw [u8_ofNat c.toNat_lt]
theorem short_len_pos (x : Nat) : 0 < (short x).length := by
  rw [short]; split <;> simp
/-- What is read is a number's digits. -/
theorem num_sound : ∀ (xs : List UInt8) (n y k : Nat), n ≤ 9 → num xs n = some (y, k) → k ≤ xs.length ∧ short y = xs.take k ∧ (0 < n → 0 < y) ∧ y * 128 ^ n < 18446744073709551616 ∧ k + n ≤ 10 ∧ 0 < k
  | [], n, y, k, _, h => by simp [num] at h
  | c :: cs, n, y, k, hn, h => by
    rw [num] at h
    split at h
    · rename_i h1
      split at h
      · rename_i h2
        split at h
        · rename_i h3
          injection h with h
          injection h with ha hb
          subst ha hb
          refine ⟨by simp, ?_, by omega, ?_, by omega, by omega⟩
          · rw [short_low h2, u8_self]; rfl
          · rcases h1 with h1 | ⟨h1, h4⟩
            · have : 128 ^ n ≤ 128 ^ 8 := Nat.pow_le_pow_right (by decide) (by omega)
              calc c.toNat * 128 ^ n ≤ 127 * 128 ^ 8 := Nat.mul_le_mul (by omega) this
                _ < _ := by decide
            · subst h1; rw [h4]; decide
        · cases h
      · rename_i h2
        rw [Option.map_eq_some_iff] at h
        obtain ⟨⟨y', k'⟩, h3, h4⟩ := h
        injection h4 with ha hb
        have hn9 : n < 9 := by omega
        obtain ⟨r1, r2, r3, r4, r5, r6⟩ := num_sound cs (n + 1) y' k' (by omega) h3
        have hc := c.toNat_lt
        have hy : 0 < y' := r3 (by omega)
        subst ha hb
        refine ⟨by simpa using r1, ?_, by omega, ?_, by omega, by omega⟩
        · rw [short_high (by omega)]
          have e1 : (c.toNat % 128 + 128 * y') % 128 + 128 = c.toNat := by omega
          have e2 : (c.toNat % 128 + 128 * y') / 128 = y' := by omega
          rw [e1, e2, u8_self, r2]; rfl
        · have e : y' * 128 ^ (n + 1) = y' * 128 * 128 ^ n := by rw [Nat.pow_succ]; rw [Nat.mul_assoc, Nat.mul_comm 128]
          rw [e] at r4
          have hle : (c.toNat % 128 + 128 * y') * 128 ^ n ≤ (y' * 128 + 127) * 128 ^ n := Nat.mul_le_mul_right _ (by omega)
          have hd : 18446744073709551616 = 2 ^ (64 - 7 * n) * 128 ^ n := by
            rw [show (128 : Nat) = 2 ^ 7 from rfl, ← Nat.pow_mul, ← Nat.pow_add, show 64 - 7 * n + 7 * n = 64 by omega]
          have hlt : y' * 128 < 2 ^ (64 - 7 * n) := by
            rw [hd] at r4
            exact Nat.lt_of_mul_lt_mul_right r4
          have hq : 2 ^ (64 - 7 * n) = 128 * 2 ^ (57 - 7 * n) := by
            rw [show (128 : Nat) = 2 ^ 7 from rfl, ← Nat.pow_add, show 7 + (57 - 7 * n) = 64 - 7 * n by omega]
          have h5 : c.toNat % 128 + 128 * y' < 2 ^ (64 - 7 * n) := by
            rw [hq] at hlt ⊢
            generalize 2 ^ (57 - 7 * n) = z at hlt ⊢
            omega
          rw [hd]
          exact Nat.mul_lt_mul_of_pos_right h5 (Nat.pow_pos (by decide))
    · cases h
/-- A number's digits are read, whatever is behind. -/
theorem num_whole : ∀ (y n : Nat) (rest : List UInt8), n ≤ 9 → (0 < n → 0 < y) → y * 128 ^ n < 18446744073709551616 → num (short y ++ rest) n = some (y, (short y).length) := by
  intro y
  induction y using Nat.strongRecOn with
  | ind y ih =>
    intro n rest hn h0 hlt
    have h9 : n = 9 → y ≤ 1 := fun h => by subst h; omega
    by_cases hy : y < 128
    · rw [short_low hy, List.singleton_append, num, u8_ofNat (by omega), if_pos (by omega), if_pos hy, if_pos (by omega)]
      rfl
    · have hn8 : n < 9 := by
        rcases Nat.lt_or_ge n 9 with h | h
        · exact h
        · have := h9 (by omega); omega
      rw [short_high (by omega), List.cons_append, num, u8_ofNat (by omega), if_pos (.inl hn8), if_neg (by omega), ih (y / 128) (by omega) (n + 1) rest (by omega) (by omega)]
      · rw [Option.map_some, List.length_cons]
        have e1 : (y % 128 + 128) % 128 + 128 * (y / 128) = y := by omega
        simp only [e1]
      · have e : y / 128 * 128 ^ (n + 1) = y / 128 * 128 * 128 ^ n := by rw [Nat.pow_succ, Nat.mul_assoc, Nat.mul_comm 128]
        rw [e]
        exact Nat.lt_of_le_of_lt (Nat.mul_le_mul_right _ (by omega)) hlt
/-- Where digits that go on are behind us. -/
theorem num_on : ∀ (xs : List UInt8) (n k : Nat), n + k ≤ 9 → (∀ c ∈ xs.take k, 128 ≤ c.toNat) → k ≤ xs.length → num xs n = (num (xs.drop k) (n + k)).map fun r => (val (xs.take k) + 128 ^ k * r.1, r.2 + k)
  | xs, n, 0, _, _, _ => by
    simp [val]
  | [], n, k + 1, _, _, h => by simp at h
  | c :: cs, n, k + 1, hn, hc, hk => by
    have h1 : 128 ≤ c.toNat := hc c (by simp)
    rw [num, if_pos (by omega), if_neg (by omega), num_on cs (n + 1) k (by omega) (fun d hd => hc d (by simp [hd])) (by simpa using hk)]
    rw [List.drop_succ_cons, List.take_succ_cons, Option.map_map, show n + 1 + k = n + (k + 1) by omega]
    congr 1
    funext r
    simp only [Function.comp, val, Nat.pow_succ, Prod.mk.injEq]
    refine ⟨?_, by omega⟩
    rw [Nat.mul_add, ← Nat.mul_assoc, Nat.mul_comm 128 (128 ^ k)]
    omega
theorem val_snoc : ∀ (l : List UInt8) (c : UInt8), val (l ++ [c]) = val l + 128 ^ l.length * (c.toNat % 128)
  | [], c => by simp [val]
  | d :: l, c => by
    rw [List.cons_append, val, val, val_snoc l c, List.length_cons, Nat.pow_succ, Nat.mul_add, ← Nat.mul_assoc, Nat.mul_comm 128 (128 ^ l.length)]
    omega
theorem val_lt : ∀ (l : List UInt8), val l < 128 ^ l.length
  | [] => by simp [val]
  | d :: l => by
    have := val_lt l
    rw [val, List.length_cons, Nat.pow_succ]
    omega
/-- One step of the loop. -/
theorem num_step {xs : List UInt8} {k : Nat} (hk : k < xs.length) (h9 : k ≤ 9) (hc : ∀ c ∈ xs.take k, 128 ≤ c.toNat) :
    num xs 0 = if k < 9 ∨ k = 9 ∧ xs[k].toNat = 1 then
      if xs[k].toNat < 128 then (if k = 0 ∨ 0 < xs[k].toNat then some (val (xs.take (k + 1)), k + 1) else none)
      else num xs 0 else none := by
  have h := num_on xs 0 k (by omega) hc (by omega)
  rw [List.drop_eq_getElem_cons hk, Nat.zero_add, num] at h
  split
  · rename_i h1
    rw [if_pos h1] at h
    split
    · rename_i h2
      rw [if_pos h2] at h
      split
      · rename_i h3
        rw [if_pos h3] at h
        rw [h, List.take_succ_eq_append_getElem hk, val_snoc, List.length_take, Nat.min_eq_left (by omega), Nat.mod_eq_of_lt h2, Option.map_some, Nat.add_comm 1 k]
      · rename_i h3
        rw [if_neg h3] at h
        rw [h]; rfl
    · rfl
  · rename_i h1
    rw [if_neg h1] at h
    rw [h]; rfl
theorem num_end {xs : List UInt8} {k : Nat} (hk : k = xs.length) (h9 : k ≤ 9) (hc : ∀ c ∈ xs.take k, 128 ≤ c.toNat) : num xs 0 = none := by
  rw [num_on xs 0 k (by omega) hc (by omega), hk, List.drop_length, num]
  rfl
end Go.Proofs.YtdckdjkkaangmaaDoor

/- The document's way to read a number, and the program's. -/
namespace Go.Proofs.YtdckdjkkaangmaaDoor
set_option linter.unusedVariables false
set_option linter.unusedSimpArgs false
set_option maxRecDepth 100000

theorem val_short : ∀ y, val (short y) = y := by
  intro y
  induction y using Nat.strongRecOn with
  | ind y ih =>
    by_cases hy : y < 128
    · rw [short_low hy, val, val, u8_ofNat (by omega)]
      omega
    · rw [short_high (by omega), val, ih (y / 128) (by omega), u8_ofNat (by omega)]
      omega
/-- All digits but the last one go on. -/
theorem short_shape : ∀ (y i : Nat) (h : i < (short y).length), (128 ≤ (short y)[i].toNat) ↔ i + 1 < (short y).length := by
  intro y
  induction y using Nat.strongRecOn with
  | ind y ih =>
    intro i h
    by_cases hy : y < 128
    · have e := short_low hy
      have hl : (short y).length = 1 := by rw [e]; rfl
      have hi : i = 0 := by omega
      subst hi
      have h0 : (short y)[0] = UInt8.ofNat y := by simp [e]
      rw [h0, u8_ofNat (by omega), hl]
      omega
    · have e := short_high (x := y) (by omega)
      have hl : (short y).length = (short (y / 128)).length + 1 := by rw [e]; rfl
      cases i with
      | zero =>
        have h0 : (short y)[0] = UInt8.ofNat (y % 128 + 128) := by simp [e]
        have := short_len_pos (y / 128)
        rw [h0, u8_ofNat (by omega), hl]
        omega
      | succ i =>
        have h1 : (short y)[i + 1] = (short (y / 128))[i]'(by omega) := by simp [e]
        rw [h1, hl, ih (y / 128) (by omega) i (by omega)]
        omega
theorem short_len {y : Nat} (h : y < 18446744073709551616) : (short y).length ≤ 10 := by
  have h1 := num_whole y 0 [] (by omega) (by omega) (by omega)
  have := (num_sound _ 0 _ _ (by omega) h1).2.2.2.2.1
  omega
/-- How many bytes stand at the front up to the first one below 128, among the first ten. -/
def digitsN (xs : List UInt8) : Nat := match (xs.take 10).findIdx? fun c => decide (c.toNat < 128) with | some i => i + 1 | none => 0
theorem digitsN_some {xs : List UInt8} {i : Nat} (hi : i < xs.length) (h10 : i < 10) (hc : xs[i].toNat < 128) (hno : ∀ j (_ : j < xs.length), j < i → 128 ≤ xs[j].toNat) : digitsN xs = i + 1 := by
  unfold digitsN
  have : (xs.take 10).findIdx? (fun c => decide (c.toNat < 128)) = some i := by
    rw [List.findIdx?_eq_some_iff_getElem]
    refine ⟨by rw [List.length_take]; omega, by rw [List.getElem_take]; simpa using hc, fun j hj => ?_⟩
    rw [List.getElem_take]
    have := hno j (by omega) hj
    simp
    exact this
  rw [this]
theorem digitsN_none {xs : List UInt8} (hno : ∀ j (_ : j < xs.length), j < 10 → 128 ≤ xs[j].toNat) : digitsN xs = 0 := by
  unfold digitsN
  have : (xs.take 10).findIdx? (fun c => decide (c.toNat < 128)) = none := by
    rw [List.findIdx?_eq_none_iff]
    intro c hc
    obtain ⟨j, hj, rfl⟩ := List.getElem_of_mem hc
    rw [List.length_take] at hj
    rw [List.getElem_take]
    have := hno j (by omega) (by omega)
    simp
    exact this
  rw [this]
theorem digitsN_le (xs : List UInt8) : digitsN xs ≤ xs.length ∧ digitsN xs ≤ 10 := by
  unfold digitsN
  split
  · rename_i i h
    have := (List.findIdx?_eq_some_iff_getElem.1 h).1
    rw [List.length_take] at this
    omega
  · omega
/-- What the document reads: the number modulo 2^64, if its digits are these. -/
def refNum (xs : List UInt8) : Option (Nat × Nat) :=
  if digitsN xs = 0 then none else if short (val (xs.take (digitsN xs)) % 18446744073709551616) = xs.take (digitsN xs) then some (val (xs.take (digitsN xs)) % 18446744073709551616, digitsN xs) else none
theorem num_digits {xs : List UInt8} {y k : Nat} (h : num xs 0 = some (y, k)) : digitsN xs = k ∧ val (xs.take k) = y ∧ y < 18446744073709551616 := by
  obtain ⟨h1, h2, _, h4, h5, h6⟩ := num_sound xs 0 y k (by omega) h
  have hl : (short y).length = k := by rw [h2, List.length_take]; omega
  refine ⟨?_, by rw [← h2, val_short], by omega⟩
  have hat : ∀ j (hj : j < k), xs[j]'(by omega) = (short y)[j]'(by omega) := fun j hj => by
    simp only [h2, List.getElem_take]
  have := digitsN_some (xs := xs) (i := k - 1) (by omega) (by omega) (by
    rw [hat (k - 1) (by omega)]
    have := short_shape y (k - 1) (by omega)
    omega) (fun j hj hjk => by
    rw [hat j (by omega)]
    exact (short_shape y j (by omega)).2 (by omega))
  omega
theorem refNum_eq (xs : List UInt8) : refNum xs = num xs 0 := by
  unfold refNum
  cases h : num xs 0 with
  | some r =>
    obtain ⟨y, k⟩ := r
    obtain ⟨h1, h2, h3⟩ := num_digits h
    have h4 := num_sound xs 0 y k (by omega) h
    rw [h1, if_neg (by omega), h2, Nat.mod_eq_of_lt h3, if_pos h4.2.1]
  | none =>
    split
    · rfl
    · split
      · rename_i h1 h2
        exfalso
        have h3 := num_whole (val (xs.take (digitsN xs)) % 18446744073709551616) 0 (xs.drop (digitsN xs)) (by omega) (by omega) (by omega)
        rw [h2, List.take_append_drop, h] at h3
        cases h3
      · rfl
end Go.Proofs.YtdckdjkkaangmaaDoor

/- What a part's bytes are, and how a part is read: plain. -/
namespace Go.Proofs.YtdckdjkkaangmaaDoor
set_option linter.unusedVariables false
set_option linter.unusedSimpArgs false
set_option maxRecDepth 100000

def leN : List UInt8 → Nat
  | [] => 0
  | c :: cs => c.toNat + 256 * leN cs
def le4 (x : Nat) : List UInt8 := [UInt8.ofNat x, UInt8.ofNat (x / 256), UInt8.ofNat (x / 65536), UInt8.ofNat (x / 16777216)]
theorem leN_le4 (x : Nat) : leN (le4 x) = x % 4294967296 := by
  simp only [le4, leN, UInt8.toNat_ofNat']
  omega
/-- How a part of the sort k is read: the number, the bytes, how many bytes were taken. -/
def getP (k most : Int) (xs : List UInt8) : Option (Nat × List UInt8 × Nat) :=
  if k = 0 then (if 1 ≤ xs.length then some (leN (xs.take 1), [], 1) else none)
  else if k = 1 then (if 4 ≤ xs.length then some (leN (xs.take 4), [], 4) else none)
  else if k = 2 then (num xs 0).map fun r => (r.1, [], r.2)
  else if k = 3 then (num xs 0).bind fun r => if 0 ≤ most ∧ (r.1 : Int) ≤ most ∧ r.1 ≤ xs.length - r.2 then some (0, (xs.drop r.2).take r.1, r.2 + r.1) else none
  else if 0 ≤ most ∧ most ≤ xs.length then some (0, xs.take most.toNat, most.toNat) else none
/-- A part's bytes. -/
def putP (k : Int) (x : Nat) (b : List UInt8) : List UInt8 :=
  if k = 0 then [UInt8.ofNat x] else if k = 1 then le4 x else if k = 2 then short x else if k = 3 then short b.length ++ b else b
def numP (k : Int) (x : Nat) : Nat := if k = 0 then x % 256 else if k = 1 then x % 4294967296 else if k = 2 then x else 0
def textP (k : Int) (b : List UInt8) : List UInt8 := if k = 0 ∨ k = 1 ∨ k = 2 then [] else b
/-- What was put is read. -/
theorem get_put {k : Int} {x : Nat} {b rest : List UInt8} (hx : x < 18446744073709551616) (hb : b.length ≤ 9223372036854775807) :
    getP k b.length (putP k x b ++ rest) = some (numP k x, textP k b, (putP k x b).length) := by
  unfold getP putP numP textP
  by_cases h0 : k = 0
  · simp [h0, leN]
  by_cases h1 : k = 1
  · subst h1
    simp only [if_true, show ¬ ((1 : Int) = 0) by decide, if_false]
    rw [if_pos (by simp [le4])]
    have : List.take 4 (le4 x ++ rest) = le4 x := by simp [le4]
    rw [this, leN_le4]
    simp [le4]
  by_cases h2 : k = 2
  · subst h2
    simp only [if_true, show ¬ ((2 : Int) = 0) by decide, show ¬ ((2 : Int) = 1) by decide, if_false]
    rw [num_whole x 0 rest (by omega) (by omega) (by omega)]
    simp
  by_cases h3 : k = 3
  · subst h3
    simp only [if_true, show ¬ ((3 : Int) = 0) by decide, show ¬ ((3 : Int) = 1) by decide, show ¬ ((3 : Int) = 2) by decide, if_false, List.append_assoc]
    rw [num_whole b.length 0 (b ++ rest) (by omega) (by omega) (by omega), Option.bind_some, if_pos (by simp)]
    simp
  · simp only [h0, h1, h2, h3, if_false]
    rw [if_pos (by rw [List.length_append]; omega)]
    simp
end Go.Proofs.YtdckdjkkaangmaaDoor

/- The reader: must, next. -/
namespace Go.Proofs.YtdckdjkkaangmaaDoor
set_option linter.unusedVariables false
set_option linter.unusedSimpArgs false
set_option maxRecDepth 100000
open Go.RowKit

/-- What a reader gives up with. -/
def gaveUp : List PanicEntry := [{ v := .iface 141 (.agg #[]), recovered := false }]
theorem must_yes (w : World) : Calls Tryd.prog 75 #[.bool true] w fun e w' => e = .returned (.tuple #[]) ∧ w = w' := by
  go_enter Tryd.func75, Tryd.ntmps75
  go_wp2_with fail
  go_end0
  exact ⟨rfl, rfl⟩
theorem must_no (w : World) : Calls Tryd.prog 75 #[.bool false] w fun e w' => e = .panicked gaveUp ∧ w = w' := by
  go_enter Tryd.func75, Tryd.ntmps75
  go_wp2_with fail
  all_goals exact ⟨rfl, rfl, rfl⟩

/-- The reader in the block r. -/
def Rd (w : World) (r : Nat) (A : Option Addr) (n c p : Nat) (f : Bool) : Prop := Blk w r 102 #[.slice A n c, .int .i64 (p : Int), .bool f]

set_option maxHeartbeats 400000 in
theorem next_no (r : Nat) (A : Option Addr) (n c p : Nat) (f : Bool) (k : Int) (w : World) (h : Rd w r A n c p f) (hp : p ≤ n) (hc : c ≤ 9223372036854775807) (hnc : n ≤ c) (hk : k < 0 ∨ (n : Int) - p < k) :
    Calls Tryd.prog 58 #[.pointer (some ⟨r, 0, none⟩), .int .i64 k] w fun e w' => e = .panicked gaveUp ∧ ∃ q, w' = w.drewN q := by
  have c0 : w.cell? ⟨r, 0, none⟩ = some (.slice A n c) := h.cell 0
  have c1 : w.cell? ⟨r, 1, none⟩ = some (.int .i64 (p : Int)) := h.cell 1
  by_cases hk0 : k < 0
  · have hkd : decide (0 ≤ k) = false := by rw [decide_eq_false_iff_not]; omega
    clear h hk
    go_enter Tryd.func58, Tryd.ntmps58
    go_wp2_with fail
    refine PF.pf_begin (by kernel_rfl) ?_
    refine PF.pf_take0 0 (by kernel_rfl) rfl (fun _ _ _ _ _ h => h) (by kernel_rfl) (fun u => by go_simp; try rfl) ?_
    try simp only [Act.put, pz0, pz1, pz2]
    refine PF.pf_take0 1 (by kernel_rfl) rfl (fun _ _ _ _ _ h => h) (by kernel_rfl) (fun u => by go_simp; try rfl) ?_
    try simp only [Act.put, pz0, pz1, pz2]
    refine PF.pf_take0 2 (by kernel_rfl) rfl (fun _ _ _ _ _ h => h) (by kernel_rfl) (fun u => by go_simp; try rfl) ?_
    try simp only [Act.put, pz0, pz1, pz2]
    refine PF.pf_skip0 3 (by kernel_rfl) rfl (fun _ _ _ _ _ h => h) (by kernel_rfl) ?_
    try simp only [Act.put, pz0, pz1, pz2]
    refine PF.pf_skip0 4 (by kernel_rfl) rfl (fun _ _ _ _ _ h => h) (by kernel_rfl) ?_
    try simp only [Act.put, pz0, pz1, pz2]
    refine PF.pf_skip0 5 (by kernel_rfl) rfl (fun _ _ _ _ _ h => h) (by kernel_rfl) ?_
    try simp only [Act.put, pz0, pz1, pz2]
    refine PF.pf_skip0 6 (by kernel_rfl) rfl (fun _ _ _ _ _ h => h) (by kernel_rfl) ?_
    try simp only [Act.put, pz0, pz1, pz2]
    refine PF.pf_skip0 7 (by kernel_rfl) rfl (fun _ _ _ _ _ h => h) (by kernel_rfl) ?_
    try simp only [Act.put, pz0, pz1, pz2]
    refine PF.pf_skip0 8 (by kernel_rfl) rfl (fun _ _ _ _ _ h => h) (by kernel_rfl) ?_
    try simp only [Act.put, pz0, pz1, pz2]
    refine PF.pf_skip0 9 (by kernel_rfl) rfl (fun _ _ _ _ _ h => h) (by kernel_rfl) ?_
    try simp only [Act.put, pz0, pz1, pz2]
    refine PF.pf_skip0 10 (by kernel_rfl) rfl (fun _ _ _ _ _ h => h) (by kernel_rfl) ?_
    try simp only [Act.put, pz0, pz1, pz2]
    refine PF.pf_skip0 11 (by kernel_rfl) rfl (fun _ _ _ _ _ h => h) (by kernel_rfl) ?_
    try simp only [Act.put, pz0, pz1, pz2]
    refine PF.pf_skip0 12 (by kernel_rfl) rfl (fun _ _ _ _ _ h => h) (by kernel_rfl) ?_
    try simp only [Act.put, pz0, pz1, pz2]
    refine PF.pf_skip0 13 (by kernel_rfl) rfl (fun _ _ _ _ _ h => h) (by kernel_rfl) ?_
    try simp only [Act.put, pz0, pz1, pz2]
    refine PF.pf_skip0 14 (by kernel_rfl) rfl (fun _ _ _ _ _ h => h) (by kernel_rfl) ?_
    try simp only [Act.put, pz0, pz1, pz2]
    refine PF.pf_take0 15 (by kernel_rfl) rfl (fun _ _ _ _ _ h => h) (by kernel_rfl) (fun u => by go_simp; try rfl) ?_
    try simp only [Act.put, pz0, pz1, pz2]
    refine PF.pf_exec 16 (by kernel_rfl) rfl (by kernel_rfl) (fun K hK => ?_)
    go_simp
    refine (must_no _).mono ?_
    rintro e w1 ⟨rfl, rfl⟩
    go_wp2_with fail
    exact ⟨rfl, rfl, 1, rfl⟩
  · have hk1 : 0 ≤ k := by omega
    have hkd : decide (0 ≤ k) = true := by rw [decide_eq_true_iff]; exact hk1
    have hkd2 : decide (k ≤ (n : Int) - (p : Int)) = false := by rw [decide_eq_false_iff_not]; omega
    have hw1 : IntKind.i64.wrap ((n : Int) - (p : Int)) = (n : Int) - (p : Int) := IntWalk.i64_in _ (by omega)
    clear h hk hk0
    go_enter Tryd.func58, Tryd.ntmps58
    go_wp2_with fail
    refine PF.pf_begin (by kernel_rfl) ?_
    refine PF.pf_take0 0 (by kernel_rfl) rfl (fun _ _ _ _ _ h => h) (by kernel_rfl) (fun u => by go_simp; try rfl) ?_
    try simp only [Act.put, pz0, pz1, pz2]
    refine PF.pf_take0 1 (by kernel_rfl) rfl (fun _ _ _ _ _ h => h) (by kernel_rfl) (fun u => by go_simp; try rfl) ?_
    try simp only [Act.put, pz0, pz1, pz2]
    refine PF.pf_take0 2 (by kernel_rfl) rfl (fun _ _ _ _ _ h => h) (by kernel_rfl) (fun u => by go_simp; try rfl) ?_
    try simp only [Act.put, pz0, pz1, pz2]
    refine PF.pf_take0 3 (by kernel_rfl) rfl (fun _ _ _ _ _ h => h) (by kernel_rfl) (fun u => by go_simp; try rfl) ?_
    try simp only [Act.put, pz0, pz1, pz2]
    refine PF.pf_take0 4 (by kernel_rfl) rfl (fun _ _ _ _ _ h => h) (by kernel_rfl) (fun u => by go_simp; try rfl) ?_
    try simp only [Act.put, pz0, pz1, pz2]
    refine PF.pf_take0 5 (by kernel_rfl) rfl (fun _ _ _ _ _ h => h) (by kernel_rfl) (fun u => by go_simp; try rfl) ?_
    try simp only [Act.put, pz0, pz1, pz2]
    refine PF.pf_take0 6 (by kernel_rfl) rfl (fun _ _ _ _ _ h => h) (by kernel_rfl) (fun u => by go_simp; try rfl) ?_
    try simp only [Act.put, pz0, pz1, pz2]
    refine PF.pf_take1 7 (PF.Same (r) _) (by kernel_rfl) rfl (fun _ _ _ _ _ h => h) (by kernel_rfl) (PF.Same.refl _ _) (fun u hu => by have hcu := hu.cell; go_simp; try rfl) ?_
    try simp only [Act.put, pz0, pz1, pz2]
    refine PF.pf_take0 8 (by kernel_rfl) rfl (fun _ _ _ _ _ h => h) (by kernel_rfl) (fun u => by go_simp; try rfl) ?_
    try simp only [Act.put, pz0, pz1, pz2]
    refine PF.pf_take0 9 (by kernel_rfl) rfl (fun _ _ _ _ _ h => h) (by kernel_rfl) (fun u => by go_simp; try rfl) ?_
    try simp only [Act.put, pz0, pz1, pz2]
    refine PF.pf_take0 10 (by kernel_rfl) rfl (fun _ _ _ _ _ h => h) (by kernel_rfl) (fun u => by go_simp; try rfl) ?_
    try simp only [Act.put, pz0, pz1, pz2]
    refine PF.pf_take0 11 (by kernel_rfl) rfl (fun _ _ _ _ _ h => h) (by kernel_rfl) (fun u => by go_simp; try rfl) ?_
    try simp only [Act.put, pz0, pz1, pz2]
    refine PF.pf_take1 12 (PF.Same (r) _) (by kernel_rfl) rfl (fun _ _ _ _ _ h => h) (by kernel_rfl) (PF.Same.refl _ _) (fun u hu => by have hcu := hu.cell; go_simp; try rfl) ?_
    try simp only [Act.put, pz0, pz1, pz2]
    refine PF.pf_take0 13 (by kernel_rfl) rfl (fun _ _ _ _ _ h => h) (by kernel_rfl) (fun u => by go_simp; try rfl) ?_
    try simp only [Act.put, pz0, pz1, pz2]
    refine PF.pf_take0 14 (by kernel_rfl) rfl (fun _ _ _ _ _ h => h) (by kernel_rfl) (fun u => by go_simp; try rfl) ?_
    try simp only [Act.put, pz0, pz1, pz2]
    refine PF.pf_take0 15 (by kernel_rfl) rfl (fun _ _ _ _ _ h => h) (by kernel_rfl) (fun u => by go_simp; try rfl) ?_
    try simp only [Act.put, pz0, pz1, pz2]
    refine PF.pf_exec 16 (by kernel_rfl) rfl (by kernel_rfl) (fun K hK => ?_)
    go_simp
    refine (must_no _).mono ?_
    rintro e w1 ⟨rfl, rfl⟩
    go_wp2_with fail
    exact ⟨rfl, rfl, 1, rfl⟩

set_option maxHeartbeats 400000 in
theorem next_row (r : Nat) (g o : Nat) (n c p : Nat) (f : Bool) (k : Nat) (w : World) (h : Rd w r (some ⟨g, o, none⟩) n c p f) (hc : c ≤ 9223372036854775807) (hnc : n ≤ c) (hk : p + k ≤ n) :
    Calls Tryd.prog 58 #[.pointer (some ⟨r, 0, none⟩), .int .i64 (k : Int)] w fun e w' => e = .returned (.slice (if p + k = p then some ⟨g, o, none⟩ else some ⟨g, o + p, none⟩) k k) ∧ ∃ q, w' = (w.drewN q).setCell ⟨r, 1, none⟩ (.int .i64 ((p + k : Nat) : Int)) := by
  have c0 : w.cell? ⟨r, 0, none⟩ = some (.slice (some ⟨g, o, none⟩) n c) := h.cell 0
  have c1 : w.cell? ⟨r, 1, none⟩ = some (.int .i64 (p : Int)) := h.cell 1
  have f1 : w.frozen? ⟨r, 1, none⟩ = false := h.free 1
  have hkd : decide (0 ≤ (k : Int)) = true := by rw [decide_eq_true_iff]; omega
  have hkd2 : decide ((k : Int) ≤ (n : Int) - (p : Int)) = true := by rw [decide_eq_true_iff]; omega
  have hw1 : IntKind.i64.wrap ((n : Int) - (p : Int)) = (n : Int) - (p : Int) := IntWalk.i64_in _ (by omega)
  have hw2 : IntKind.i64.wrap ((p : Int) + (k : Int)) = (p : Int) + (k : Int) := IntWalk.i64_in _ (by omega)
  have HS : Hid ((0 ≤ (p : Int) + (k : Int) ∧ (p : Int) + (k : Int) ≤ (c : Int)) = True ∧ (0 ≤ (p : Int) + (k : Int) ∧ (p : Int) + (k : Int) ≤ max ((p : Int) + (k : Int)) 0) = True ∧ (p ≤ ((p : Int) + (k : Int)).toNat) = True) := ⟨eq_true (by omega), eq_true (by omega), eq_true (by omega)⟩
  have ht : ((p : Int) + (k : Int)).toNat = p + k := by omega
  clear h
  go_enter Tryd.func58, Tryd.ntmps58
  go_wp2_with fail
  refine PF.pf_begin (by kernel_rfl) ?_
  refine PF.pf_take0 0 (by kernel_rfl) rfl (fun _ _ _ _ _ h => h) (by kernel_rfl) (fun u => by go_simp; try rfl) ?_
  try simp only [Act.put, pz0, pz1, pz2]
  refine PF.pf_take0 1 (by kernel_rfl) rfl (fun _ _ _ _ _ h => h) (by kernel_rfl) (fun u => by go_simp; try rfl) ?_
  try simp only [Act.put, pz0, pz1, pz2]
  refine PF.pf_take0 2 (by kernel_rfl) rfl (fun _ _ _ _ _ h => h) (by kernel_rfl) (fun u => by go_simp; try rfl) ?_
  try simp only [Act.put, pz0, pz1, pz2]
  refine PF.pf_take0 3 (by kernel_rfl) rfl (fun _ _ _ _ _ h => h) (by kernel_rfl) (fun u => by go_simp; try rfl) ?_
  try simp only [Act.put, pz0, pz1, pz2]
  refine PF.pf_take0 4 (by kernel_rfl) rfl (fun _ _ _ _ _ h => h) (by kernel_rfl) (fun u => by go_simp; try rfl) ?_
  try simp only [Act.put, pz0, pz1, pz2]
  refine PF.pf_take0 5 (by kernel_rfl) rfl (fun _ _ _ _ _ h => h) (by kernel_rfl) (fun u => by go_simp; try rfl) ?_
  try simp only [Act.put, pz0, pz1, pz2]
  refine PF.pf_take0 6 (by kernel_rfl) rfl (fun _ _ _ _ _ h => h) (by kernel_rfl) (fun u => by go_simp; try rfl) ?_
  try simp only [Act.put, pz0, pz1, pz2]
  refine PF.pf_take1 7 (PF.Same (r) _) (by kernel_rfl) rfl (fun _ _ _ _ _ h => h) (by kernel_rfl) (PF.Same.refl _ _) (fun u hu => by have hcu := hu.cell; go_simp; try rfl) ?_
  try simp only [Act.put, pz0, pz1, pz2]
  refine PF.pf_take0 8 (by kernel_rfl) rfl (fun _ _ _ _ _ h => h) (by kernel_rfl) (fun u => by go_simp; try rfl) ?_
  try simp only [Act.put, pz0, pz1, pz2]
  refine PF.pf_take0 9 (by kernel_rfl) rfl (fun _ _ _ _ _ h => h) (by kernel_rfl) (fun u => by go_simp; try rfl) ?_
  try simp only [Act.put, pz0, pz1, pz2]
  refine PF.pf_take0 10 (by kernel_rfl) rfl (fun _ _ _ _ _ h => h) (by kernel_rfl) (fun u => by go_simp; try rfl) ?_
  try simp only [Act.put, pz0, pz1, pz2]
  refine PF.pf_take0 11 (by kernel_rfl) rfl (fun _ _ _ _ _ h => h) (by kernel_rfl) (fun u => by go_simp; try rfl) ?_
  try simp only [Act.put, pz0, pz1, pz2]
  refine PF.pf_take1 12 (PF.Same (r) _) (by kernel_rfl) rfl (fun _ _ _ _ _ h => h) (by kernel_rfl) (PF.Same.refl _ _) (fun u hu => by have hcu := hu.cell; go_simp; try rfl) ?_
  try simp only [Act.put, pz0, pz1, pz2]
  refine PF.pf_take0 13 (by kernel_rfl) rfl (fun _ _ _ _ _ h => h) (by kernel_rfl) (fun u => by go_simp; try rfl) ?_
  try simp only [Act.put, pz0, pz1, pz2]
  refine PF.pf_take0 14 (by kernel_rfl) rfl (fun _ _ _ _ _ h => h) (by kernel_rfl) (fun u => by go_simp; try rfl) ?_
  try simp only [Act.put, pz0, pz1, pz2]
  refine PF.pf_take0 15 (by kernel_rfl) rfl (fun _ _ _ _ _ h => h) (by kernel_rfl) (fun u => by go_simp; try rfl) ?_
  try simp only [Act.put, pz0, pz1, pz2]
  refine PF.pf_exec 16 (by kernel_rfl) rfl (by kernel_rfl) (fun K hK => ?_)
  go_simp
  refine (must_yes _).mono ?_
  rintro e w1 ⟨rfl, rfl⟩
  refine hK _ _ (by repeat (first | exact PF.owes_nil | refine PF.owes_left ?_ | refine PF.owes_no (by decide +kernel) ?_ | refine PF.owes_yes (by first | rfl | assumption | go_simp) ?_)) ?_
  clear hK K
  try simp only [Act.put, pz0, pz1, pz2]
  refine PF.pf_done (by kernel_rfl) ?_
  go_wp2_with fail
  refine PF.pf_begin (by kernel_rfl) ?_
  refine PF.pf_take0 0 (by kernel_rfl) rfl (fun _ _ _ _ _ h => h) (by kernel_rfl) (fun u => by go_simp; try rfl) ?_
  try simp only [Act.put, pz0, pz1, pz2]
  refine PF.pf_take0 1 (by kernel_rfl) rfl (fun _ _ _ _ _ h => h) (by kernel_rfl) (fun u => by go_simp; try rfl) ?_
  try simp only [Act.put, pz0, pz1, pz2]
  refine PF.pf_take0 2 (by kernel_rfl) rfl (fun _ _ _ _ _ h => h) (by kernel_rfl) (fun u => by go_simp; try rfl) ?_
  try simp only [Act.put, pz0, pz1, pz2]
  refine PF.pf_take1 3 (PF.Same (r) _) (by kernel_rfl) rfl (fun _ _ _ _ _ h => h) (by kernel_rfl) (PF.Same.refl _ _) (fun u hu => by have hcu := hu.cell; go_simp; try rfl) ?_
  try simp only [Act.put, pz0, pz1, pz2]
  refine PF.pf_take0 4 (by kernel_rfl) rfl (fun _ _ _ _ _ h => h) (by kernel_rfl) (fun u => by go_simp; try rfl) ?_
  try simp only [Act.put, pz0, pz1, pz2]
  refine PF.pf_take0 5 (by kernel_rfl) rfl (fun _ _ _ _ _ h => h) (by kernel_rfl) (fun u => by go_simp; try rfl) ?_
  try simp only [Act.put, pz0, pz1, pz2]
  refine PF.pf_take0 6 (by kernel_rfl) rfl (fun _ _ _ _ _ h => h) (by kernel_rfl) (fun u => by go_simp; try rfl) ?_
  try simp only [Act.put, pz0, pz1, pz2]
  refine PF.pf_take1 7 (PF.Same (r) _) (by kernel_rfl) rfl (fun _ _ _ _ _ h => h) (by kernel_rfl) (PF.Same.refl _ _) (fun u hu => by have hcu := hu.cell; go_simp; try rfl) ?_
  try simp only [Act.put, pz0, pz1, pz2]
  refine PF.pf_take0 8 (by kernel_rfl) rfl (fun _ _ _ _ _ h => h) (by kernel_rfl) (fun u => by go_simp; try rfl) ?_
  try simp only [Act.put, pz0, pz1, pz2]
  refine PF.pf_take0 9 (by kernel_rfl) rfl (fun _ _ _ _ _ h => h) (by kernel_rfl) (fun u => by go_simp; try rfl) ?_
  try simp only [Act.put, pz0, pz1, pz2]
  refine PF.pf_take0 10 (by kernel_rfl) rfl (fun _ _ _ _ _ h => h) (by kernel_rfl) (fun u => by (go_simp; simp only [HS.out.1, if_true]; rfl)) ?_
  try simp only [Act.put, pz0, pz1, pz2]
  refine PF.pf_take0 11 (by kernel_rfl) rfl (fun _ _ _ _ _ h => h) (by kernel_rfl) (fun u => by go_simp; try rfl) ?_
  try simp only [Act.put, pz0, pz1, pz2]
  refine PF.pf_done (by kernel_rfl) ?_
  go_wp2_with fail
  all_goals (go_ret; exact ⟨rfl, 2, rfl⟩)
set_option maxHeartbeats 400000 in
/-- Of no bytes none are taken. -/
theorem next_nil (r : Nat) (c : Nat) (f : Bool) (w : World) (h : Rd w r none 0 c 0 f) :
    Calls Tryd.prog 58 #[.pointer (some ⟨r, 0, none⟩), .int .i64 0] w fun e w' => e = .returned (.slice none 0 0) ∧ ∃ q, w' = (w.drewN q).setCell ⟨r, 1, none⟩ (.int .i64 0) := by
  have c0 : w.cell? ⟨r, 0, none⟩ = some (.slice none 0 c) := h.cell 0
  have c1 : w.cell? ⟨r, 1, none⟩ = some (.int .i64 0) := h.cell 1
  have f1 : w.frozen? ⟨r, 1, none⟩ = false := h.free 1
  clear h
  go_enter Tryd.func58, Tryd.ntmps58
  go_wp2_with fail
  refine PF.pf_begin (by kernel_rfl) ?_
  refine PF.pf_take0 0 (by kernel_rfl) rfl (fun _ _ _ _ _ h => h) (by kernel_rfl) (fun u => by go_simp; try rfl) ?_
  try simp only [Act.put, pz0, pz1, pz2]
  refine PF.pf_take0 1 (by kernel_rfl) rfl (fun _ _ _ _ _ h => h) (by kernel_rfl) (fun u => by go_simp; try rfl) ?_
  try simp only [Act.put, pz0, pz1, pz2]
  refine PF.pf_take0 2 (by kernel_rfl) rfl (fun _ _ _ _ _ h => h) (by kernel_rfl) (fun u => by go_simp; try rfl) ?_
  try simp only [Act.put, pz0, pz1, pz2]
  refine PF.pf_take0 3 (by kernel_rfl) rfl (fun _ _ _ _ _ h => h) (by kernel_rfl) (fun u => by go_simp; try rfl) ?_
  try simp only [Act.put, pz0, pz1, pz2]
  refine PF.pf_take0 4 (by kernel_rfl) rfl (fun _ _ _ _ _ h => h) (by kernel_rfl) (fun u => by go_simp; try rfl) ?_
  try simp only [Act.put, pz0, pz1, pz2]
  refine PF.pf_take0 5 (by kernel_rfl) rfl (fun _ _ _ _ _ h => h) (by kernel_rfl) (fun u => by go_simp; try rfl) ?_
  try simp only [Act.put, pz0, pz1, pz2]
  refine PF.pf_take0 6 (by kernel_rfl) rfl (fun _ _ _ _ _ h => h) (by kernel_rfl) (fun u => by go_simp; try rfl) ?_
  try simp only [Act.put, pz0, pz1, pz2]
  refine PF.pf_take1 7 (PF.Same (r) _) (by kernel_rfl) rfl (fun _ _ _ _ _ h => h) (by kernel_rfl) (PF.Same.refl _ _) (fun u hu => by have hcu := hu.cell; go_simp; try rfl) ?_
  try simp only [Act.put, pz0, pz1, pz2]
  refine PF.pf_take0 8 (by kernel_rfl) rfl (fun _ _ _ _ _ h => h) (by kernel_rfl) (fun u => by go_simp; try rfl) ?_
  try simp only [Act.put, pz0, pz1, pz2]
  refine PF.pf_take0 9 (by kernel_rfl) rfl (fun _ _ _ _ _ h => h) (by kernel_rfl) (fun u => by go_simp; try rfl) ?_
  try simp only [Act.put, pz0, pz1, pz2]
  refine PF.pf_take0 10 (by kernel_rfl) rfl (fun _ _ _ _ _ h => h) (by kernel_rfl) (fun u => by go_simp; try rfl) ?_
  try simp only [Act.put, pz0, pz1, pz2]
  refine PF.pf_take0 11 (by kernel_rfl) rfl (fun _ _ _ _ _ h => h) (by kernel_rfl) (fun u => by go_simp; try rfl) ?_
  try simp only [Act.put, pz0, pz1, pz2]
  refine PF.pf_take1 12 (PF.Same (r) _) (by kernel_rfl) rfl (fun _ _ _ _ _ h => h) (by kernel_rfl) (PF.Same.refl _ _) (fun u hu => by have hcu := hu.cell; go_simp; try rfl) ?_
  try simp only [Act.put, pz0, pz1, pz2]
  refine PF.pf_take0 13 (by kernel_rfl) rfl (fun _ _ _ _ _ h => h) (by kernel_rfl) (fun u => by go_simp; try rfl) ?_
  try simp only [Act.put, pz0, pz1, pz2]
  refine PF.pf_take0 14 (by kernel_rfl) rfl (fun _ _ _ _ _ h => h) (by kernel_rfl) (fun u => by go_simp; try rfl) ?_
  try simp only [Act.put, pz0, pz1, pz2]
  refine PF.pf_take0 15 (by kernel_rfl) rfl (fun _ _ _ _ _ h => h) (by kernel_rfl) (fun u => by go_simp; try rfl) ?_
  try simp only [Act.put, pz0, pz1, pz2]
  refine PF.pf_exec 16 (by kernel_rfl) rfl (by kernel_rfl) (fun K hK => ?_)
  go_simp
  refine (must_yes _).mono ?_
  rintro e w1 ⟨rfl, rfl⟩
  refine hK _ _ (by repeat (first | exact PF.owes_nil | refine PF.owes_left ?_ | refine PF.owes_no (by decide +kernel) ?_ | refine PF.owes_yes (by first | rfl | assumption | go_simp) ?_)) ?_
  clear hK K
  try simp only [Act.put, pz0, pz1, pz2]
  refine PF.pf_done (by kernel_rfl) ?_
  go_wp2_with fail
  refine PF.pf_begin (by kernel_rfl) ?_
  refine PF.pf_take0 0 (by kernel_rfl) rfl (fun _ _ _ _ _ h => h) (by kernel_rfl) (fun u => by go_simp; try rfl) ?_
  try simp only [Act.put, pz0, pz1, pz2]
  refine PF.pf_take0 1 (by kernel_rfl) rfl (fun _ _ _ _ _ h => h) (by kernel_rfl) (fun u => by go_simp; try rfl) ?_
  try simp only [Act.put, pz0, pz1, pz2]
  refine PF.pf_take0 2 (by kernel_rfl) rfl (fun _ _ _ _ _ h => h) (by kernel_rfl) (fun u => by go_simp; try rfl) ?_
  try simp only [Act.put, pz0, pz1, pz2]
  refine PF.pf_take1 3 (PF.Same (r) _) (by kernel_rfl) rfl (fun _ _ _ _ _ h => h) (by kernel_rfl) (PF.Same.refl _ _) (fun u hu => by have hcu := hu.cell; go_simp; try rfl) ?_
  try simp only [Act.put, pz0, pz1, pz2]
  refine PF.pf_take0 4 (by kernel_rfl) rfl (fun _ _ _ _ _ h => h) (by kernel_rfl) (fun u => by go_simp; try rfl) ?_
  try simp only [Act.put, pz0, pz1, pz2]
  refine PF.pf_take0 5 (by kernel_rfl) rfl (fun _ _ _ _ _ h => h) (by kernel_rfl) (fun u => by go_simp; try rfl) ?_
  try simp only [Act.put, pz0, pz1, pz2]
  refine PF.pf_take0 6 (by kernel_rfl) rfl (fun _ _ _ _ _ h => h) (by kernel_rfl) (fun u => by go_simp; try rfl) ?_
  try simp only [Act.put, pz0, pz1, pz2]
  refine PF.pf_take1 7 (PF.Same (r) _) (by kernel_rfl) rfl (fun _ _ _ _ _ h => h) (by kernel_rfl) (PF.Same.refl _ _) (fun u hu => by have hcu := hu.cell; go_simp; try rfl) ?_
  try simp only [Act.put, pz0, pz1, pz2]
  refine PF.pf_take0 8 (by kernel_rfl) rfl (fun _ _ _ _ _ h => h) (by kernel_rfl) (fun u => by go_simp; try rfl) ?_
  try simp only [Act.put, pz0, pz1, pz2]
  refine PF.pf_take0 9 (by kernel_rfl) rfl (fun _ _ _ _ _ h => h) (by kernel_rfl) (fun u => by go_simp; try rfl) ?_
  try simp only [Act.put, pz0, pz1, pz2]
  refine PF.pf_take0 10 (by kernel_rfl) rfl (fun _ _ _ _ _ h => h) (by kernel_rfl) (fun u => by go_simp; try rfl) ?_
  try simp only [Act.put, pz0, pz1, pz2]
  refine PF.pf_take0 11 (by kernel_rfl) rfl (fun _ _ _ _ _ h => h) (by kernel_rfl) (fun u => by go_simp; try rfl) ?_
  try simp only [Act.put, pz0, pz1, pz2]
  refine PF.pf_done (by kernel_rfl) ?_
  go_wp2_with fail
  all_goals (go_ret; exact ⟨rfl, 2, rfl⟩)
end Go.Proofs.YtdckdjkkaangmaaDoor

/- The reader with its bytes; number. -/
namespace Go.Proofs.YtdckdjkkaangmaaDoor
set_option linter.unusedVariables false
set_option linter.unusedSimpArgs false
set_option maxRecDepth 100000
open Go.RowKit

/-- The reader in the block r stands at the place p of the bytes l, which lie elsewhere. -/
structure RdB (w : World) (r : Nat) (A : Option Addr) (c : Nat) (l : List UInt8) (p : Nat) (f : Bool) : Prop where
  rd : Rd w r A l.length c p f
  by_ : Bytes w A l
  lc : l.length ≤ c
  cc : c ≤ 9223372036854775807
  pl : p ≤ l.length
  ne : ∀ ad, A = some ad → ad.block ≠ r ∧ ad.spot = none
  al : ∀ ad, A = some ad → ad.block < w.heap.size
section
variable {w w' : World} {r c p : Nat} {A : Option Addr} {l : List UInt8} {f : Bool}
theorem RdB.lt (h : RdB w r A c l p f) : r < w.heap.size := Blk.lt h.rd
/-- What keeps all but the reader keeps its bytes. -/
theorem RdB.only (h : RdB w r A c l p f) (hg : w.grownBy w' (some r)) {p' : Nat} {f' : Bool} (hr : Rd w' r A l.length c p' f') (hp : p' ≤ l.length) : RdB w' r A c l p' f' :=
  ⟨hr, Reads.grown h.by_ hg fun ad e => by have := (h.ne ad e).1; simpa using this, h.lc, h.cc, hp, h.ne, fun ad e => Nat.lt_of_lt_of_le (h.al ad e) hg.size⟩
theorem RdB.below (h : RdB w r A c l p f) (hb : Below w.heap.size w w') : RdB w' r A c l p f :=
  ⟨Blk.below h.rd hb h.lt, h.by_.below hb, h.lc, h.cc, h.pl, h.ne, fun ad e => Nat.lt_of_lt_of_le (h.al ad e) hb.size⟩
/-- A store elsewhere. -/
theorem RdB.far (h : RdB w r A c l p f) {b : Nat} (hb : b ≠ r) (hA : ∀ ad, A = some ad → ad.block ≠ b) (i : Nat) (v : Value) : RdB (w.setCell ⟨b, i, none⟩ v) r A c l p f :=
  ⟨Blk.far h.rd (Ne.symm hb) v, Reads.grown h.by_ (only_set (only_refl w (some b)) i v) fun ad e => by simpa using hA ad e, h.lc, h.cc, h.pl, h.ne, fun ad e => by simpa [World.setCell] using h.al ad e⟩
theorem Rd.put1 {n p' : Nat} (h : Rd w r A n c p f) (v : Int) (hv : v = (p' : Int)) : Rd (w.setCell ⟨r, 1, none⟩ (.int .i64 v)) r A n c p' f := by
  subst hv
  exact Blk.put h 1 _
end

/-- k bytes are there: they are answered. -/
theorem next_in (r : Nat) (A : Option Addr) (c : Nat) (l : List UInt8) (p : Nat) (f : Bool) (k : Nat) (w : World) (h : RdB w r A c l p f) (hk : p + k ≤ l.length) :
    Calls Tryd.prog 58 #[.pointer (some ⟨r, 0, none⟩), .int .i64 (k : Int)] w fun e w' => (∃ B, e = .returned (.slice B k k) ∧ Bytes w' B ((l.drop p).take k) ∧ ∀ bd, B = some bd → ∃ ad, A = some ad ∧ bd.block = ad.block) ∧ RdB w' r A c l (p + k) f ∧ w.grownBy w' (some r) := by
  cases A with
  | none =>
    have hl : l = [] := by
      rcases Nat.eq_zero_or_pos l.length with h0 | h0
      · exact List.eq_nil_of_length_eq_zero h0
      · obtain ⟨g, o, e, _⟩ := Bytes.flat h.by_ h0
        cases e
    subst hl
    have hpl := h.pl
    simp only [List.length_nil] at hpl hk
    obtain rfl : p = 0 := by omega
    obtain rfl : k = 0 := by omega
    refine (next_nil r c f w h.rd).mono ?_
    rintro e w' ⟨rfl, q, rfl⟩
    have hg : w.grownBy ((w.drewN q).setCell ⟨r, 1, none⟩ (.int .i64 0)) (some r) := only_set (only_drewN (only_refl _ _) q) 1 _
    exact ⟨⟨_, rfl, Bytes.nil_ _ _, fun _ e => by cases e⟩, h.only hg (Rd.put1 (Blk.drewN h.rd q) _ rfl) (by simp), hg⟩
  | some ad =>
    obtain ⟨g, o, s⟩ := ad
    have hs := (h.ne _ rfl).2
    simp only at hs
    subst hs
    refine (next_row r g o l.length c p f k w h.rd h.cc h.lc hk).mono ?_
    rintro e w' ⟨rfl, q, rfl⟩
    have hg : w.grownBy ((w.drewN q).setCell ⟨r, 1, none⟩ (.int .i64 ((p + k : Nat) : Int))) (some r) := only_set (only_drewN (only_refl _ _) q) 1 _
    have hR : RdB ((w.drewN q).setCell ⟨r, 1, none⟩ (.int .i64 ((p + k : Nat) : Int))) r (some ⟨g, o, none⟩) c l (p + k) f := h.only hg (Rd.put1 (Blk.drewN h.rd q) _ rfl) hk
    refine ⟨?_, hR, hg⟩
    have hlen : ((l.drop p).take k).length = k := by rw [List.length_take, List.length_drop]; omega
    by_cases h0 : k = 0
    · subst h0
      exact ⟨_, rfl, by rw [List.take_zero]; exact Bytes.nil_ _ _, fun bd e => ⟨_, rfl, by rw [if_pos (Nat.add_zero p)] at e; injection e with e; rw [← e]⟩⟩
    · obtain ⟨g', o', e2, hb2, hc2⟩ := Bytes.flat hR.by_ (by omega)
      injection e2 with e2
      injection e2 with e3 e4
      subst e3 e4
      refine ⟨some ⟨g, o + p, none⟩, by rw [if_neg (by omega)], ⟨by simp, fun _ => ⟨_, rfl, hb2, fun j u hu => ?_⟩⟩, fun bd e => ⟨_, rfl, by injection e with e; rw [← e]⟩⟩
      rw [add_flat]
      have hj : j < k := by
        have := (List.getElem?_eq_some_iff.1 hu).1
        rw [List.length_map, hlen] at this
        exact this
      rw [Nat.add_assoc, hc2 (p + j) (by omega), ← hu, List.getElem?_map, List.getElem?_take, if_pos hj, List.getElem?_drop, List.getElem?_eq_getElem (by omega)]
      rfl
theorem next_ok (r : Nat) (A : Option Addr) (c : Nat) (l : List UInt8) (p : Nat) (f : Bool) (k : Nat) (w : World) (h : RdB w r A c l p f) (hk : p + k ≤ l.length) :
    Calls Tryd.prog 58 #[.pointer (some ⟨r, 0, none⟩), .int .i64 (k : Int)] w fun e w' => (∃ B, e = .returned (.slice B k k) ∧ Bytes w' B ((l.drop p).take k)) ∧ RdB w' r A c l (p + k) f ∧ w.grownBy w' (some r) :=
  (next_in r A c l p f k w h hk).mono fun _ _ ⟨⟨B, h1, h2, _⟩, h3⟩ => ⟨⟨B, h1, h2⟩, h3⟩
theorem next_bad (r : Nat) (A : Option Addr) (c : Nat) (l : List UInt8) (p : Nat) (f : Bool) (k : Int) (w : World) (h : RdB w r A c l p f) (hk : k < 0 ∨ (l.length : Int) - p < k) :
    Calls Tryd.prog 58 #[.pointer (some ⟨r, 0, none⟩), .int .i64 k] w fun e w' => e = .panicked gaveUp ∧ RdB w' r A c l p f ∧ w.grownBy w' (some r) := by
  refine (next_no r A l.length c p f k w h.rd h.pl h.cc h.lc hk).mono ?_
  rintro e w' ⟨rfl, q, rfl⟩
  have hg : w.grownBy (w.drewN q) (some r) := only_drewN (only_refl _ _) q
  exact ⟨rfl, h.only hg (Blk.drewN h.rd q) h.pl, hg⟩

def NumPost (r : Nat) (A : Option Addr) (c : Nat) (l : List UInt8) (p : Nat) (f : Bool) (e : Ending) (w' : World) : Prop :=
  match num (l.drop p) 0 with
  | some (y, k) => e = .returned (.int .u64 (y : Int)) ∧ RdB w' r A c l (p + k) f
  | none => e = .panicked gaveUp ∧ ∃ p', RdB w' r A c l p' f
theorem NumPost.some {r : Nat} {A : Option Addr} {c : Nat} {l : List UInt8} {p : Nat} {f : Bool} {e : Ending} {w' : World} {y k : Nat} (h : num (l.drop p) 0 = some (y, k)) (he : e = .returned (.int .u64 (y : Int))) (hR : RdB w' r A c l (p + k) f) : NumPost r A c l p f e w' := by
  unfold NumPost; rw [h]; exact ⟨he, hR⟩
theorem NumPost.none {r : Nat} {A : Option Addr} {c : Nat} {l : List UInt8} {p p' : Nat} {f : Bool} {e : Ending} {w' : World} (h : num (l.drop p) 0 = none) (he : e = .panicked gaveUp) (hR : RdB w' r A c l p' f) : NumPost r A c l p f e w' := by
  unfold NumPost; rw [h]; exact ⟨he, _, hR⟩
theorem drop_at {l : List UInt8} {p k : Nat} (h : p + k < l.length) : (l.drop p)[k]'(by rw [List.length_drop]; omega) = l[p + k] := by rw [List.getElem_drop]

theorem acc_eq (a d k : Nat) (h : a + 128 ^ k * (d % 128) < 18446744073709551616) : IntKind.u64.wrap ((a : Int) + IntKind.u64.wrap ((d : Int) % 128 * 2 ^ (7 * k))) = ((a + 128 ^ k * (d % 128) : Nat) : Int) := by
  have e : (d : Int) % 128 * 2 ^ (7 * k) = ((128 ^ k * (d % 128) : Nat) : Int) := by
    have h1 : (2 : Nat) ^ (7 * k) = 128 ^ k := by rw [Nat.pow_mul]
    rw [← h1]
    push_cast
    exact Int.mul_comm _ _
  rw [e, IntKind.wrap_u64, IntKind.wrap_u64]
  omega

set_option maxRecDepth 100000 in
set_option maxHeartbeats 1000000 in
theorem number_any (r : Nat) (A : Option Addr) (c : Nat) (l : List UInt8) (p : Nat) (f : Bool) (w : World) (h : RdB w r A c l p f) :
    Calls Tryd.prog 113 #[.pointer (some ⟨r, 0, none⟩)] w fun e w' => NumPost r A c l p f e w' ∧ w.grownBy w' (some r) := by
  go_enter Tryd.func113, Tryd.ntmps113
  go_wp2_with fail
  go_loopw [2, 3, 4] (fun x n _ wr => ∃ k : Nat, k ≤ 9 ∧ p + k ≤ l.length ∧ x = .int .u64 (val ((l.drop p).take k) : Int) ∧ n = .int .i64 k ∧ RdB wr r A c l (p + k) f ∧ w.grownBy wr (some r) ∧ ∀ d ∈ (l.drop p).take k, 128 ≤ d.toNat) (fun _ n _ _ => 10 - (intOf n).toNat)
  case atStart => exact ⟨0, by omega, h.pl, rfl, rfl, h, only_refl _ _, by simp⟩
  case round =>
    obtain ⟨k, hk9, hpk, rfl, rfl, hR, hg, hd⟩ := hrel
    have HD := Lib.hid hd
    clear hd
    by_cases hlt : p + k < l.length
    · have hkx : k < (l.drop p).length := by rw [List.length_drop]; omega
      have hst := num_step hkx hk9 HD.out
      rw [drop_at hlt] at hst
      have hone : ((l.drop (p + k)).take 1) = [l[p + k]] := by rw [List.drop_eq_getElem_cons hlt]; rfl
      have hts : (l.drop p).take (k + 1) = (l.drop p).take k ++ [l[p + k]] := by rw [List.take_succ_eq_append_getElem hkx, drop_at hlt]
      have hv := val_snoc ((l.drop p).take k) l[p + k]
      have hvl := val_lt ((l.drop p).take k)
      rw [List.length_take, Nat.min_eq_left (by omega)] at hv hvl
      rw [← hts] at hv
      generalize l[p + k] = d at hst hone hts hv
      have HST := Lib.hid hst
      have HTS := Lib.hid hts
      have HV := Lib.hid hv
      have HVL := Lib.hid hvl
      clear hst hts hv hvl
      go_wp2_with fail
      have hn := next_ok r A c l (p + k) f 1 wr hR (by omega)
      rw [hone] at hn
      refine hn.mono ?_
      clear hn
      rintro e w3 ⟨⟨B, rfl, hB⟩, hR3, hg3⟩
      obtain ⟨g, o, rfl, hb, hcell⟩ := Bytes.flat hB (by simp)
      have c0 : w3.cell? ⟨g, o, none⟩ = some (.int .u8 (d.toNat : Int)) := hcell 0 (by simp)
      have hg4 := only_trans hg hg3
      clear hcell hB hg hg3 hR
      by_cases hk8 : k < 9
      · have hki : (k : Int) < 9 := by omega
        have hx : IntKind.u64.wrap (((val ((l.drop p).take k) : Nat) : Int) + IntKind.u64.wrap ((d.toNat : Int) % 128 * 2 ^ (7 * k))) = ((val ((l.drop p).take (k + 1)) : Nat) : Int) := by
          rw [HV.out]
          refine acc_eq _ _ _ ?_
          have h1 := HVL.out
          have h2 : 128 ^ k ≤ 128 ^ 8 := Nat.pow_le_pow_right (by decide) (by omega)
          have h3 : 128 ^ k * (d.toNat % 128) ≤ 128 ^ 8 * 127 := Nat.mul_le_mul h2 (by omega)
          omega
        have HX := Lib.hid hx
        have hs2 := HST.out
        rw [if_pos (.inl hk8)] at hs2
        have HS2 := Lib.hid hs2
        clear hx hs2
        by_cases hdl : d.toNat < 128
        · have hdi : (d.toNat : Int) < 128 := by omega
          by_cases hk0 : k = 0
          · subst hk0
            have hres := HS2.out
            rw [if_pos hdl, if_pos (.inl rfl)] at hres
            have HR := Lib.hid hres
            clear hres
            go_wp2_with fail
            refine (must_yes _).mono ?_
            rintro e w5 ⟨rfl, rfl⟩
            go_wp2_with fail
            refine (must_yes _).mono ?_
            rintro e w5 ⟨rfl, rfl⟩
            go_wp2_with fail
            go_ret
            have h5 : val ((l.drop p).take (0 + 1)) = d.toNat % 128 := by rw [HV.out]; simp [val]
            exact ⟨NumPost.some HR.out (ret_int (by rw [h5, IntKind.wrap_u64]; simp only [val]; omega)) hR3, hg4⟩
          · have hkb : ((k : Int) == 0) = false := by rw [beq_eq_false_iff_ne]; omega
            by_cases hz : 0 < d.toNat
            · have hres := HS2.out
              rw [if_pos hdl, if_pos (.inr hz)] at hres
              have HR := Lib.hid hres
              have hzb : decide (0 < d.toNat) = true := by rw [decide_eq_true_iff]; exact hz
              clear hres hz hk0
              go_wp2_with fail
              refine (must_yes _).mono ?_
              rintro e w5 ⟨rfl, rfl⟩
              go_wp2_with fail
              refine (must_yes _).mono ?_
              rintro e w5 ⟨rfl, rfl⟩
              go_wp2_with fail
              go_ret
              exact ⟨NumPost.some HR.out (by rw [HX.out]; rfl) hR3, hg4⟩
            · have hres := HS2.out
              rw [if_pos hdl, if_neg (by omega)] at hres
              have HR := Lib.hid hres
              have hzb : decide (0 < d.toNat) = false := by rw [decide_eq_false_iff_not]; exact hz
              clear hres hz hk0
              go_wp2_with fail
              refine (must_yes _).mono ?_
              rintro e w5 ⟨rfl, rfl⟩
              go_wp2_with fail
              refine (must_no _).mono ?_
              rintro e w5 ⟨rfl, rfl⟩
              go_wp2_with fail
              exact ⟨rfl, NumPost.none HR.out rfl hR3, hg4⟩
        · have hdi : ¬ (d.toNat : Int) < 128 := by omega
          go_wp2_with fail
          refine (must_yes _).mono ?_
          rintro e w5 ⟨rfl, rfl⟩
          go_wp2_with fail
          go_roundw
          case rel =>
            refine ⟨k + 1, by omega, by omega, by rw [HX.out], by go_num, hR3, hg4, ?_⟩
            rw [HTS.out]
            intro x hx
            rcases List.mem_append.1 hx with hx | hx
            · exact HD.out x hx
            · rw [List.mem_singleton] at hx
              subst hx
              omega
          case measure => simp [intOf]; omega
      · obtain rfl : k = 9 := by omega
        by_cases hd1 : d.toNat = 1
        · have hdb : ((d.toNat : Int) == 1) = true := by simp [hd1]
          have hx : IntKind.u64.wrap (((val ((l.drop p).take 9) : Nat) : Int) + IntKind.u64.wrap ((d.toNat : Int) % 128 * 2 ^ (7 * 9))) = ((val ((l.drop p).take (9 + 1)) : Nat) : Int) := by
            rw [HV.out]
            refine acc_eq _ _ _ ?_
            have h1 := HVL.out
            rw [hd1]
            omega
          have hres := HST.out
          rw [if_pos (.inr ⟨rfl, hd1⟩), if_pos (by omega), if_pos (by omega)] at hres
          have HR := Lib.hid hres
          have HX := Lib.hid hx
          clear hx hres
          have hdi : (d.toNat : Int) < 128 := by omega
          have hzb : decide (0 < d.toNat) = true := by rw [decide_eq_true_iff]; omega
          go_wp2_with fail
          refine (must_yes _).mono ?_
          rintro e w5 ⟨rfl, rfl⟩
          go_wp2_with fail
          refine (must_yes _).mono ?_
          rintro e w5 ⟨rfl, rfl⟩
          go_wp2_with fail
          go_ret
          have h6 : val ((l.drop p).take (9 + 1)) = val ((l.drop p).take 9) + 9223372036854775808 := by rw [HV.out, hd1]
          have h7 : val ((l.drop p).take 9) < 9223372036854775808 := by have := HVL.out; omega
          exact ⟨NumPost.some HR.out (ret_int (by rw [h6, IntKind.wrap_u64]; omega)) hR3, hg4⟩
        · have hdb : ((d.toNat : Int) == 1) = false := by rw [beq_eq_false_iff_ne]; omega
          have hres := HST.out
          rw [if_neg (by omega)] at hres
          have HR := Lib.hid hres
          clear hres
          go_wp2_with fail
          refine (must_no _).mono ?_
          rintro e w5 ⟨rfl, rfl⟩
          go_wp2_with fail
          exact ⟨rfl, NumPost.none HR.out rfl hR3, hg4⟩
    · obtain rfl : k = l.length - p := by omega
      have hend : num (l.drop p) 0 = none := num_end (k := l.length - p) (by rw [List.length_drop]) hk9 HD.out
      go_wp2_with fail
      refine (next_bad r A c l _ f 1 wr hR (by omega)).mono ?_
      rintro e w3 ⟨rfl, hR3, hg3⟩
      go_wp2_with fail
      exact ⟨rfl, NumPost.none hend rfl hR3, only_trans hg hg3⟩
end Go.Proofs.YtdckdjkkaangmaaDoor

/- The reader's part: what a way reads, or a fault. -/
namespace Go.Proofs.YtdckdjkkaangmaaDoor
set_option linter.unusedVariables false
set_option linter.unusedSimpArgs false
set_option maxRecDepth 100000
open Go.RowKit

theorem catch_idle (a b : Value) (w : World) :
    CallsD Tryd.prog 74 #[a, b] .returning w fun e u' w' => e = .returned (.tuple #[]) ∧ u' = .returning ∧ w = w' := by
  refine callsD_of_wpS Tryd.func74 rfl fun c₀ cs hu => ?_
  apply wpS_seq
  apply wpS_region
  simp [wpOpsS, go_sem, recoverD, hu, Tryd.ntmps74, Exit.thenS]
  apply wpS_seq
  apply wpS_region
  simp [wpOpsS, go_sem, Exit.thenS]
  refine wpS_cond (t := false) (by simp [Act.eval, Array.replicate]) ?_
  simp only [Bool.false_eq_true, if_false]
  refine wpS_of_wp (wp_skip ?_)
  cases c₀
  simp_all [bodyPostS, results, Tryd.results74]
theorem catch_gave (W B r : Nat) (p : Int) (x y : Value) (w : World) (h0 : w.cell? ⟨W, 0, none⟩ = some (.int .i64 p)) (h1 : w.cell? ⟨B, 0, none⟩ = some (.pointer (some ⟨r, 0, none⟩)))
    (c1 : w.cell? ⟨r, 1, none⟩ = some x) (c2 : w.cell? ⟨r, 2, none⟩ = some y) (f1 : w.frozen? ⟨r, 1, none⟩ = false) (f2 : w.frozen? ⟨r, 2, none⟩ = false) :
    CallsD Tryd.prog 74 #[.pointer (some ⟨W, 0, none⟩), .pointer (some ⟨B, 0, none⟩)] (.panicking gaveUp) w fun e u' w' =>
      e = .returned (.tuple #[]) ∧ u' = .panicking [{ v := .iface 141 (.agg #[]), recovered := true }] ∧ w' = (w.setCell ⟨r, 1, none⟩ (.int .i64 p)).setCell ⟨r, 2, none⟩ (.bool true) := by
  refine callsD_of_wpS Tryd.func74 rfl fun c₀ cs hu => ?_
  apply wpS_seq
  apply wpS_region
  simp [wpOpsS, go_sem, recoverD, hu, gaveUp, Tryd.ntmps74, Exit.thenS]
  apply wpS_seq
  apply wpS_region
  simp [wpOpsS, go_sem, Exit.thenS]
  refine wpS_cond (t := true) (by simp [Act.eval, Array.replicate]) ?_
  simp only [if_true]
  refine wpS_of_wp ?_
  have hta : ∀ W : World, (Instr.typeAssert (.iface 141 (.agg #[])) 20 141 false).run Tryd.prog W = .ok (.agg #[]) W := fun _ => by kernel_rfl
  simp only [Array.replicate_succ, Array.replicate_zero, List.push_toArray, List.setIfInBounds_toArray, List.append_toArray, List.set_cons_zero, List.set_cons_succ, List.nil_append, List.cons_append]
  go_wp2_with fail
  cases c₀
  simp_all [bodyPostS, results, Tryd.results74]
/-- A way that reads. -/
theorem part_good (g : Nat) (lb : Array Value) (eg : ∀ args w, (callFunc g args).run Tryd.prog w = .ok (.enter g args) w) (r : Nat) (A : Option Addr) (c : Nat) (l : List UInt8) (p : Nat) (w : World) (h : RdB w r A c l p false) (Good : World → Prop)
    (hway : ∀ W, Below w.heap.size w W → Calls Tryd.prog g lb W fun e w' => e = .returned (.tuple #[]) ∧ Good w') :
    Calls Tryd.prog 56 #[.pointer (some ⟨r, 0, none⟩), .func (.func g) #[] lb] w fun e w' => e = .returned (.tuple #[]) ∧ Good w' := by
  have hmf : ∀ (fn : Fn) (first cap : Array Value) (w : World), (Instr.makeFunc fn first cap).run Tryd.prog w = .ok (.func fn first cap) w := fun _ _ _ _ => rfl
  have hrl := h.lt
  have hc := h.below (w' := w.alloc (.cells #[.pointer (some ⟨r, 0, none⟩)] 60)) (below_new _ _)
  have c1 := Blk.cell hc.rd 1
  have c2 := Blk.cell hc.rd 2
  simp only [List.getElem?_toArray, List.getElem?_cons_succ, List.getElem?_cons_zero] at c1 c2
  go_enter_defers Tryd.func56, Tryd.ntmps56
  go_wp2_with fail
  refine (hway _ ((below_new _ _).trans ((below_new _ _).mono (by simp)))).mono ?_
  rintro e w3 ⟨rfl, hgood⟩
  go_wp2_with fail
  refine leaves_cons (f := 74) (args := #[.pointer (some ⟨w.heap.size + 1, 0, none⟩), .pointer (some ⟨w.heap.size, 0, none⟩)]) (by simp) (by simp [go_sem]) ?_
  refine (catch_idle _ _ _).mono ?_
  rintro e u' w'' ⟨rfl, rfl, rfl⟩
  simp [Leaves, settle, results, Tryd.results56, go_sem]
  exact hgood
/-- A way that gives up. -/
theorem part_bad (g : Nat) (lb : Array Value) (eg : ∀ args w, (callFunc g args).run Tryd.prog w = .ok (.enter g args) w) (r : Nat) (A : Option Addr) (c : Nat) (l : List UInt8) (p : Nat) (w : World) (h : RdB w r A c l p false) (Q : World → Prop)
    (hway : ∀ W, Below w.heap.size w W → Calls Tryd.prog g lb W fun e w' => e = .panicked gaveUp ∧ (∃ p', RdB w' r A c l p' false) ∧ (∀ k, w.heap.size ≤ k → k < W.heap.size → w'.heap[k]? = W.heap[k]?) ∧ Q w') :
    Calls Tryd.prog 56 #[.pointer (some ⟨r, 0, none⟩), .func (.func g) #[] lb] w fun e w' => e = .returned (.tuple #[]) ∧ RdB w' r A c l p true ∧ ∃ w3, Q w3 ∧ w' = (w3.setCell ⟨r, 1, none⟩ (.int .i64 (p : Int))).setCell ⟨r, 2, none⟩ (.bool true) := by
  have hmf : ∀ (fn : Fn) (first cap : Array Value) (w : World), (Instr.makeFunc fn first cap).run Tryd.prog w = .ok (.func fn first cap) w := fun _ _ _ _ => rfl
  have hrl := h.lt
  have HP := Lib.hid h.pl
  have hc := h.below (w' := w.alloc (.cells #[.pointer (some ⟨r, 0, none⟩)] 60)) (below_new _ _)
  have c1 := Blk.cell hc.rd 1
  have c2 := Blk.cell hc.rd 2
  simp only [List.getElem?_toArray, List.getElem?_cons_succ, List.getElem?_cons_zero] at c1 c2
  go_enter_defers Tryd.func56, Tryd.ntmps56
  go_wp2_with fail
  refine (hway _ ((below_new _ _).trans ((below_new _ _).mono (by simp)))).mono ?_
  rintro e w3 ⟨rfl, ⟨p', hR⟩, hk, hq⟩
  have hB := hk w.heap.size (Nat.le_refl _) (by simp; omega)
  have hW := hk (w.heap.size + 1) (by omega) (by simp)
  rw [Below.heap_alloc _ _ _ (by simp), heap_alloc_new] at hB
  have hn := heap_alloc_new (w.alloc (.cells #[.pointer (some ⟨r, 0, none⟩)] 60)) (.cells #[.int .i64 (p : Int)] 3)
  rw [alloc_size] at hn
  rw [hn] at hW
  have d0 : w3.cell? ⟨w.heap.size, 0, none⟩ = some (.pointer (some ⟨r, 0, none⟩)) := cell_of_row w3 _ 0 _ _ _ hB
  have d1 : w3.cell? ⟨w.heap.size + 1, 0, none⟩ = some (.int .i64 (p : Int)) := cell_of_row w3 _ 0 _ _ _ hW
  clear hk hB hW hn
  go_wp2_with fail
  refine leaves_cons (f := 74) (args := #[.pointer (some ⟨w.heap.size + 1, 0, none⟩), .pointer (some ⟨w.heap.size, 0, none⟩)]) (by simp) (by simp [go_sem]) ?_
  refine (catch_gave _ _ r p _ _ _ d1 d0 (Blk.cell hR.rd 1) (Blk.cell hR.rd 2) (Blk.free hR.rd 1) (Blk.free hR.rd 2)).mono ?_
  rintro e u' w'' ⟨rfl, rfl, rfl⟩
  have hg : w3.grownBy ((w3.setCell ⟨r, 1, none⟩ (.int .i64 (p : Int))).setCell ⟨r, 2, none⟩ (.bool true)) (some r) := only_set (only_set (only_refl _ _) 1 _) 2 _
  have hfin : RdB ((w3.setCell ⟨r, 1, none⟩ (.int .i64 (p : Int))).setCell ⟨r, 2, none⟩ (.bool true)) r A c l p true := hR.only hg (Blk.put (Blk.put hR.rd 1 _) 2 _) HP.out
  simp [Leaves, settle, results, Tryd.results56, go_sem]
  exact ⟨hfin, _, hq, rfl⟩
end Go.Proofs.YtdckdjkkaangmaaDoor

/- The reader's methods: U8, Uint. -/
namespace Go.Proofs.YtdckdjkkaangmaaDoor
set_option linter.unusedVariables false
set_option linter.unusedSimpArgs false
set_option maxRecDepth 100000
open Go.RowKit

/-- All that stood stands, but for the blocks r and b. -/
structure Only2 (r b : Nat) (w w' : World) : Prop where
  os : w'.os = w.os
  tape : w'.tape = w.tape
  output : w'.output = w.output
  size : w.heap.size ≤ w'.heap.size
  block : ∀ k, k < w.heap.size → k ≠ r → k ≠ b → w'.heap[k]? = w.heap[k]?
section
variable {r b : Nat} {w w' w'' : World}
theorem Only2.of (h : w.grownBy w' (some r)) : Only2 r b w w' := ⟨h.os, h.tape, h.output, h.size, fun k hk h1 _ => h.block k hk (by simpa using h1)⟩
theorem Only2.put (h : Only2 r b w w') (i : Nat) (v : Value) : Only2 r b w (w'.setCell ⟨b, i, none⟩ v) :=
  ⟨h.os, h.tape, h.output, by simpa [World.setCell] using h.size, fun k hk h1 h2 => (Below.heap_setCell w' _ v k (by simpa using h2)).trans (h.block k hk h1 h2)⟩
theorem Only2.below (h : Only2 r b w w') (hb : Below w'.heap.size w' w'') : Only2 r b w w'' :=
  ⟨hb.os.trans h.os, hb.tape.trans h.tape, hb.output.trans h.output, Nat.le_trans h.size hb.size, fun k hk h1 h2 => (hb.block k (Nat.lt_of_lt_of_le hk h.size)).trans (h.block k hk h1 h2)⟩
theorem Only2.after {B : Nat} (hb : Below B w w') (hB : w.heap.size ≤ B) (h : Only2 r b w' w'') : Only2 r b w w'' :=
  ⟨h.os.trans hb.os, h.tape.trans hb.tape, h.output.trans hb.output, Nat.le_trans hb.size h.size, fun k hk h1 h2 => (h.block k (Nat.lt_of_lt_of_le hk hb.size) h1 h2).trans (hb.block k (Nat.lt_of_lt_of_le hk hB))⟩
/-- Where the second block is new. -/
theorem Only2.grown (h : Only2 r b w w') (hb : w.heap.size ≤ b) : w.grownBy w' (some r) := ⟨h.os, h.tape, h.output, h.size, fun k hk h1 => h.block k hk (by simpa using h1) (by omega)⟩
end

/-- A reader behind a fault reads nothing. -/
theorem part_off (fv : Value) (r : Nat) (A : Option Addr) (c : Nat) (l : List UInt8) (p : Nat) (w : World) (h : RdB w r A c l p true) :
    Calls Tryd.prog 56 #[.pointer (some ⟨r, 0, none⟩), fv] w fun e w' => e = .returned (.tuple #[]) ∧ Below w.heap.size w w' := by
  have hc := h.below (w' := w.alloc (.cells #[.pointer (some ⟨r, 0, none⟩)] 60)) (below_new _ _)
  have c2 := Blk.cell hc.rd 2
  simp only [List.getElem?_toArray, List.getElem?_cons_succ, List.getElem?_cons_zero] at c2
  go_enter_defers Tryd.func56, Tryd.ntmps56
  go_wp2_with fail
  simp [bodyPostD, Leaves, results, Tryd.results56, go_sem]
  exact below_new _ _
section
variable (r a b : Nat) (A : Option Addr) (c : Nat) (l : List UInt8) (p : Nat) (f : Bool) (W : World)
theorem u8_way (h : RdB W r A c l p f) (x : Value) (ha : Blk W a 60 #[.pointer (some ⟨r, 0, none⟩)]) (hb : Blk W b 5 #[x]) (_har : a ≠ r) (hbr : b ≠ r) (hAb : ∀ ad, A = some ad → ad.block ≠ b) (hlt : p < l.length) :
    Calls Tryd.prog 57 #[.pointer (some ⟨a, 0, none⟩), .pointer (some ⟨b, 0, none⟩)] W fun e w' => e = .returned (.tuple #[]) ∧ RdB w' r A c l (p + 1) f ∧ Blk w' b 5 #[.int .u8 (l[p].toNat : Int)] ∧ Only2 r b W w' := by
  have c0 : W.cell? ⟨a, 0, none⟩ = some (.pointer (some ⟨r, 0, none⟩)) := ha.cell 0
  have hn := next_ok r A c l p f 1 W h hlt
  have hone : (l.drop p).take 1 = [l[p]] := by rw [List.drop_eq_getElem_cons hlt]; rfl
  rw [hone] at hn
  have HN := Lib.hid hn
  clear hn hone
  generalize l[p] = d at HN
  go_enter Tryd.func57, Tryd.ntmps57
  go_wp2_with fail
  refine HN.out.mono ?_
  rintro e w3 ⟨⟨B, rfl, hB⟩, hR3, hg3⟩
  obtain ⟨g, o, rfl, hgl, hcell⟩ := Bytes.flat hB (by simp)
  have d0 : w3.cell? ⟨g, o, none⟩ = some (.int .u8 (d.toNat : Int)) := hcell 0 (by simp)
  have hb3 : Blk w3 b 5 #[x] := hb.grown hg3 (by simpa using hbr)
  have b0 : w3.cell? ⟨b, 0, none⟩ = some x := hb3.cell 0
  have bf : w3.frozen? ⟨b, 0, none⟩ = false := hb3.free 0
  clear hcell hB
  go_wp2_with fail
  go_end0
  exact ⟨rfl, hR3.far hbr hAb 0 _, hb3.put0 _, (Only2.of hg3).put 0 _⟩
theorem u8_stop (h : RdB W r A c l p f) (ha : Blk W a 60 #[.pointer (some ⟨r, 0, none⟩)]) (_har : a ≠ r) (hlt : l.length = p) :
    Calls Tryd.prog 57 #[.pointer (some ⟨a, 0, none⟩), .pointer (some ⟨b, 0, none⟩)] W fun e w' => e = .panicked gaveUp ∧ RdB w' r A c l p f ∧ W.grownBy w' (some r) := by
  have c0 : W.cell? ⟨a, 0, none⟩ = some (.pointer (some ⟨r, 0, none⟩)) := ha.cell 0
  have HN := Lib.hid (next_bad r A c l p f 1 W h (by omega))
  go_enter Tryd.func57, Tryd.ntmps57
  go_wp2_with fail
  refine HN.out.mono ?_
  rintro e w3 ⟨rfl, hR3, hg3⟩
  go_wp2_with fail
  exact ⟨rfl, rfl, hR3, hg3⟩
end
theorem only_far {a w : World} {row : Option Nat} {b : Nat} (h : a.grownBy w row) (hb : a.heap.size ≤ b) (i : Nat) (u : Value) : a.grownBy (w.setCell ⟨b, i, none⟩ u) row :=
  ⟨h.os, h.tape, h.output, by simpa [World.setCell] using h.size, fun k hk hne => (Below.heap_setCell w _ u k (by simp; omega)).trans (h.block k hk hne)⟩
theorem only_below {a w w' : World} {row : Option Nat} {B : Nat} (h : Below B a w) (hB : a.heap.size ≤ B) (k : w.grownBy w' row) : a.grownBy w' row :=
  ⟨k.os.trans h.os, k.tape.trans h.tape, k.output.trans h.output, Nat.le_trans h.size k.size, fun i hi hn => (k.block i (Nat.lt_of_lt_of_le hi h.size) hn).trans (h.block i (Nat.lt_of_lt_of_le hi hB))⟩
/-- The two new blocks of a reading: the reader's address, what is answered. -/
theorem two_new (w : World) (t1 t2 : TypeId) (v1 v2 : Value) : Blk ((w.alloc (.cells #[v1] t1)).alloc (.cells #[v2] t2)) w.heap.size t1 #[v1] ∧ Blk ((w.alloc (.cells #[v1] t1)).alloc (.cells #[v2] t2)) (w.heap.size + 1) t2 #[v2] ∧ Below w.heap.size w ((w.alloc (.cells #[v1] t1)).alloc (.cells #[v2] t2)) := by
  refine ⟨(Blk.new _ _ _).alloc _, ?_, (below_new _ _).alloc (by simp) _⟩
  have := Blk.new (w.alloc (.cells #[v1] t1)) t2 #[v2]
  rw [alloc_size] at this
  exact this

set_option maxHeartbeats 400000 in
theorem u8_ok (r : Nat) (A : Option Addr) (c : Nat) (l : List UInt8) (p : Nat) (w : World) (h : RdB w r A c l p false) (hlt : p < l.length) :
    Calls Tryd.prog 21 #[.pointer (some ⟨r, 0, none⟩)] w fun e w' => e = .returned (.int .u8 (l[p].toNat : Int)) ∧ RdB w' r A c l (p + 1) false ∧ w.grownBy w' (some r) := by
  have hmf : ∀ (fn : Fn) (first cap : Array Value) (w : World), (Instr.makeFunc fn first cap).run Tryd.prog w = .ok (.func fn first cap) w := fun _ _ _ _ => rfl
  obtain ⟨ha, hb, hbel⟩ := two_new w 60 5 (.pointer (some ⟨r, 0, none⟩)) (.int .u8 0)
  have HG := Lib.hid (part_good 57 #[.pointer (some ⟨w.heap.size, 0, none⟩), .pointer (some ⟨w.heap.size + 1, 0, none⟩)] (fun _ _ => rfl) r A c l p _ (h.below hbel)
    (fun w' => RdB w' r A c l (p + 1) false ∧ Blk w' (w.heap.size + 1) 5 #[.int .u8 (l[p].toNat : Int)] ∧ w.grownBy w' (some r)) fun W hW => by
      have hs : w.heap.size + 1 + 1 = ((w.alloc (.cells #[.pointer (some ⟨r, 0, none⟩)] 60)).alloc (.cells #[.int .u8 0] 5)).heap.size := by simp
      refine (u8_way r w.heap.size (w.heap.size + 1) A c l p false W ((h.below hbel).below hW) _ (ha.below hW (by omega)) (hb.below hW (by omega)) (by have := h.lt; omega) (by have := h.lt; omega) (fun ad e => by have := h.al ad e; omega) hlt).mono ?_
      rintro e w' ⟨rfl, h1, h2, h3⟩
      exact ⟨rfl, h1, h2, (h3.after (hbel.trans (hW.mono (by omega))) (Nat.le_refl _)).grown (by omega)⟩)
  have HL := Lib.hid h.lt
  have HA := Lib.hid h.al
  clear ha hb hbel
  go_enter Tryd.func21, Tryd.ntmps21
  go_wp2_with fail
  refine HG.out.mono ?_
  rintro e w3 ⟨rfl, hR, hb3, hg⟩
  have b0 := hb3.cell 0
  have bf := hb3.free 0
  simp only [List.getElem?_toArray, List.getElem?_cons_zero] at b0
  go_wp2_with fail
  have hb4 := (hb3.put0 (.int .u8 (l[p].toNat : Int))).cell 0
  simp only [List.getElem?_toArray, List.getElem?_cons_zero] at hb4
  have h1 := HL.out
  refine bodyPost_ret (v := .int .u8 (l[p].toNat : Int)) (by simp [results, Tryd.results21, go_sem, hb4]) rfl ?_
  exact ⟨rfl, hR.far (by omega) (fun ad e => by have := HA.out ad e; omega) 0 _, only_far hg (by omega) 0 _⟩

set_option maxHeartbeats 400000 in
theorem u8_bad (r : Nat) (A : Option Addr) (c : Nat) (l : List UInt8) (p : Nat) (w : World) (h : RdB w r A c l p false) (hlt : l.length = p) :
    Calls Tryd.prog 21 #[.pointer (some ⟨r, 0, none⟩)] w fun e w' => e = .returned (.int .u8 0) ∧ RdB w' r A c l p true ∧ w.grownBy w' (some r) := by
  have hmf : ∀ (fn : Fn) (first cap : Array Value) (w : World), (Instr.makeFunc fn first cap).run Tryd.prog w = .ok (.func fn first cap) w := fun _ _ _ _ => rfl
  obtain ⟨ha, hb, hbel⟩ := two_new w 60 5 (.pointer (some ⟨r, 0, none⟩)) (.int .u8 0)
  have HG := Lib.hid (part_bad 57 #[.pointer (some ⟨w.heap.size, 0, none⟩), .pointer (some ⟨w.heap.size + 1, 0, none⟩)] (fun _ _ => rfl) r A c l p _ (h.below hbel)
    (fun w' => Blk w' (w.heap.size + 1) 5 #[.int .u8 0] ∧ w.grownBy w' (some r)) fun W hW => by
      have hs : w.heap.size + 1 + 1 = ((w.alloc (.cells #[.pointer (some ⟨r, 0, none⟩)] 60)).alloc (.cells #[.int .u8 0] 5)).heap.size := by simp
      have hrl := h.lt
      refine (u8_stop r w.heap.size (w.heap.size + 1) A c l p false W ((h.below hbel).below hW) (ha.below hW (by omega)) (by omega) hlt).mono ?_
      rintro e w' ⟨rfl, h1, h2⟩
      exact ⟨rfl, ⟨_, h1⟩, fun k hk hkW => h2.block k hkW (by simp; omega), (hb.below hW (by omega)).grown h2 (by simp; omega), only_below (hbel.trans (hW.mono (by omega))) (Nat.le_refl _) h2⟩)
  have HL := Lib.hid h.lt
  have HA := Lib.hid h.al
  clear ha hb hbel
  go_enter Tryd.func21, Tryd.ntmps21
  go_wp2_with fail
  refine HG.out.mono ?_
  rintro e w3 ⟨rfl, hR, w2, ⟨hb2, hg2⟩, hw3⟩
  have h1 := HL.out
  have hb3 : Blk w3 (w.heap.size + 1) 5 #[.int .u8 0] := by rw [hw3]; exact (hb2.far (by simp; omega) _).far (by simp; omega) _
  have hg : w.grownBy w3 (some r) := by rw [hw3]; exact only_set (only_set hg2 1 _) 2 _
  have b0 := hb3.cell 0
  have bf := hb3.free 0
  simp only [List.getElem?_toArray, List.getElem?_cons_zero] at b0
  clear hw3 hb2 hg2 h1
  go_wp2_with fail
  have hb4 := (hb3.put0 (.int .u8 0)).cell 0
  simp only [List.getElem?_toArray, List.getElem?_cons_zero] at hb4
  have h1 := HL.out
  refine bodyPost_ret (v := .int .u8 0) (by simp [results, Tryd.results21, go_sem, hb4]) rfl ?_
  exact ⟨rfl, hR.far (by omega) (fun ad e => by have := HA.out ad e; omega) 0 _, only_far hg (by omega) 0 _⟩
end Go.Proofs.YtdckdjkkaangmaaDoor

/- The reader's methods: Uint. (Printed by codeg.py.) -/
namespace Go.Proofs.YtdckdjkkaangmaaDoor
set_option linter.unusedVariables false
set_option linter.unusedSimpArgs false
set_option maxRecDepth 100000
open Go.RowKit

section
variable (r a b : Nat) (A : Option Addr) (c : Nat) (l : List UInt8) (p : Nat) (f : Bool) (W : World)
theorem number_some (h : RdB W r A c l p f) {y k : Nat} (hn : num (l.drop p) 0 = some (y, k)) : Calls Tryd.prog 113 #[.pointer (some ⟨r, 0, none⟩)] W fun e w' => e = .returned (.int .u64 (y : Int)) ∧ RdB w' r A c l (p + k) f ∧ W.grownBy w' (some r) :=
  (number_any r A c l p f W h).mono fun e w' ⟨h1, h2⟩ => by
    unfold NumPost at h1
    rw [hn] at h1
    exact ⟨h1.1, h1.2, h2⟩
theorem number_none (h : RdB W r A c l p f) (hn : num (l.drop p) 0 = none) : Calls Tryd.prog 113 #[.pointer (some ⟨r, 0, none⟩)] W fun e w' => e = .panicked gaveUp ∧ (∃ p', RdB w' r A c l p' f) ∧ W.grownBy w' (some r) :=
  (number_any r A c l p f W h).mono fun e w' ⟨h1, h2⟩ => by
    unfold NumPost at h1
    rw [hn] at h1
    exact ⟨h1.1, h1.2, h2⟩
theorem uint_way (h : RdB W r A c l p f) (x : Value) (ha : Blk W a 60 #[.pointer (some ⟨r, 0, none⟩)]) (hb : Blk W b 24 #[x]) (_har : a ≠ r) (hbr : b ≠ r) (hAb : ∀ ad, A = some ad → ad.block ≠ b) {y k : Nat} (hlt : num (l.drop p) 0 = some (y, k)) :
    Calls Tryd.prog 112 #[.pointer (some ⟨a, 0, none⟩), .pointer (some ⟨b, 0, none⟩)] W fun e w' => e = .returned (.tuple #[]) ∧ RdB w' r A c l (p + k) f ∧ Blk w' b 24 #[.int .u64 (y : Int)] ∧ Only2 r b W w' := by
  have c0 : W.cell? ⟨a, 0, none⟩ = some (.pointer (some ⟨r, 0, none⟩)) := ha.cell 0
  have HN := Lib.hid (number_some r A c l p f W h hlt)
  go_enter Tryd.func112, Tryd.ntmps112
  go_wp2_with fail
  refine HN.out.mono ?_
  rintro e w3 ⟨rfl, hR3, hg3⟩
  have hb3 : Blk w3 b 24 #[x] := hb.grown hg3 (by simpa using hbr)
  have b0 : w3.cell? ⟨b, 0, none⟩ = some x := hb3.cell 0
  have bf : w3.frozen? ⟨b, 0, none⟩ = false := hb3.free 0
  go_wp2_with fail
  go_end0
  exact ⟨rfl, hR3.far hbr hAb 0 _, hb3.put0 _, (Only2.of hg3).put 0 _⟩
theorem uint_stop (h : RdB W r A c l p f) (ha : Blk W a 60 #[.pointer (some ⟨r, 0, none⟩)]) (_har : a ≠ r) (hlt : num (l.drop p) 0 = none) :
    Calls Tryd.prog 112 #[.pointer (some ⟨a, 0, none⟩), .pointer (some ⟨b, 0, none⟩)] W fun e w' => e = .panicked gaveUp ∧ (∃ p', RdB w' r A c l p' f) ∧ W.grownBy w' (some r) := by
  have c0 : W.cell? ⟨a, 0, none⟩ = some (.pointer (some ⟨r, 0, none⟩)) := ha.cell 0
  have HN := Lib.hid (number_none r A c l p f W h hlt)
  go_enter Tryd.func112, Tryd.ntmps112
  go_wp2_with fail
  refine HN.out.mono ?_
  rintro e w3 ⟨rfl, hR3, hg3⟩
  go_wp2_with fail
  exact ⟨rfl, rfl, hR3, hg3⟩
end

set_option maxHeartbeats 400000 in
theorem uint_ok (r : Nat) (A : Option Addr) (c : Nat) (l : List UInt8) (p : Nat) (w : World) (h : RdB w r A c l p false) {y k : Nat} (hlt : num (l.drop p) 0 = some (y, k)) :
    Calls Tryd.prog 110 #[.pointer (some ⟨r, 0, none⟩)] w fun e w' => e = .returned (.int .u64 (y : Int)) ∧ RdB w' r A c l (p + k) false ∧ w.grownBy w' (some r) := by
  have hmf : ∀ (fn : Fn) (first cap : Array Value) (w : World), (Instr.makeFunc fn first cap).run Tryd.prog w = .ok (.func fn first cap) w := fun _ _ _ _ => rfl
  obtain ⟨ha, hb, hbel⟩ := two_new w 60 24 (.pointer (some ⟨r, 0, none⟩)) (.int .u64 0)
  have HG := Lib.hid (part_good 112 #[.pointer (some ⟨w.heap.size, 0, none⟩), .pointer (some ⟨w.heap.size + 1, 0, none⟩)] (fun _ _ => rfl) r A c l p _ (h.below hbel)
    (fun w' => RdB w' r A c l (p + k) false ∧ Blk w' (w.heap.size + 1) 24 #[.int .u64 (y : Int)] ∧ w.grownBy w' (some r)) fun W hW => by
      have hs : w.heap.size + 1 + 1 = ((w.alloc (.cells #[.pointer (some ⟨r, 0, none⟩)] 60)).alloc (.cells #[.int .u64 0] 24)).heap.size := by simp
      refine (uint_way r w.heap.size (w.heap.size + 1) A c l p false W ((h.below hbel).below hW) _ (ha.below hW (by omega)) (hb.below hW (by omega)) (by have := h.lt; omega) (by have := h.lt; omega) (fun ad e => by have := h.al ad e; omega) hlt).mono ?_
      rintro e w' ⟨rfl, h1, h2, h3⟩
      exact ⟨rfl, h1, h2, (h3.after (hbel.trans (hW.mono (by omega))) (Nat.le_refl _)).grown (by omega)⟩)
  have HL := Lib.hid h.lt
  have HA := Lib.hid h.al
  clear ha hb hbel
  go_enter Tryd.func110, Tryd.ntmps110
  go_wp2_with fail
  refine HG.out.mono ?_
  rintro e w3 ⟨rfl, hR, hb3, hg⟩
  have b0 := hb3.cell 0
  have bf := hb3.free 0
  simp only [List.getElem?_toArray, List.getElem?_cons_zero] at b0
  go_wp2_with fail
  have hb4 := (hb3.put0 (.int .u64 (y : Int))).cell 0
  simp only [List.getElem?_toArray, List.getElem?_cons_zero] at hb4
  have h1 := HL.out
  refine bodyPost_ret (v := .int .u64 (y : Int)) (by simp [results, Tryd.results110, go_sem, hb4]) rfl ?_
  exact ⟨rfl, hR.far (by omega) (fun ad e => by have := HA.out ad e; omega) 0 _, only_far hg (by omega) 0 _⟩

set_option maxHeartbeats 400000 in
theorem uint_bad (r : Nat) (A : Option Addr) (c : Nat) (l : List UInt8) (p : Nat) (w : World) (h : RdB w r A c l p false) (hlt : num (l.drop p) 0 = none) :
    Calls Tryd.prog 110 #[.pointer (some ⟨r, 0, none⟩)] w fun e w' => e = .returned (.int .u64 0) ∧ RdB w' r A c l p true ∧ w.grownBy w' (some r) := by
  have hmf : ∀ (fn : Fn) (first cap : Array Value) (w : World), (Instr.makeFunc fn first cap).run Tryd.prog w = .ok (.func fn first cap) w := fun _ _ _ _ => rfl
  obtain ⟨ha, hb, hbel⟩ := two_new w 60 24 (.pointer (some ⟨r, 0, none⟩)) (.int .u64 0)
  have HG := Lib.hid (part_bad 112 #[.pointer (some ⟨w.heap.size, 0, none⟩), .pointer (some ⟨w.heap.size + 1, 0, none⟩)] (fun _ _ => rfl) r A c l p _ (h.below hbel)
    (fun w' => Blk w' (w.heap.size + 1) 24 #[.int .u64 0] ∧ w.grownBy w' (some r)) fun W hW => by
      have hs : w.heap.size + 1 + 1 = ((w.alloc (.cells #[.pointer (some ⟨r, 0, none⟩)] 60)).alloc (.cells #[.int .u64 0] 24)).heap.size := by simp
      have hrl := h.lt
      refine (uint_stop r w.heap.size (w.heap.size + 1) A c l p false W ((h.below hbel).below hW) (ha.below hW (by omega)) (by omega) hlt).mono ?_
      rintro e w' ⟨rfl, h1, h2⟩
      exact ⟨rfl, h1, fun k hk hkW => h2.block k hkW (by simp; omega), (hb.below hW (by omega)).grown h2 (by simp; omega), only_below (hbel.trans (hW.mono (by omega))) (Nat.le_refl _) h2⟩)
  have HL := Lib.hid h.lt
  have HA := Lib.hid h.al
  clear ha hb hbel
  go_enter Tryd.func110, Tryd.ntmps110
  go_wp2_with fail
  refine HG.out.mono ?_
  rintro e w3 ⟨rfl, hR, w2, ⟨hb2, hg2⟩, hw3⟩
  have h1 := HL.out
  have hb3 : Blk w3 (w.heap.size + 1) 24 #[.int .u64 0] := by rw [hw3]; exact (hb2.far (by simp; omega) _).far (by simp; omega) _
  have hg : w.grownBy w3 (some r) := by rw [hw3]; exact only_set (only_set hg2 1 _) 2 _
  have b0 := hb3.cell 0
  have bf := hb3.free 0
  simp only [List.getElem?_toArray, List.getElem?_cons_zero] at b0
  clear hw3 hb2 hg2 h1
  go_wp2_with fail
  have hb4 := (hb3.put0 (.int .u64 0)).cell 0
  simp only [List.getElem?_toArray, List.getElem?_cons_zero] at hb4
  have h1 := HL.out
  refine bodyPost_ret (v := .int .u64 0) (by simp [results, Tryd.results110, go_sem, hb4]) rfl ?_
  exact ⟨rfl, hR.far (by omega) (fun ad e => by have := HA.out ad e; omega) 0 _, only_far hg (by omega) 0 _⟩
end Go.Proofs.YtdckdjkkaangmaaDoor

/- bytes.Clone; a new reader; what is left, whether there was a fault. -/
namespace Go.Proofs.YtdckdjkkaangmaaDoor
set_option linter.unusedVariables false
set_option linter.unusedSimpArgs false
set_option maxRecDepth 100000
open Go.RowKit

section
variable (r : Nat) (A : Option Addr) (c : Nat) (l : List UInt8) (p : Nat) (f : Bool) (w : World)
theorem err_any (h : RdB w r A c l p f) : Calls Tryd.prog 63 #[.pointer (some ⟨r, 0, none⟩)] w fun e w' => e = .returned (.int .i64 (if f then 2 else 0)) ∧ w = w' := by
  have c2 : w.cell? ⟨r, 2, none⟩ = some (.bool f) := h.rd.cell 2
  clear h
  cases f
  all_goals
    go_enter Tryd.func63, Tryd.ntmps63
    go_wp2_with fail
    go_ret
    exact ⟨rfl, rfl⟩
theorem left_any (h : RdB w r A c l p f) : Calls Tryd.prog 61 #[.pointer (some ⟨r, 0, none⟩)] w fun e w' => e = .returned (.int .i64 ((l.length - p : Nat) : Int)) ∧ ∃ q, w' = w.drewN q := by
  have c0 : w.cell? ⟨r, 0, none⟩ = some (.slice A l.length c) := h.rd.cell 0
  have c1 : w.cell? ⟨r, 1, none⟩ = some (.int .i64 (p : Int)) := h.rd.cell 1
  have hpl := h.pl
  have hlc := h.lc
  have hcc := h.cc
  have hw1 : IntKind.i64.wrap ((l.length : Int) - (p : Int)) = (l.length : Int) - (p : Int) := IntWalk.i64_in _ (by omega)
  clear h
  go_enter Tryd.func61, Tryd.ntmps61
  go_wp2_with fail
  refine PF.pf_begin (by kernel_rfl) ?_
  refine PF.pf_take0 0 (by kernel_rfl) rfl (fun _ _ _ _ _ h => h) (by kernel_rfl) (fun u => by go_simp; try rfl) ?_
  try simp only [Act.put, pz0, pz1, pz2]
  refine PF.pf_take0 1 (by kernel_rfl) rfl (fun _ _ _ _ _ h => h) (by kernel_rfl) (fun u => by go_simp; try rfl) ?_
  try simp only [Act.put, pz0, pz1, pz2]
  refine PF.pf_take0 2 (by kernel_rfl) rfl (fun _ _ _ _ _ h => h) (by kernel_rfl) (fun u => by go_simp; try rfl) ?_
  try simp only [Act.put, pz0, pz1, pz2]
  refine PF.pf_take1 3 (PF.Same (r) _) (by kernel_rfl) rfl (fun _ _ _ _ _ h => h) (by kernel_rfl) (PF.Same.refl _ _) (fun u hu => by have hcu := hu.cell; go_simp; try rfl) ?_
  try simp only [Act.put, pz0, pz1, pz2]
  refine PF.pf_take0 4 (by kernel_rfl) rfl (fun _ _ _ _ _ h => h) (by kernel_rfl) (fun u => by go_simp; try rfl) ?_
  try simp only [Act.put, pz0, pz1, pz2]
  refine PF.pf_take0 5 (by kernel_rfl) rfl (fun _ _ _ _ _ h => h) (by kernel_rfl) (fun u => by go_simp; try rfl) ?_
  try simp only [Act.put, pz0, pz1, pz2]
  refine PF.pf_take0 6 (by kernel_rfl) rfl (fun _ _ _ _ _ h => h) (by kernel_rfl) (fun u => by go_simp; try rfl) ?_
  try simp only [Act.put, pz0, pz1, pz2]
  refine PF.pf_take0 7 (by kernel_rfl) rfl (fun _ _ _ _ _ h => h) (by kernel_rfl) (fun u => by go_simp; try rfl) ?_
  try simp only [Act.put, pz0, pz1, pz2]
  refine PF.pf_take1 8 (PF.Same (r) _) (by kernel_rfl) rfl (fun _ _ _ _ _ h => h) (by kernel_rfl) (PF.Same.refl _ _) (fun u hu => by have hcu := hu.cell; go_simp; try rfl) ?_
  try simp only [Act.put, pz0, pz1, pz2]
  refine PF.pf_take0 9 (by kernel_rfl) rfl (fun _ _ _ _ _ h => h) (by kernel_rfl) (fun u => by go_simp; try rfl) ?_
  try simp only [Act.put, pz0, pz1, pz2]
  refine PF.pf_take0 10 (by kernel_rfl) rfl (fun _ _ _ _ _ h => h) (by kernel_rfl) (fun u => by go_simp; try rfl) ?_
  try simp only [Act.put, pz0, pz1, pz2]
  refine PF.pf_done (by kernel_rfl) ?_
  go_wp2_with fail
  go_ret
  exact ⟨ret_int (by omega), 1, rfl⟩
end
end Go.Proofs.YtdckdjkkaangmaaDoor

/- The reader's Fail, End, Raw. -/
namespace Go.Proofs.YtdckdjkkaangmaaDoor
set_option linter.unusedVariables false
set_option linter.unusedSimpArgs false
set_option maxRecDepth 100000
open Go.RowKit

section
variable (r : Nat) (A : Option Addr) (c : Nat) (l : List UInt8) (p : Nat) (f : Bool) (w : World)
theorem fail_any (h : RdB w r A c l p f) : Calls Tryd.prog 62 #[.pointer (some ⟨r, 0, none⟩)] w fun e w' => e = .returned (.tuple #[]) ∧ RdB w' r A c l p true ∧ w.grownBy w' (some r) := by
  have c2 : w.cell? ⟨r, 2, none⟩ = some (.bool f) := h.rd.cell 2
  have f2 : w.frozen? ⟨r, 2, none⟩ = false := h.rd.free 2
  have H := Lib.hid h
  clear h
  go_enter Tryd.func62, Tryd.ntmps62
  go_wp2_with fail
  go_end0
  have hg : w.grownBy (w.setCell ⟨r, 2, none⟩ (.bool true)) (some r) := only_set (only_refl _ _) 2 _
  exact ⟨rfl, H.out.only hg (Blk.put H.out.rd 2 _) H.out.pl, hg⟩
theorem end_any (h : RdB w r A c l p f) : Calls Tryd.prog 23 #[.pointer (some ⟨r, 0, none⟩)] w fun e w' => e = .returned (.int .i64 (if f || decide (p < l.length) then 2 else 0)) ∧ RdB w' r A c l p (f || decide (p < l.length)) ∧ w.grownBy w' (some r) := by
  have H := Lib.hid h
  have HL := Lib.hid (left_any r A c l p f w h)
  clear h
  by_cases hp : p < l.length
  · have hd : decide (0 < l.length - p) = true := by rw [decide_eq_true_iff]; omega
    have hi : (0 : Int) < ((l.length - p : Nat) : Int) := by omega
    rw [decide_eq_true hp, Bool.or_true]
    clear hp
    go_enter Tryd.func23, Tryd.ntmps23
    go_wp2_with fail
    refine HL.out.mono ?_
    rintro e w1 ⟨rfl, q, rfl⟩
    have hg1 : w.grownBy (w.drewN q) (some r) := only_drewN (only_refl _ _) q
    have h1 := H.out.only hg1 (Blk.drewN H.out.rd q) H.out.pl
    go_wp2_with fail
    refine (fail_any r A c l p f _ h1).mono ?_
    rintro e w2 ⟨rfl, h2, hg2⟩
    go_wp2_with fail
    refine (err_any r A c l p true _ h2).mono ?_
    rintro e w3 ⟨rfl, rfl⟩
    go_wp2_with fail
    go_ret
    exact ⟨rfl, h2, only_trans hg1 hg2⟩
  · have hd : decide (0 < l.length - p) = false := by rw [decide_eq_false_iff_not]; omega
    have hi : ¬ (0 : Int) < ((l.length - p : Nat) : Int) := by omega
    rw [decide_eq_false hp, Bool.or_false]
    clear hp
    cases f
    all_goals
      go_enter Tryd.func23, Tryd.ntmps23
      go_wp2_with fail
      refine HL.out.mono ?_
      rintro e w1 ⟨rfl, q, rfl⟩
      have hg1 : w.grownBy (w.drewN q) (some r) := only_drewN (only_refl _ _) q
      have h1 := H.out.only hg1 (Blk.drewN H.out.rd q) H.out.pl
      go_wp2_with fail
      refine (err_any r A c l p _ _ h1).mono ?_
      rintro e w3 ⟨rfl, rfl⟩
      go_wp2_with fail
      go_ret
      exact ⟨rfl, h1, hg1⟩
end
end Go.Proofs.YtdckdjkkaangmaaDoor

/- The reader's U32. -/
namespace Go.Proofs.YtdckdjkkaangmaaDoor
set_option linter.unusedVariables false
set_option linter.unusedSimpArgs false
set_option maxRecDepth 100000
open Go.RowKit

section
variable (r a b : Nat) (A : Option Addr) (c : Nat) (l : List UInt8) (p : Nat) (f : Bool) (W : World)
end
end Go.Proofs.YtdckdjkkaangmaaDoor

/- The reader's methods: U32. (Printed by codeg2.py.) -/
namespace Go.Proofs.YtdckdjkkaangmaaDoor
set_option linter.unusedVariables false
set_option linter.unusedSimpArgs false
set_option maxRecDepth 100000
open Go.RowKit

end Go.Proofs.YtdckdjkkaangmaaDoor

/- The reader's Raw: the ways. -/
namespace Go.Proofs.YtdckdjkkaangmaaDoor
set_option linter.unusedVariables false
set_option linter.unusedSimpArgs false
set_option maxRecDepth 100000
open Go.RowKit

end Go.Proofs.YtdckdjkkaangmaaDoor

/- The reader's U8, U32, Uint behind a fault, and of no reader. (Printed by codeg3.py.) -/
namespace Go.Proofs.YtdckdjkkaangmaaDoor
set_option linter.unusedVariables false
set_option linter.unusedSimpArgs false
set_option maxRecDepth 100000
open Go.RowKit

theorem u8_off (r : Nat) (A : Option Addr) (c : Nat) (l : List UInt8) (p : Nat) (w : World) (h : RdB w r A c l p true) :
    Calls Tryd.prog 21 #[.pointer (some ⟨r, 0, none⟩)] w fun e w' => e = .returned (.int .u8 0) ∧ Below w.heap.size w w' := by
  have hmf : ∀ (fn : Fn) (first cap : Array Value) (w : World), (Instr.makeFunc fn first cap).run Tryd.prog w = .ok (.func fn first cap) w := fun _ _ _ _ => rfl
  obtain ⟨_, hb, hbel⟩ := two_new w 60 5 (.pointer (some ⟨r, 0, none⟩)) (.int .u8 0)
  have HG := Lib.hid (fun fv => part_off fv r A c l p _ (h.below hbel))
  go_enter Tryd.func21, Tryd.ntmps21
  go_wp2_with fail
  refine (HG.out _).mono ?_
  rintro e w3 ⟨rfl, hb3⟩
  have hb4 := hb.below hb3 (by simp)
  have b0 := hb4.cell 0
  have bf := hb4.free 0
  simp only [List.getElem?_toArray, List.getElem?_cons_zero] at b0
  have hB := Lib.hid (hbel.trans (hb3.mono (by simp; omega)))
  go_wp2_with fail
  have hb5 := (hb4.put0 (.int .u8 0)).cell 0
  simp only [List.getElem?_toArray, List.getElem?_cons_zero] at hb5
  refine bodyPost_ret (v := .int .u8 0) (by simp [results, Tryd.results21, go_sem, hb5]) rfl ?_
  exact ⟨rfl, hB.out.setCell (p := ⟨w.heap.size + 1, 0, none⟩) (by simp) _⟩

theorem uint_off (r : Nat) (A : Option Addr) (c : Nat) (l : List UInt8) (p : Nat) (w : World) (h : RdB w r A c l p true) :
    Calls Tryd.prog 110 #[.pointer (some ⟨r, 0, none⟩)] w fun e w' => e = .returned (.int .u64 0) ∧ Below w.heap.size w w' := by
  have hmf : ∀ (fn : Fn) (first cap : Array Value) (w : World), (Instr.makeFunc fn first cap).run Tryd.prog w = .ok (.func fn first cap) w := fun _ _ _ _ => rfl
  obtain ⟨_, hb, hbel⟩ := two_new w 60 24 (.pointer (some ⟨r, 0, none⟩)) (.int .u64 0)
  have HG := Lib.hid (fun fv => part_off fv r A c l p _ (h.below hbel))
  go_enter Tryd.func110, Tryd.ntmps110
  go_wp2_with fail
  refine (HG.out _).mono ?_
  rintro e w3 ⟨rfl, hb3⟩
  have hb4 := hb.below hb3 (by simp)
  have b0 := hb4.cell 0
  have bf := hb4.free 0
  simp only [List.getElem?_toArray, List.getElem?_cons_zero] at b0
  have hB := Lib.hid (hbel.trans (hb3.mono (by simp; omega)))
  go_wp2_with fail
  have hb5 := (hb4.put0 (.int .u64 0)).cell 0
  simp only [List.getElem?_toArray, List.getElem?_cons_zero] at hb5
  refine bodyPost_ret (v := .int .u64 0) (by simp [results, Tryd.results110, go_sem, hb5]) rfl ?_
  exact ⟨rfl, hB.out.setCell (p := ⟨w.heap.size + 1, 0, none⟩) (by simp) _⟩

end Go.Proofs.YtdckdjkkaangmaaDoor

/- The reader's Raw. -/
namespace Go.Proofs.YtdckdjkkaangmaaDoor
set_option linter.unusedVariables false
set_option linter.unusedSimpArgs false
set_option maxRecDepth 100000
open Go.RowKit

theorem three_new (w : World) (t1 t2 t3 : TypeId) (v1 v2 v3 : Value) : Blk (((w.alloc (.cells #[v1] t1)).alloc (.cells #[v2] t2)).alloc (.cells #[v3] t3)) w.heap.size t1 #[v1] ∧ Blk (((w.alloc (.cells #[v1] t1)).alloc (.cells #[v2] t2)).alloc (.cells #[v3] t3)) (w.heap.size + 1) t2 #[v2] ∧
    Blk (((w.alloc (.cells #[v1] t1)).alloc (.cells #[v2] t2)).alloc (.cells #[v3] t3)) (w.heap.size + 1 + 1) t3 #[v3] ∧ Below w.heap.size w (((w.alloc (.cells #[v1] t1)).alloc (.cells #[v2] t2)).alloc (.cells #[v3] t3)) := by
  obtain ⟨h1, h2, h3⟩ := two_new w t1 t2 v1 v2
  refine ⟨h1.alloc _, h2.alloc _, ?_, h3.alloc (by simp; omega) _⟩
  have := Blk.new ((w.alloc (.cells #[v1] t1)).alloc (.cells #[v2] t2)) t3 #[v3]
  rw [alloc_size, alloc_size] at this
  exact this

end Go.Proofs.YtdckdjkkaangmaaDoor

/- The reader's Raw behind a fault, and of no reader; Text. (Printed by codep.py.) -/
namespace Go.Proofs.YtdckdjkkaangmaaDoor
set_option linter.unusedVariables false
set_option linter.unusedSimpArgs false
set_option maxRecDepth 100000
open Go.RowKit

set_option maxHeartbeats 400000 in
theorem text_off (r : Nat) (A : Option Addr) (c : Nat) (l : List UInt8) (p : Nat) (m : Int) (w : World) (h : RdB w r A c l p true) :
    Calls Tryd.prog 111 #[.pointer (some ⟨r, 0, none⟩), .int .i64 m] w fun e w' => e = .returned (.string ⟨#[]⟩) ∧ Below w.heap.size w w' := by
  have hmf : ∀ (fn : Fn) (first cap : Array Value) (w : World), (Instr.makeFunc fn first cap).run Tryd.prog w = .ok (.func fn first cap) w := fun _ _ _ _ => rfl
  obtain ⟨_, _, hb, hbel⟩ := three_new w 60 3 9 (.pointer (some ⟨r, 0, none⟩)) (.int .i64 m) (.string ⟨#[]⟩)
  have HG := Lib.hid (fun fv => part_off fv r A c l p _ (h.below hbel))
  go_enter Tryd.func111, Tryd.ntmps111
  go_wp2_with fail
  refine (HG.out _).mono ?_
  rintro e w3 ⟨rfl, hb3⟩
  have hb4 := hb.below hb3 (by simp)
  have b0 := hb4.cell 0
  have bf := hb4.free 0
  simp only [List.getElem?_toArray, List.getElem?_cons_zero] at b0
  have hB := Lib.hid (hbel.trans (hb3.mono (by simp; omega)))
  go_wp2_with fail
  have hb5 := (hb4.put0 (.string ⟨#[]⟩)).cell 0
  simp only [List.getElem?_toArray, List.getElem?_cons_zero] at hb5
  refine bodyPost_ret (v := .string ⟨#[]⟩) (by simp [results, Tryd.results111, go_sem, hb5]) rfl ?_
  exact ⟨rfl, hB.out.setCell (p := ⟨w.heap.size + 1 + 1, 0, none⟩) (by simp; omega) _⟩

section
variable (r a m b : Nat) (A : Option Addr) (c : Nat) (l : List UInt8) (p : Nat) (f : Bool) (W : World)
set_option maxHeartbeats 400000 in
theorem text_way (most : Int) (h : RdB W r A c l p f) (x : Value) (ha : Blk W a 60 #[.pointer (some ⟨r, 0, none⟩)]) (hm : Blk W m 3 #[.int .i64 most]) (hb : Blk W b 9 #[x])
    (hmr : m ≠ r) (har : a ≠ r) (hbr : b ≠ r) (hAb : ∀ ad, A = some ad → ad.block ≠ b) {y k : Nat} (hn : num (l.drop p) 0 = some (y, k)) (h0 : 0 ≤ most) (hym : (y : Int) ≤ most) (hm2 : most ≤ 9223372036854775807) (hyl : p + k + y ≤ l.length) :
    Calls Tryd.prog 114 #[.pointer (some ⟨a, 0, none⟩), .pointer (some ⟨m, 0, none⟩), .pointer (some ⟨b, 0, none⟩)] W fun e w' => e = .returned (.tuple #[]) ∧ RdB w' r A c l (p + k + y) f ∧
      Blk w' b 9 #[.string ⟨((l.drop (p + k)).take y).toArray⟩] ∧ Only2 r b W w' := by
  have c0 : W.cell? ⟨a, 0, none⟩ = some (.pointer (some ⟨r, 0, none⟩)) := ha.cell 0
  have HN := Lib.hid (number_some r A c l p f W h hn)
  have hg0 : decide (0 ≤ most) = true := by rw [decide_eq_true_iff]; exact h0
  have hg1 : IntKind.u64.wrap most = most := by rw [IntKind.wrap_u64]; omega
  have hg2 : decide ((y : Int) ≤ most) = true := by rw [decide_eq_true_iff]; exact hym
  have hg3 : IntKind.i64.wrap (y : Int) = y := IntWalk.i64_in _ (by omega)
  clear h hn
  go_enter Tryd.func114, Tryd.ntmps114
  go_wp2_with fail
  refine HN.out.mono ?_
  rintro e w3 ⟨rfl, hR3, hg3'⟩
  have hb3 : Blk w3 b 9 #[x] := hb.grown hg3' (by simpa using hbr)
  have hm3 : Blk w3 m 3 #[.int .i64 most] := hm.grown hg3' (by simpa using hmr)
  have ha3 : Blk w3 a 60 #[.pointer (some ⟨r, 0, none⟩)] := ha.grown hg3' (by simpa using har)
  have m0 : w3.cell? ⟨m, 0, none⟩ = some (.int .i64 most) := hm3.cell 0
  have a0 : w3.cell? ⟨a, 0, none⟩ = some (.pointer (some ⟨r, 0, none⟩)) := ha3.cell 0
  go_wp2_with fail
  refine (must_yes _).mono ?_
  rintro e w4 ⟨rfl, rfl⟩
  have HN2 := Lib.hid (next_ok r A c l (p + k) f y w3 hR3 hyl)
  have hlen : ((l.drop (p + k)).take y).length = y := by rw [List.length_take, List.length_drop]; omega
  generalize hs : (l.drop (p + k)).take y = s at HN2 hlen
  have HL := Lib.hid hlen
  have HS := Lib.hid hs
  clear hlen hs
  go_wp2_with fail
  refine HN2.out.mono ?_
  rintro e w5 ⟨⟨B, rfl, hB⟩, hR5, hg5⟩
  have hb5 : Blk w5 b 9 #[x] := hb3.grown hg5 (by simpa using hbr)
  have b0 : w5.cell? ⟨b, 0, none⟩ = some x := hb5.cell 0
  have bf : w5.frozen? ⟨b, 0, none⟩ = false := hb5.free 0
  have HB := Lib.hid hB
  have hcv := fun n c' hn => conv_str (P := Tryd.prog) (w := w5) (n := n) (c := c') Tryd.underlying22 Tryd.underlying5 Tryd.underlying9 hB hn
  have hcv2 := hcv y y HL.out
  clear hcv hB
  go_wp2_with fail
  go_end0
  rw [HS.out]
  exact ⟨rfl, hR5.far hbr hAb 0 _, hb5.put0 _, (Only2.of (only_trans hg3' hg5)).put 0 _⟩
set_option maxHeartbeats 400000 in
theorem text_stop (most : Int) (h : RdB W r A c l p f) (ha : Blk W a 60 #[.pointer (some ⟨r, 0, none⟩)]) (hm : Blk W m 3 #[.int .i64 most]) (hmr : m ≠ r) (har : a ≠ r)
    (hm1 : -9223372036854775808 ≤ most) (hm2 : most ≤ 9223372036854775807) (hbad : ∀ y k, num (l.drop p) 0 = some (y, k) → ¬ (0 ≤ most ∧ (y : Int) ≤ most ∧ p + k + y ≤ l.length)) :
    Calls Tryd.prog 114 #[.pointer (some ⟨a, 0, none⟩), .pointer (some ⟨m, 0, none⟩), .pointer (some ⟨b, 0, none⟩)] W fun e w' => e = .panicked gaveUp ∧ (∃ p', RdB w' r A c l p' f) ∧ W.grownBy w' (some r) := by
  have c0 : W.cell? ⟨a, 0, none⟩ = some (.pointer (some ⟨r, 0, none⟩)) := ha.cell 0
  cases hn : num (l.drop p) 0 with
  | none =>
    have HN := Lib.hid (number_none r A c l p f W h hn)
    clear hbad hn
    go_enter Tryd.func114, Tryd.ntmps114
    go_wp2_with fail
    refine HN.out.mono ?_
    rintro e w3 ⟨rfl, hR3, hg3⟩
    go_wp2_with fail
    exact ⟨rfl, rfl, hR3, hg3⟩
  | some v =>
    obtain ⟨y, k⟩ := v
    have hb := hbad y k hn
    have hy64 : y < 18446744073709551616 := (num_digits hn).2.2
    have HN := Lib.hid (number_some r A c l p f W h hn)
    clear hbad hn
    have hcase : most < 0 ∨ (0 ≤ most ∧ most < (y : Int)) ∨ (0 ≤ most ∧ (y : Int) ≤ most ∧ l.length < p + k + y) := by omega
    have hg1 : 0 ≤ most → IntKind.u64.wrap most = most := fun h => by rw [IntKind.wrap_u64]; omega
    clear hb
    rcases hcase with h0 | ⟨h0, hlt⟩ | ⟨h0, hle, hlt⟩
    · have hg0 : decide (0 ≤ most) = false := by rw [decide_eq_false_iff_not]; omega
      clear hg1
      go_enter Tryd.func114, Tryd.ntmps114
      go_wp2_with fail
      refine HN.out.mono ?_
      rintro e w3 ⟨rfl, hR3, hg3'⟩
      have m0 : w3.cell? ⟨m, 0, none⟩ = some (.int .i64 most) := (hm.grown hg3' (by simpa using hmr)).cell 0
      go_wp2_with fail
      refine (must_no _).mono ?_
      rintro e w4 ⟨rfl, rfl⟩
      go_wp2_with fail
      exact ⟨rfl, rfl, ⟨_, hR3⟩, hg3'⟩
    · have hg0 : decide (0 ≤ most) = true := by rw [decide_eq_true_iff]; exact h0
      have hg2 : decide ((y : Int) ≤ most) = false := by rw [decide_eq_false_iff_not]; omega
      have hg1' := hg1 h0
      clear hg1
      go_enter Tryd.func114, Tryd.ntmps114
      go_wp2_with fail
      refine HN.out.mono ?_
      rintro e w3 ⟨rfl, hR3, hg3'⟩
      have m0 : w3.cell? ⟨m, 0, none⟩ = some (.int .i64 most) := (hm.grown hg3' (by simpa using hmr)).cell 0
      go_wp2_with fail
      refine (must_no _).mono ?_
      rintro e w4 ⟨rfl, rfl⟩
      go_wp2_with fail
      exact ⟨rfl, rfl, ⟨_, hR3⟩, hg3'⟩
    · have hg0 : decide (0 ≤ most) = true := by rw [decide_eq_true_iff]; exact h0
      have hg2 : decide ((y : Int) ≤ most) = true := by rw [decide_eq_true_iff]; omega
      have hg1' := hg1 h0
      have hg3 : IntKind.i64.wrap (y : Int) = y := IntWalk.i64_in _ (by omega)
      clear hg1
      go_enter Tryd.func114, Tryd.ntmps114
      go_wp2_with fail
      refine HN.out.mono ?_
      rintro e w3 ⟨rfl, hR3, hg3'⟩
      have m0 : w3.cell? ⟨m, 0, none⟩ = some (.int .i64 most) := (hm.grown hg3' (by simpa using hmr)).cell 0
      have a0 : w3.cell? ⟨a, 0, none⟩ = some (.pointer (some ⟨r, 0, none⟩)) := (ha.grown hg3' (by simpa using har)).cell 0
      have HB := Lib.hid (next_bad r A c l (p + k) f y w3 hR3 (.inr (by omega)))
      clear hlt
      go_wp2_with fail
      refine (must_yes _).mono ?_
      rintro e w4 ⟨rfl, rfl⟩
      go_wp2_with fail
      refine HB.out.mono ?_
      rintro e w5 ⟨rfl, hR5, hg5⟩
      go_wp2_with fail
      exact ⟨rfl, rfl, ⟨_, hR5⟩, only_trans hg3' hg5⟩
end

set_option maxHeartbeats 400000 in
theorem text_ok (r : Nat) (A : Option Addr) (c : Nat) (l : List UInt8) (p : Nat) (most : Int) (w : World) (h : RdB w r A c l p false) {y k : Nat} (hn : num (l.drop p) 0 = some (y, k)) (h0 : 0 ≤ most) (hym : (y : Int) ≤ most) (hm2 : most ≤ 9223372036854775807) (hyl : p + k + y ≤ l.length) :
    Calls Tryd.prog 111 #[.pointer (some ⟨r, 0, none⟩), .int .i64 most] w fun e w' => e = .returned (.string ⟨((l.drop (p + k)).take y).toArray⟩) ∧ RdB w' r A c l (p + k + y) false ∧ w.grownBy w' (some r) := by
  have hmf : ∀ (fn : Fn) (first cap : Array Value) (w : World), (Instr.makeFunc fn first cap).run Tryd.prog w = .ok (.func fn first cap) w := fun _ _ _ _ => rfl
  obtain ⟨ha, hm, hb, hbel⟩ := three_new w 60 3 9 (.pointer (some ⟨r, 0, none⟩)) (.int .i64 most) (.string ⟨#[]⟩)
  have hs : (((w.alloc (.cells #[.pointer (some ⟨r, 0, none⟩)] 60)).alloc (.cells #[.int .i64 most] 3)).alloc (.cells #[.string ⟨#[]⟩] 9)).heap.size = w.heap.size + 1 + 1 + 1 := by simp
  have HG := Lib.hid (part_good 114 #[.pointer (some ⟨w.heap.size, 0, none⟩), .pointer (some ⟨w.heap.size + 1, 0, none⟩), .pointer (some ⟨w.heap.size + 1 + 1, 0, none⟩)] (fun _ _ => rfl) r A c l p _ (h.below hbel)
    (fun w' => RdB w' r A c l (p + k + y) false ∧ Blk w' (w.heap.size + 1 + 1) 9 #[.string ⟨((l.drop (p + k)).take y).toArray⟩] ∧ w.grownBy w' (some r)) fun W hW => by
      have hrl := h.lt
      have hWs := hW.size
      refine (text_way r w.heap.size (w.heap.size + 1) (w.heap.size + 1 + 1) A c l p false W most ((h.below hbel).below hW) _ (ha.below hW (by omega)) (hm.below hW (by omega)) (hb.below hW (by omega)) (by omega) (by omega) (by omega) (fun ad e => by have := h.al ad e; omega) hn h0 hym hm2 hyl).mono ?_
      rintro e w' ⟨rfl, h1, h2, h3⟩
      exact ⟨rfl, h1, h2, (h3.after (hbel.trans (hW.mono (by omega))) (Nat.le_refl _)).grown (by omega)⟩)
  have HL := Lib.hid h.lt
  have HA := Lib.hid h.al
  clear ha hm hb hbel hs hn
  generalize ((l.drop (p + k)).take y).toArray = S at HG ⊢
  go_enter Tryd.func111, Tryd.ntmps111
  go_wp2_with fail
  refine HG.out.mono ?_
  rintro e w3 ⟨rfl, hR, hb3, hg⟩
  have b0 := hb3.cell 0
  have bf := hb3.free 0
  simp only [List.getElem?_toArray, List.getElem?_cons_zero] at b0
  go_wp2_with fail
  have hb4 := (hb3.put0 (.string ⟨S⟩)).cell 0
  simp only [List.getElem?_toArray, List.getElem?_cons_zero] at hb4
  have h1 := HL.out
  refine bodyPost_ret (v := .string ⟨S⟩) (by simp [results, Tryd.results111, go_sem, hb4]) rfl ?_
  exact ⟨rfl, hR.far (by omega) (fun ad e => by have := HA.out ad e; omega) 0 _, only_far hg (by omega) 0 _⟩

set_option maxHeartbeats 400000 in
theorem text_bad (r : Nat) (A : Option Addr) (c : Nat) (l : List UInt8) (p : Nat) (most : Int) (w : World) (h : RdB w r A c l p false) (hm1 : -9223372036854775808 ≤ most) (hm2 : most ≤ 9223372036854775807) (hbad : ∀ y k, num (l.drop p) 0 = some (y, k) → ¬ (0 ≤ most ∧ (y : Int) ≤ most ∧ p + k + y ≤ l.length)) :
    Calls Tryd.prog 111 #[.pointer (some ⟨r, 0, none⟩), .int .i64 most] w fun e w' => e = .returned (.string ⟨#[]⟩) ∧ RdB w' r A c l p true ∧ w.grownBy w' (some r) := by
  have hmf : ∀ (fn : Fn) (first cap : Array Value) (w : World), (Instr.makeFunc fn first cap).run Tryd.prog w = .ok (.func fn first cap) w := fun _ _ _ _ => rfl
  obtain ⟨ha, hm, hb, hbel⟩ := three_new w 60 3 9 (.pointer (some ⟨r, 0, none⟩)) (.int .i64 most) (.string ⟨#[]⟩)
  have hs : (((w.alloc (.cells #[.pointer (some ⟨r, 0, none⟩)] 60)).alloc (.cells #[.int .i64 most] 3)).alloc (.cells #[.string ⟨#[]⟩] 9)).heap.size = w.heap.size + 1 + 1 + 1 := by simp
  have HG := Lib.hid (part_bad 114 #[.pointer (some ⟨w.heap.size, 0, none⟩), .pointer (some ⟨w.heap.size + 1, 0, none⟩), .pointer (some ⟨w.heap.size + 1 + 1, 0, none⟩)] (fun _ _ => rfl) r A c l p _ (h.below hbel)
    (fun w' => Blk w' (w.heap.size + 1 + 1) 9 #[.string ⟨#[]⟩] ∧ w.grownBy w' (some r)) fun W hW => by
      have hrl := h.lt
      have hWs := hW.size
      refine (text_stop r w.heap.size (w.heap.size + 1) (w.heap.size + 1 + 1) A c l p false W most ((h.below hbel).below hW) (ha.below hW (by omega)) (hm.below hW (by omega)) (by omega) (by omega) hm1 hm2 hbad).mono ?_
      rintro e w' ⟨rfl, h1, h2⟩
      exact ⟨rfl, h1, fun k hk hkW => h2.block k hkW (by simp; omega), (hb.below hW (by omega)).grown h2 (by simp; omega), only_below (hbel.trans (hW.mono (by omega))) (Nat.le_refl _) h2⟩)
  have HL := Lib.hid h.lt
  have HA := Lib.hid h.al
  clear ha hm hb hbel hs hbad
  go_enter Tryd.func111, Tryd.ntmps111
  go_wp2_with fail
  refine HG.out.mono ?_
  rintro e w3 ⟨rfl, hR, w2, ⟨hb2, hg2⟩, hw3⟩
  have h1 := HL.out
  have hb3 : Blk w3 (w.heap.size + 1 + 1) 9 #[.string ⟨#[]⟩] := by rw [hw3]; exact (hb2.far (by simp; omega) _).far (by simp; omega) _
  have hg : w.grownBy w3 (some r) := by rw [hw3]; exact only_set (only_set hg2 1 _) 2 _
  have b0 := hb3.cell 0
  have bf := hb3.free 0
  simp only [List.getElem?_toArray, List.getElem?_cons_zero] at b0
  clear hw3 hb2 hg2 h1
  go_wp2_with fail
  have hb4 := (hb3.put0 (.string ⟨#[]⟩)).cell 0
  simp only [List.getElem?_toArray, List.getElem?_cons_zero] at hb4
  have h1 := HL.out
  refine bodyPost_ret (v := .string ⟨#[]⟩) (by simp [results, Tryd.results111, go_sem, hb4]) rfl ?_
  exact ⟨rfl, hR.far (by omega) (fun ad e => by have := HA.out ad e; omega) 0 _, only_far hg (by omega) 0 _⟩
end Go.Proofs.YtdckdjkkaangmaaDoor

/- The reader's methods, each in one sentence, whatever there is to read; the law's get. -/
namespace Go.Proofs.YtdckdjkkaangmaaDoor
set_option linter.unusedVariables false
set_option linter.unusedSimpArgs false
set_option maxRecDepth 100000
open Go.RowKit

/-- What a reading of the sort k answers: a number, bytes, how many bytes were taken, whether there is a fault. -/
def stepP (k most : Int) (xs : List UInt8) (f : Bool) : Nat × List UInt8 × Nat × Bool :=
  if f then (0, [], 0, true) else match getP k most xs with
    | some (x, s, j) => (x, s, j, false)
    | none => (0, [], 0, true)
theorem stepP_off (k most : Int) (xs : List UInt8) : stepP k most xs true = (0, [], 0, true) := rfl
theorem stepP_some {k most : Int} {xs : List UInt8} {x j : Nat} {s : List UInt8} (h : getP k most xs = some (x, s, j)) : stepP k most xs false = (x, s, j, false) := by
  unfold stepP
  rw [if_neg (by decide), h]
theorem stepP_none {k most : Int} {xs : List UInt8} (h : getP k most xs = none) : stepP k most xs false = (0, [], 0, true) := by
  unfold stepP
  rw [if_neg (by decide), h]
/-- The reader stands behind what was read. -/
def Rdd (r : Nat) (A : Option Addr) (c : Nat) (l : List UInt8) (q : Nat) (t : Nat × List UInt8 × Nat × Bool) (w w' : World) : Prop :=
  RdB w' r A c l (q + t.2.2.1) t.2.2.2 ∧ w.grownBy w' (some r)
theorem Rdd.off {r : Nat} {A : Option Addr} {c : Nat} {l : List UInt8} {q : Nat} {w w' : World} (h : RdB w r A c l q true) (hb : Below w.heap.size w w') : Rdd r A c l q (0, [], 0, true) w w' :=
  ⟨h.below hb, ⟨hb.os, hb.tape, hb.output, hb.size, fun k hk _ => hb.block k hk⟩⟩
section
variable (r : Nat) (A : Option Addr) (c : Nat) (l : List UInt8) (q : Nat) (f : Bool) (w : World)
theorem u8_any (m : Int) (h : RdB w r A c l q f) :
    Calls Tryd.prog 21 #[.pointer (some ⟨r, 0, none⟩)] w fun e w' => e = .returned (.int .u8 ((stepP 0 m (l.drop q) f).1 : Int)) ∧ Rdd r A c l q (stepP 0 m (l.drop q) f) w w' := by
  cases f with
  | true =>
    rw [stepP_off]
    exact (u8_off r A c l q w h).mono fun e w' ⟨h1, h2⟩ => ⟨h1, Rdd.off h h2⟩
  | false =>
    have hq := h.pl
    by_cases hlt : q < l.length
    · rw [stepP_some (x := l[q].toNat) (s := []) (j := 1) (by
        unfold getP
        have e : leN ((l.drop q).take 1) = l[q].toNat := by
          rw [List.drop_eq_getElem_cons hlt]
          simp only [List.take_succ_cons, List.take_zero, leN]
          omega
        rw [if_pos rfl, if_pos (by rw [List.length_drop]; omega), e])]
      exact u8_ok r A c l q w h hlt
    · rw [stepP_none (by
        unfold getP
        rw [if_pos rfl, if_neg (by rw [List.length_drop]; omega)])]
      exact u8_bad r A c l q w h (by omega)
theorem uint_any (m : Int) (h : RdB w r A c l q f) :
    Calls Tryd.prog 110 #[.pointer (some ⟨r, 0, none⟩)] w fun e w' => e = .returned (.int .u64 ((stepP 2 m (l.drop q) f).1 : Int)) ∧ Rdd r A c l q (stepP 2 m (l.drop q) f) w w' := by
  cases f with
  | true =>
    rw [stepP_off]
    exact (uint_off r A c l q w h).mono fun e w' ⟨h1, h2⟩ => ⟨h1, Rdd.off h h2⟩
  | false =>
    cases hn : num (l.drop q) 0 with
    | none =>
      rw [stepP_none (by
        unfold getP
        rw [if_neg (by decide), if_neg (by decide), if_pos rfl, hn]
        rfl)]
      exact uint_bad r A c l q w h hn
    | some v =>
      obtain ⟨y, k⟩ := v
      rw [stepP_some (x := y) (s := []) (j := k) (by
        unfold getP
        rw [if_neg (by decide), if_neg (by decide), if_pos rfl, hn]
        rfl)]
      exact uint_ok r A c l q w h hn
theorem text_any (m : Int) (hm1 : -9223372036854775808 ≤ m) (hm2 : m ≤ 9223372036854775807) (h : RdB w r A c l q f) :
    Calls Tryd.prog 111 #[.pointer (some ⟨r, 0, none⟩), .int .i64 m] w fun e w' => e = .returned (.string ⟨(stepP 3 m (l.drop q) f).2.1.toArray⟩) ∧ Rdd r A c l q (stepP 3 m (l.drop q) f) w w' := by
  cases f with
  | true =>
    rw [stepP_off]
    exact (text_off r A c l q m w h).mono fun e w' ⟨h1, h2⟩ => ⟨h1, Rdd.off h h2⟩
  | false =>
    have hq := h.pl
    have hg : getP 3 m (l.drop q) = (num (l.drop q) 0).bind fun r => if 0 ≤ m ∧ (r.1 : Int) ≤ m ∧ r.1 ≤ (l.drop q).length - r.2 then some (0, ((l.drop q).drop r.2).take r.1, r.2 + r.1) else none := rfl
    by_cases hgood : ∃ y k, num (l.drop q) 0 = some (y, k) ∧ 0 ≤ m ∧ (y : Int) ≤ m ∧ q + k + y ≤ l.length
    · obtain ⟨y, k, hn, h0, hy, hl⟩ := hgood
      rw [stepP_some (x := 0) (s := (l.drop (q + k)).take y) (j := k + y) (by
        rw [hg, hn, Option.bind_some, if_pos ⟨h0, hy, by rw [List.length_drop]; simp only; omega⟩, List.drop_drop])]
      refine (text_ok r A c l q m w h hn h0 hy hm2 hl).mono fun e w' ⟨h1, h2, h3⟩ => ⟨h1, ?_, h3⟩
      rw [← Nat.add_assoc]
      exact h2
    · rw [stepP_none (by
        rw [hg]
        cases hn : num (l.drop q) 0 with
        | none => rfl
        | some v =>
          obtain ⟨y, k⟩ := v
          have hk := (num_sound _ 0 _ _ (by omega) hn).1
          rw [List.length_drop] at hk
          rw [Option.bind_some, if_neg]
          rintro ⟨h0, hy, hl⟩
          rw [List.length_drop] at hl
          simp only at hy hl
          exact hgood ⟨y, k, hn, h0, hy, by omega⟩)]
      exact text_bad r A c l q m w h hm1 hm2 fun y k hn hc => hgood ⟨y, k, hn, hc.1, hc.2.1, hc.2.2⟩
end
theorem stepP_num {k m : Int} {xs : List UInt8} {f : Bool} (B : Nat) (hB : 0 < B) (h : ∀ x s j, getP k m xs = some (x, s, j) → x < B) : (stepP k m xs f).1 < B := by
  unfold stepP
  split
  · exact hB
  · split
    · rename_i h1
      exact h _ _ _ h1
    · exact hB
end Go.Proofs.YtdckdjkkaangmaaDoor
