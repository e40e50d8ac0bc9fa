/- What a part's bytes are, and how a part is read: plain. -/
import Derived.Test.YtcklbhplhpohpaaDoorCodeB
namespace Go.Proofs.YtcklbhplhpohpaaDoor

def leN : List UInt8 → Nat
  | [] => 0
  | c :: cs => c.toNat + 256 * leN cs
def le4 (x : Nat) : List UInt8 := [UInt8.ofNat x, UInt8.ofNat (x / 256), UInt8.ofNat (x / 65536), UInt8.ofNat (x / 16777216)]
theorem leN_le4 (x : Nat) : leN (le4 x) = x % 4294967296 := by
  simp only [le4, leN, UInt8.toNat_ofNat']
  omega
/-- How a part of the sort k is read: the number, the bytes, how many bytes were taken. -/
def getP (k most : Int) (xs : List UInt8) : Option (Nat × List UInt8 × Nat) :=
  if k = 0 then (if 1 ≤ xs.length then some (leN (xs.take 1), [], 1) else none)
  else if k = 1 then (if 4 ≤ xs.length then some (leN (xs.take 4), [], 4) else none)
  else if k = 2 then (num xs 0).map fun r => (r.1, [], r.2)
  else if k = 3 then (num xs 0).bind fun r => if 0 ≤ most ∧ (r.1 : Int) ≤ most ∧ r.1 ≤ xs.length - r.2 then some (0, (xs.drop r.2).take r.1, r.2 + r.1) else none
  else if 0 ≤ most ∧ most ≤ xs.length then some (0, xs.take most.toNat, most.toNat) else none
/-- A part's bytes. -/
def putP (k : Int) (x : Nat) (b : List UInt8) : List UInt8 :=
  if k = 0 then [UInt8.ofNat x] else if k = 1 then le4 x else if k = 2 then short x else if k = 3 then short b.length ++ b else b
def numP (k : Int) (x : Nat) : Nat := if k = 0 then x % 256 else if k = 1 then x % 4294967296 else if k = 2 then x else 0
def textP (k : Int) (b : List UInt8) : List UInt8 := if k = 0 ∨ k = 1 ∨ k = 2 then [] else b
/-- What was put is read. -/
theorem get_put {k : Int} {x : Nat} {b rest : List UInt8} (hx : x < 18446744073709551616) (hb : b.length ≤ 9223372036854775807) :
    getP k b.length (putP k x b ++ rest) = some (numP k x, textP k b, (putP k x b).length) := by
  unfold getP putP numP textP
  by_cases h0 : k = 0
  · simp [h0, leN]
  by_cases h1 : k = 1
  · subst h1
    simp only [if_true, show ¬ ((1 : Int) = 0) by decide, if_false]
    rw [if_pos (by simp [le4])]
    have : List.take 4 (le4 x ++ rest) = le4 x := by simp [le4]
    rw [this, leN_le4]
    simp [le4]
  by_cases h2 : k = 2
  · subst h2
    simp only [if_true, show ¬ ((2 : Int) = 0) by decide, show ¬ ((2 : Int) = 1) by decide, if_false]
    rw [num_whole x 0 rest (by omega) (by omega) (by omega)]
    simp
  by_cases h3 : k = 3
  · subst h3
    simp only [if_true, show ¬ ((3 : Int) = 0) by decide, show ¬ ((3 : Int) = 1) by decide, show ¬ ((3 : Int) = 2) by decide, if_false, List.append_assoc]
    rw [num_whole b.length 0 (b ++ rest) (by omega) (by omega) (by omega), Option.bind_some, if_pos (by simp)]
    simp
  · simp only [h0, h1, h2, h3, if_false]
    rw [if_pos (by rw [List.length_append]; omega)]
    simp
theorem getP_more {k most : Int} {xs ys : List UInt8} {x : Nat} {s : List UInt8} {j : Nat} (h : getP k most xs = some (x, s, j)) : j ≤ xs.length ∧ getP k most (xs ++ ys) = some (x, s, j) := by
  unfold getP at h ⊢
  by_cases h0 : k = 0
  · simp only [h0, if_true] at h ⊢
    split at h
    · rename_i hl
      injection h with h
      injection h with e1 e2
      injection e2 with e2 e3
      subst e1 e2 e3
      refine ⟨hl, ?_⟩
      rw [if_pos (by rw [List.length_append]; omega), List.take_append_of_le_length hl]
    · cases h
  by_cases h1 : k = 1
  · subst h1
    simp only [if_true, show ¬ ((1 : Int) = 0) by decide, if_false] at h ⊢
    split at h
    · rename_i hl
      injection h with h
      injection h with e1 e2
      injection e2 with e2 e3
      subst e1 e2 e3
      refine ⟨hl, ?_⟩
      rw [if_pos (by rw [List.length_append]; omega), List.take_append_of_le_length hl]
    · cases h
  by_cases h2 : k = 2
  · subst h2
    simp only [if_true, show ¬ ((2 : Int) = 0) by decide, show ¬ ((2 : Int) = 1) by decide, if_false, Option.map_eq_some_iff] at h ⊢
    obtain ⟨r, hr, e⟩ := h
    obtain ⟨r1, r2⟩ := r
    simp only [Prod.mk.injEq] at e
    refine ⟨?_, _, num_more _ ys _ _ hr, by simpa using e⟩
    have := (num_sound _ 0 _ _ (by omega) hr).1
    omega
  by_cases h3 : k = 3
  · subst h3
    simp only [if_true, show ¬ ((3 : Int) = 0) by decide, show ¬ ((3 : Int) = 1) by decide, show ¬ ((3 : Int) = 2) by decide, if_false, Option.bind_eq_some_iff] at h ⊢
    obtain ⟨⟨r1, r2⟩, hr, e⟩ := h
    have hk := (num_sound _ 0 _ _ (by omega) hr).1
    simp only at e
    split at e
    · rename_i hc
      injection e with e
      injection e with e1 e2
      injection e2 with e2 e3
      subst e1 e2 e3
      refine ⟨by omega, _, num_more _ ys _ _ hr, ?_⟩
      simp only
      rw [if_pos ⟨hc.1, hc.2.1, by rw [List.length_append]; omega⟩, List.drop_append_of_le_length hk, List.take_append_of_le_length (by rw [List.length_drop]; omega)]
    · cases e
  · simp only [h0, h1, h2, h3, if_false] at h ⊢
    split at h
    · rename_i hl
      injection h with h
      injection h with e1 e2
      injection e2 with e2 e3
      subst e1 e2 e3
      refine ⟨by omega, ?_⟩
      rw [if_pos ⟨hl.1, by rw [List.length_append]; omega⟩, List.take_append_of_le_length (by omega)]
    · cases h
/-- Of a beginning of a part's bytes that is not all of them there is no part. -/
theorem get_cut {k : Int} {x : Nat} {b : List UInt8} (hx : x < 18446744073709551616) (hb : b.length ≤ 9223372036854775807) {j : Nat} (hj : j < (putP k x b).length) : getP k b.length ((putP k x b).take j) = none := by
  cases h : getP k b.length ((putP k x b).take j) with
  | none => rfl
  | some r =>
    obtain ⟨y, s, i⟩ := r
    have h1 := getP_more (ys := (putP k x b).drop j) h
    have h2 := get_put (k := k) (x := x) (b := b) (rest := []) hx hb
    rw [List.take_append_drop] at h1
    rw [List.append_nil, h1.2] at h2
    simp only [Option.some.injEq, Prod.mk.injEq] at h2
    have := h1.1
    rw [List.length_take] at this
    omega
end Go.Proofs.YtcklbhplhpohpaaDoor
