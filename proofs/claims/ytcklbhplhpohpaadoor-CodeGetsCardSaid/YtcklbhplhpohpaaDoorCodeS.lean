/- The reader's methods, each in one sentence, whatever there is to read; the law's get. -/
import Derived.Test.YtcklbhplhpohpaaDoorCodeR
namespace Go.Proofs.YtcklbhplhpohpaaDoor
open Go.RowKit

/-- What a reading of the sort k answers: a number, bytes, how many bytes were taken, whether there is a fault. -/
def stepP (k most : Int) (xs : List UInt8) (f : Bool) : Nat × List UInt8 × Nat × Bool :=
  if f then (0, [], 0, true) else match getP k most xs with
    | some (x, s, j) => (x, s, j, false)
    | none => (0, [], 0, true)
theorem stepP_off (k most : Int) (xs : List UInt8) : stepP k most xs true = (0, [], 0, true) := rfl
theorem stepP_some {k most : Int} {xs : List UInt8} {x j : Nat} {s : List UInt8} (h : getP k most xs = some (x, s, j)) : stepP k most xs false = (x, s, j, false) := by
  unfold stepP
  rw [if_neg (by decide), h]
theorem stepP_none {k most : Int} {xs : List UInt8} (h : getP k most xs = none) : stepP k most xs false = (0, [], 0, true) := by
  unfold stepP
  rw [if_neg (by decide), h]
/-- The reader stands behind what was read. -/
def Rdd (r : Nat) (A : Option Addr) (c : Nat) (l : List UInt8) (q : Nat) (t : Nat × List UInt8 × Nat × Bool) (w w' : World) : Prop :=
  RdB w' r A c l (q + t.2.2.1) t.2.2.2 ∧ w.grownBy w' (some r)
theorem Rdd.off {r : Nat} {A : Option Addr} {c : Nat} {l : List UInt8} {q : Nat} {w w' : World} (h : RdB w r A c l q true) (hb : Below w.heap.size w w') : Rdd r A c l q (0, [], 0, true) w w' :=
  ⟨h.below hb, ⟨hb.os, hb.tape, hb.output, hb.size, fun k hk _ => hb.block k hk⟩⟩
section
variable (r : Nat) (A : Option Addr) (c : Nat) (l : List UInt8) (q : Nat) (f : Bool) (w : World)
theorem u8_any (m : Int) (h : RdB w r A c l q f) :
    Calls Tryd.prog 52 #[.pointer (some ⟨r, 0, none⟩)] w fun e w' => e = .returned (.int .u8 ((stepP 0 m (l.drop q) f).1 : Int)) ∧ Rdd r A c l q (stepP 0 m (l.drop q) f) w w' := by
  cases f with
  | true =>
    rw [stepP_off]
    exact (u8_off r A c l q w h).mono fun e w' ⟨h1, h2⟩ => ⟨h1, Rdd.off h h2⟩
  | false =>
    have hq := h.pl
    by_cases hlt : q < l.length
    · rw [stepP_some (x := l[q].toNat) (s := []) (j := 1) (by
        unfold getP
        have e : leN ((l.drop q).take 1) = l[q].toNat := by
          rw [List.drop_eq_getElem_cons hlt]
          simp only [List.take_succ_cons, List.take_zero, leN]
          omega
        rw [if_pos rfl, if_pos (by rw [List.length_drop]; omega), e])]
      exact u8_ok r A c l q w h hlt
    · rw [stepP_none (by
        unfold getP
        rw [if_pos rfl, if_neg (by rw [List.length_drop]; omega)])]
      exact u8_bad r A c l q w h (by omega)
theorem u32_any (m : Int) (h : RdB w r A c l q f) :
    Calls Tryd.prog 53 #[.pointer (some ⟨r, 0, none⟩)] w fun e w' => e = .returned (.int .u32 ((stepP 1 m (l.drop q) f).1 : Int)) ∧ Rdd r A c l q (stepP 1 m (l.drop q) f) w w' := by
  cases f with
  | true =>
    rw [stepP_off]
    exact (u32_off r A c l q w h).mono fun e w' ⟨h1, h2⟩ => ⟨h1, Rdd.off h h2⟩
  | false =>
    have hq := h.pl
    by_cases hlt : q + 4 ≤ l.length
    · rw [stepP_some (x := leN ((l.drop q).take 4)) (s := []) (j := 4) (by
        unfold getP
        rw [if_neg (by decide), if_pos rfl, if_pos (by rw [List.length_drop]; omega)])]
      exact u32_ok r A c l q w h hlt
    · rw [stepP_none (by
        unfold getP
        rw [if_neg (by decide), if_pos rfl, if_neg (by rw [List.length_drop]; omega)])]
      exact u32_bad r A c l q w h (by omega)
theorem uint_any (m : Int) (h : RdB w r A c l q f) :
    Calls Tryd.prog 18 #[.pointer (some ⟨r, 0, none⟩)] w fun e w' => e = .returned (.int .u64 ((stepP 2 m (l.drop q) f).1 : Int)) ∧ Rdd r A c l q (stepP 2 m (l.drop q) f) w w' := by
  cases f with
  | true =>
    rw [stepP_off]
    exact (uint_off r A c l q w h).mono fun e w' ⟨h1, h2⟩ => ⟨h1, Rdd.off h h2⟩
  | false =>
    cases hn : num (l.drop q) 0 with
    | none =>
      rw [stepP_none (by
        unfold getP
        rw [if_neg (by decide), if_neg (by decide), if_pos rfl, hn]
        rfl)]
      exact uint_bad r A c l q w h hn
    | some v =>
      obtain ⟨y, k⟩ := v
      rw [stepP_some (x := y) (s := []) (j := k) (by
        unfold getP
        rw [if_neg (by decide), if_neg (by decide), if_pos rfl, hn]
        rfl)]
      exact uint_ok r A c l q w h hn
theorem text_any (m : Int) (hm1 : -9223372036854775808 ≤ m) (hm2 : m ≤ 9223372036854775807) (h : RdB w r A c l q f) :
    Calls Tryd.prog 22 #[.pointer (some ⟨r, 0, none⟩), .int .i64 m] w fun e w' => e = .returned (.string ⟨(stepP 3 m (l.drop q) f).2.1.toArray⟩) ∧ Rdd r A c l q (stepP 3 m (l.drop q) f) w w' := by
  cases f with
  | true =>
    rw [stepP_off]
    exact (text_off r A c l q m w h).mono fun e w' ⟨h1, h2⟩ => ⟨h1, Rdd.off h h2⟩
  | false =>
    have hq := h.pl
    have hg : getP 3 m (l.drop q) = (num (l.drop q) 0).bind fun r => if 0 ≤ m ∧ (r.1 : Int) ≤ m ∧ r.1 ≤ (l.drop q).length - r.2 then some (0, ((l.drop q).drop r.2).take r.1, r.2 + r.1) else none := rfl
    by_cases hgood : ∃ y k, num (l.drop q) 0 = some (y, k) ∧ 0 ≤ m ∧ (y : Int) ≤ m ∧ q + k + y ≤ l.length
    · obtain ⟨y, k, hn, h0, hy, hl⟩ := hgood
      rw [stepP_some (x := 0) (s := (l.drop (q + k)).take y) (j := k + y) (by
        rw [hg, hn, Option.bind_some, if_pos ⟨h0, hy, by rw [List.length_drop]; simp only; omega⟩, List.drop_drop])]
      refine (text_ok r A c l q m w h hn h0 hy hm2 hl).mono fun e w' ⟨h1, h2, h3⟩ => ⟨h1, ?_, h3⟩
      rw [← Nat.add_assoc]
      exact h2
    · rw [stepP_none (by
        rw [hg]
        cases hn : num (l.drop q) 0 with
        | none => rfl
        | some v =>
          obtain ⟨y, k⟩ := v
          have hk := (num_sound _ 0 _ _ (by omega) hn).1
          rw [List.length_drop] at hk
          rw [Option.bind_some, if_neg]
          rintro ⟨h0, hy, hl⟩
          rw [List.length_drop] at hl
          simp only at hy hl
          exact hgood ⟨y, k, hn, h0, hy, by omega⟩)]
      exact text_bad r A c l q m w h hm1 hm2 fun y k hn hc => hgood ⟨y, k, hn, hc.1, hc.2.1, hc.2.2⟩
theorem raw_any (m : Int) (hl47 : l.length ≤ 140737488355328) (h : RdB w r A c l q f) :
    Calls Tryd.prog 38 #[.pointer (some ⟨r, 0, none⟩), .int .i64 m] w fun e w' => (∃ A' c', e = .returned (.slice A' (stepP 4 m (l.drop q) f).2.1.length c') ∧ Bytes w' A' (stepP 4 m (l.drop q) f).2.1) ∧ Rdd r A c l q (stepP 4 m (l.drop q) f) w w' := by
  cases f with
  | true =>
    rw [stepP_off]
    exact (raw_off r A c l q m w h).mono fun e w' ⟨h1, h2⟩ => ⟨⟨_, _, h1, Bytes.nil_ _ _⟩, Rdd.off h h2⟩
  | false =>
    have hq := h.pl
    have hg : getP 4 m (l.drop q) = if 0 ≤ m ∧ m ≤ (l.drop q).length then some (0, (l.drop q).take m.toNat, m.toNat) else none := rfl
    rw [List.length_drop] at hg
    by_cases hgood : 0 ≤ m ∧ m ≤ ((l.length - q : Nat) : Int)
    · rw [if_pos hgood] at hg
      rw [stepP_some hg]
      obtain ⟨n, rfl⟩ := Int.eq_ofNat_of_zero_le hgood.1
      have hlen : ((l.drop q).take n).length = n := by rw [List.length_take, List.length_drop]; omega
      refine (raw_ok r A c l q n w h (by omega) (by omega)).mono fun e w' ⟨⟨A', c', h1, h2⟩, h3, h4⟩ => ⟨⟨A', c', ?_, h2⟩, h3, h4⟩
      rw [h1]
      simp only [Int.toNat_natCast, hlen]
    · rw [if_neg hgood] at hg
      rw [stepP_none hg]
      exact (raw_bad r A c l q m w h (by omega)).mono fun e w' ⟨h1, h2, h3⟩ => ⟨⟨_, _, h1, Bytes.nil_ _ _⟩, h2, h3⟩
end
theorem getP_0 {m : Int} {xs : List UInt8} {x j : Nat} {s : List UInt8} (h : getP 0 m xs = some (x, s, j)) : x < 256 ∧ s = [] := by
  unfold getP at h
  rw [if_pos rfl] at h
  split at h
  · simp only [Option.some.injEq, Prod.mk.injEq] at h
    obtain ⟨h1, h2, _⟩ := h
    have := leN_lt (xs.take 1)
    have hl : (xs.take 1).length ≤ 1 := by rw [List.length_take]; omega
    have : 256 ^ (xs.take 1).length ≤ 256 ^ 1 := Nat.pow_le_pow_right (by decide) hl
    exact ⟨by omega, h2.symm⟩
  · cases h
theorem getP_1 {m : Int} {xs : List UInt8} {x j : Nat} {s : List UInt8} (h : getP 1 m xs = some (x, s, j)) : x < 4294967296 ∧ s = [] := by
  unfold getP at h
  rw [if_neg (by decide), if_pos rfl] at h
  split at h
  · simp only [Option.some.injEq, Prod.mk.injEq] at h
    obtain ⟨h1, h2, _⟩ := h
    have := leN_lt (xs.take 4)
    have hl : (xs.take 4).length ≤ 4 := by rw [List.length_take]; omega
    have : 256 ^ (xs.take 4).length ≤ 256 ^ 4 := Nat.pow_le_pow_right (by decide) hl
    exact ⟨by omega, h2.symm⟩
  · cases h
theorem getP_2 {m : Int} {xs : List UInt8} {x j : Nat} {s : List UInt8} (h : getP 2 m xs = some (x, s, j)) : s = [] := by
  unfold getP at h
  rw [if_neg (by decide), if_neg (by decide), if_pos rfl, Option.map_eq_some_iff] at h
  obtain ⟨r, _, h⟩ := h
  simp only [Prod.mk.injEq] at h
  exact h.2.1.symm
theorem getP_34 {k m : Int} (hk : k ≠ 0 ∧ k ≠ 1 ∧ k ≠ 2) {xs : List UInt8} {x j : Nat} {s : List UInt8} (h : getP k m xs = some (x, s, j)) : x = 0 := by
  unfold getP at h
  rw [if_neg hk.1, if_neg hk.2.1, if_neg hk.2.2] at h
  split at h
  · rw [Option.bind_eq_some_iff] at h
    obtain ⟨r, _, h⟩ := h
    split at h
    · simp only [Option.some.injEq, Prod.mk.injEq] at h
      exact h.1.symm
    · cases h
  · split at h
    · simp only [Option.some.injEq, Prod.mk.injEq] at h
      exact h.1.symm
    · cases h
theorem stepP_num {k m : Int} {xs : List UInt8} {f : Bool} (B : Nat) (hB : 0 < B) (h : ∀ x s j, getP k m xs = some (x, s, j) → x < B) : (stepP k m xs f).1 < B := by
  unfold stepP
  split
  · exact hB
  · split
    · rename_i h1
      exact h _ _ _ h1
    · exact hB
theorem stepP_bytes {k m : Int} {xs : List UInt8} {f : Bool} (h : ∀ x s j, getP k m xs = some (x, s, j) → s = []) : (stepP k m xs f).2.1 = [] := by
  unfold stepP
  split
  · rfl
  · split
    · rename_i h1
      exact h _ _ _ h1
    · rfl
end Go.Proofs.YtcklbhplhpohpaaDoor
