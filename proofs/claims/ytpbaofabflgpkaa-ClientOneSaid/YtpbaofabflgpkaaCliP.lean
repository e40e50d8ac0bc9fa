/- A call that nobody answers: plain. -/
import Derived.Test.YtpbaofabflgpkaaCliA
namespace Go.Proofs.Ytpbaofabflgpkaa
set_option linter.unusedVariables false
set_option linter.unusedSimpArgs false
open Go.RowKit

/-- It goes on; which broker; when was asked last, behind its beginning. -/
structure Lone where
  busy : Bool
  at_ : Nat
  since : Nat
def loneNext (m : Nat) (t : Nat) (s : Lone) : Nat := if 9 ≤ t then (if s.at_ + 1 < m then s.at_ + 1 else 0) else s.at_
def loneStep (m t : Nat) (s : Lone) : Lone × Option Nat × Bool :=
  if s.busy = false then (s, none, false)
  else if 240 ≤ t then ({ s with busy := false }, none, true)
  else if 3 ≤ t - s.since then ({ s with at_ := loneNext m t s, since := t }, some (loneNext m t s), false)
  else (s, none, false)
def lone (m : Nat) : Nat → Lone × Option Nat × Bool
  | 0 => (⟨true, 0, 0⟩, some 0, false)
  | t + 1 => loneStep m (t + 1) (lone m t).1
theorem lone_busy (m : Nat) : ∀ t, (lone m t).1.busy = decide (t < 240)
  | 0 => rfl
  | t + 1 => by
    have ih := lone_busy m t
    show (loneStep m (t + 1) (lone m t).1).1.busy = _
    unfold loneStep
    by_cases h : t < 240
    · rw [decide_eq_true h] at ih
      rw [if_neg (by rw [ih]; decide)]
      by_cases h2 : 240 ≤ t + 1
      · rw [if_pos h2, decide_eq_false (by omega)]
      · rw [if_neg h2, decide_eq_true (by omega)]
        split <;> exact ih
    · rw [decide_eq_false h] at ih
      rw [if_pos ih, decide_eq_false (by omega)]
      exact ih
theorem lone_ended (m t : Nat) : (lone m (t + 1)).2.2 = decide (t + 1 = 240) := by
  have ih := lone_busy m t
  show (loneStep m (t + 1) (lone m t).1).2.2 = _
  unfold loneStep
  by_cases h : t < 240
  · rw [decide_eq_true h] at ih
    rw [if_neg (by rw [ih]; decide)]
    by_cases h2 : 240 ≤ t + 1
    · rw [if_pos h2, decide_eq_true (by omega)]
    · rw [if_neg h2, decide_eq_false (by omega)]
      split <;> rfl
  · rw [decide_eq_false h] at ih
    rw [if_pos ih, decide_eq_false (by omega)]
theorem lone_quiet (m t : Nat) (h : 240 ≤ t + 1) : (lone m (t + 1)).2.1 = none := by
  have ih := lone_busy m t
  show (loneStep m (t + 1) (lone m t).1).2.1 = _
  unfold loneStep
  by_cases h2 : t < 240
  · rw [decide_eq_true h2] at ih
    rw [if_neg (by rw [ih]; decide), if_pos h]
  · rw [decide_eq_false h2] at ih
    rw [if_pos ih]
theorem loneNext_lt {m t : Nat} {s : Lone} (hm : s.at_ < m) : loneNext m t s < m := by
  unfold loneNext
  split
  · split <;> omega
  · exact hm
theorem loneStep_at {m t : Nat} {s : Lone} (hs : s.at_ < m) : (loneStep m t s).1.at_ < m ∧ ∀ k, (loneStep m t s).2.1 = some k → k < m := by
  have hn := loneNext_lt (t := t) hs
  unfold loneStep
  split
  · exact ⟨hs, fun k e => (by cases e)⟩
  · split
    · exact ⟨hs, fun k e => (by cases e)⟩
    · split
      · exact ⟨hn, fun k e => by injection e with e; rw [← e]; exact hn⟩
      · exact ⟨hs, fun k e => (by cases e)⟩
theorem lone_at (m : Nat) (hm : 0 < m) : ∀ t, (lone m t).1.at_ < m ∧ ∀ k, (lone m t).2.1 = some k → k < m
  | 0 => ⟨hm, fun k e => by injection e with e; rw [← e]; exact hm⟩
  | t + 1 => loneStep_at (lone_at m hm t).1
theorem loneStep_since {m t : Nat} {s : Lone} (h : s.since ≤ t) : (loneStep m (t + 1) s).1.since ≤ t + 1 := by
  unfold loneStep
  split
  · exact Nat.le_succ_of_le h
  · split
    · exact Nat.le_succ_of_le h
    · split
      · exact Nat.le_refl _
      · exact Nat.le_succ_of_le h
theorem lone_since (m : Nat) : ∀ t, (lone m t).1.since ≤ t
  | 0 => Nat.le_refl _
  | t + 1 => loneStep_since (lone_since m t)
/-- Each broker is asked. -/
theorem lone_all {m : Nat} (h3 : m ≤ 3) : ∀ j, j < m → ∃ t, t < 250 ∧ (lone m t).2.1 = some j := by
  intro j hj
  obtain h | h | h | h : m = 0 ∨ m = 1 ∨ m = 2 ∨ m = 3 := by omega
  · omega
  · subst h
    obtain rfl : j = 0 := by omega
    exact ⟨0, by decide, rfl⟩
  · subst h
    obtain rfl | rfl : j = 0 ∨ j = 1 := by omega
    · exact ⟨0, by decide, rfl⟩
    · exact ⟨9, by decide, by decide⟩
  · subst h
    obtain rfl | rfl | rfl : j = 0 ∨ j = 1 ∨ j = 2 := by omega
    · exact ⟨0, by decide, rfl⟩
    · exact ⟨9, by decide, by decide⟩
    · exact ⟨12, by decide, by decide⟩
/-- A client whose call is a lone one. -/
def LoneX (X : Cli) (s : Lone) : Cli := { X with busy := if s.busy then 1 else 0, at_ := s.at_, since := X.born + s.since }
def toutX (X : Cli) : Rep := { zRep with cl := X.call.cl, inc := X.call.inc, n := X.call.n, res := 3 }
theorem lone_tick (X : Cli) (s : Lone) (t : Nat) (hs : s.since ≤ t) : tickX (LoneX X s) (X.born + t) = { cli := LoneX X (loneStep X.bs.length t s).1, sent := (loneStep X.bs.length t s).2.1.map fun k => (X.bs.getD k 0, X.call), rep := if (loneStep X.bs.length t s).2.2 then some (toutX X) else none } := by
  have e1 : X.born + t - X.born = t := by omega
  have e2 : X.born + t - (X.born + s.since) = t - s.since := by omega
  obtain ⟨b, a, n⟩ := s
  cases b
  · unfold tickX loneStep
    rw [if_pos (by show (if false = true then (1 : Int) else 0) ≠ 1; simp), if_pos rfl]
    rfl
  · have hL : loneStep X.bs.length t ⟨true, a, n⟩ = (if 240 ≤ t then (⟨false, a, n⟩, none, true) else if 3 ≤ t - n then (⟨true, loneNext X.bs.length t ⟨true, a, n⟩, t⟩, some (loneNext X.bs.length t ⟨true, a, n⟩), false) else (⟨true, a, n⟩, none, false)) := rfl
    rw [hL]
    unfold tickX
    rw [if_neg (by show ¬ (if true = true then (1 : Int) else 0) ≠ 1; simp)]
    show (if 240 ≤ X.born + t - X.born then _ else if 3 ≤ X.born + t - (X.born + n) then (if 9 ≤ X.born + t - X.born then _ else _) else _) = _
    rw [e1, e2]
    by_cases h1 : 240 ≤ t
    · rw [if_pos h1, if_pos h1]
      rfl
    · rw [if_neg h1, if_neg h1]
      by_cases h2 : 3 ≤ t - n
      · rw [if_pos h2, if_pos h2]
        by_cases h3 : 9 ≤ t
        · rw [if_pos h3]
          simp only [loneNext, if_pos h3]
          rfl
        · rw [if_neg h3]
          simp only [loneNext, if_neg h3]
          rfl
      · rw [if_neg h2, if_neg h2]
        rfl
end Go.Proofs.Ytpbaofabflgpkaa
