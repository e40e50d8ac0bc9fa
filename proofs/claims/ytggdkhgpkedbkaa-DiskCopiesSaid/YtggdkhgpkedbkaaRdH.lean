/- The document's disk: Do, plain: it answers as the disk does. -/
import Derived.Test.YtggdkhgpkedbkaaRdG
namespace Go.Proofs.Ytggdkhgpkedbkaa
open Go.RowKit

/-- The call that the change c is. -/
def rdo (x : Dk) (c : Rc) : Int × Dk := if c.k = 0 then x.append c.n c.l else if c.k = 1 then x.put c.n c.l else if c.k = 2 then x.rename c.n c.t else x.remove c.n
theorem rdo_down {x : Dk} (h : x.down = true) (c : Rc) : rdo x c = (6, x) := by
  have e1 : ∀ ns, askE x.down ns = 6 := fun ns => by rw [h]; rfl
  unfold rdo Dk.append Dk.put Dk.rename Dk.remove
  split
  · rw [e1, if_pos (by simp)]
  split
  · rw [e1, if_pos (by simp)]
  split
  · rw [e1, if_pos (by simp)]
  · rw [e1, if_pos (by simp)]
theorem rdo_bad {x : Dk} (h : x.down = false) {c : Rc} (hn : isName c.n = false ∨ c.k = 2 ∧ isName c.t = false) : rdo x c = (1, x) := by
  have e1 : isName c.n = false → askE x.down [c.n] = 1 := fun e => by rw [h]; unfold askE; simp [e]
  have e2 : isName c.n = false ∨ isName c.t = false → askE x.down [c.n, c.t] = 1 := fun e => by
    rw [h]; unfold askE
    rcases e with e | e <;> simp [e]
  unfold rdo Dk.append Dk.put Dk.rename Dk.remove
  split
  · rename_i hk
    rw [e1 (by rcases hn with hn | hn; exact hn; omega), if_pos (by simp)]
  split
  · rename_i hk
    rw [e1 (by rcases hn with hn | hn; exact hn; omega), if_pos (by simp)]
  split
  · rename_i hk
    rw [e2 (by rcases hn with hn | hn; exact .inl hn; exact .inr hn.2), if_pos (by simp)]
  · rename_i hk
    rw [e1 (by rcases hn with hn | hn; exact hn; exact absurd hn.1 hk), if_pos (by simp)]
theorem ask_good {x : Dk} (h : x.down = false) {c : Rc} (hn : isName c.n = true) : askE x.down [c.n] = 0 := by rw [h]; unfold askE; simp [hn]
theorem ask_good2 {x : Dk} (h : x.down = false) {c : Rc} (hn : isName c.n = true) (ht : isName c.t = true) : askE x.down [c.n, c.t] = 0 := by rw [h]; unfold askE; simp [hn, ht]
theorem rdo_none {x : Dk} (h : x.down = false) {c : Rc} (hn : isName c.n = true) (ht : c.k = 2 → isName c.t = true) (hk : 2 ≤ c.k) (hg : fget c.n x.seen = none) : rdo x c = (4, x) := by
  have hs : (fget c.n x.seen).isSome = false := by rw [hg]; rfl
  unfold rdo Dk.rename Dk.remove
  rw [if_neg (by omega), if_neg (by omega)]
  split
  · rename_i h2
    simp [ask_good2 h hn (ht h2), hs]
  · simp [ask_good h hn, hs]
theorem rdo_self {x : Dk} (h : x.down = false) {c : Rc} (hn : isName c.n = true) (ht : c.k = 2 → isName c.t = true) (hk : c.k = 2) (hg : fget c.n x.seen ≠ none) (he : c.n = c.t) : rdo x c = (0, x) := by
  have hs : ¬ (fget c.n x.seen).isSome = false := by
    cases hh : fget c.n x.seen with
    | none => exact absurd hh hg
    | some b => simp
  unfold rdo Dk.rename
  rw [if_neg (by omega), if_neg (by omega), if_pos hk, ask_good2 h hn (ht hk), if_neg (by simp), if_neg hs, if_pos he]
/-- It is full, or the change waits. -/
theorem rdo_full {x : Dk} {N : Nat} (hx : Fine N x) (h : x.down = false) {c : Rc} (hn : isName c.n = true) (ht : c.k = 2 → isName c.t = true) (hg : 2 ≤ c.k → fget c.n x.seen ≠ none) (he : c.k = 2 → c.n ≠ c.t) (h0 : 0 ≤ c.k) :
    rdo x c = if x.cap < (fsize (c.chg.done x.seen) : Int) then (3, x) else (0, x.does c.chg) := by
  have hs : 2 ≤ c.k → ¬ (fget c.n x.seen).isSome = false := fun hk => by
    cases hh : fget c.n x.seen with
    | none => exact absurd hh (hg hk)
    | some b => simp
  have hle := hx.seen_le
  unfold rdo Rc.chg
  by_cases e0 : c.k = 0
  · rw [if_pos e0, if_pos e0]
    unfold Dk.append
    rw [ask_good h hn, if_neg (by simp)]
    have hp := fsize_put hx.srts c.n ((fget c.n x.seen).getD [] ++ c.l)
    rw [List.length_append] at hp
    unfold flen at hp
    simp only [Chg.done]
    by_cases hc : x.cap - (fsize x.seen : Int) < (c.l.length : Int)
    · have hc2 : x.cap < (fsize (fput c.n ((fget c.n x.seen).getD [] ++ c.l) x.seen) : Int) := by omega
      simp [hc, hc2]
    · have hc2 : ¬ x.cap < (fsize (fput c.n ((fget c.n x.seen).getD [] ++ c.l) x.seen) : Int) := by omega
      simp [hc, hc2]
  rw [if_neg e0, if_neg e0]
  by_cases e1 : c.k = 1
  · rw [if_pos e1, if_pos e1]
    unfold Dk.put
    rw [ask_good h hn, if_neg (by simp)]
    have hp := fsize_put hx.srts c.n c.l
    simp only [Chg.done]
    by_cases hc : x.cap - (fsize x.seen : Int) + (flen c.n x.seen : Int) < (c.l.length : Int)
    · have hc2 : x.cap < (fsize (fput c.n c.l x.seen) : Int) := by omega
      simp [hc, hc2]
    · have hc2 : ¬ x.cap < (fsize (fput c.n c.l x.seen) : Int) := by omega
      simp [hc, hc2]
  rw [if_neg e1, if_neg e1]
  by_cases e2 : c.k = 2
  · rw [if_pos e2, if_pos e2]
    unfold Dk.rename
    have hr := ren_size hx.srts (he e2)
    have hc2 : ¬ x.cap < (fsize ((Chg.ren c.n c.t).done x.seen) : Int) := by omega
    have h4 := hs (by omega)
    simp [ask_good2 h hn (ht e2), h4, he e2, hc2]
  · rw [if_neg e2, if_neg e2]
    unfold Dk.remove
    have hd := fsize_del hx.srts c.n
    have hc2 : ¬ x.cap < (fsize ((Chg.rem c.n).done x.seen) : Int) := by simp only [Chg.done]; omega
    have h4 := hs (by omega)
    simp [ask_good h hn, h4, hc2]
end Go.Proofs.Ytggdkhgpkedbkaa
