/- slices.IndexFunc at marks and entries, and what it is handed. -/
import Derived.Test.YtgdbknbpnlpdnaaMark
import Derived.Test.YtgdbknbpnlpdnaaChecked
import Derived.Tactics
import Derived.Handy
import Derived.Shelf.Abstract
namespace Go.Proofs.Ytgdbknbpnlpdnaa
set_option linter.unusedVariables false
set_option linter.unusedSimpArgs false
open Go.RowKit

/-- What is asked of a predicate on marks: wherever all that lay in w lies unturned it answers p, and turns nothing of that. -/
def PredM (g : Nat) (lb : Array Value) (p : Mk → Bool) (w : World) : Prop :=
  ∀ (W : World) (x : Mk), Below w.heap.size w W → Calls Try.prog g (#[x.val] ++ lb) W fun e w' => e = .returned (.bool (p x)) ∧ Below w.heap.size w w'
def PredE (g : Nat) (lb : Array Value) (p : En → Bool) (w : World) : Prop :=
  ∀ (W : World) (x : En), Below w.heap.size w W → Calls Try.prog g (#[x.val] ++ lb) W fun e w' => e = .returned (.bool (p x)) ∧ Below w.heap.size w w'
/-- The first place at which p holds, or -1. -/
def findI {α : Type} (p : α → Bool) (l : List α) : Int := match l.findIdx? p with | some i => (i : Int) | none => -1
section
variable {α : Type} {p : α → Bool} {l : List α}
theorem findI_hit {k : Nat} (hk : k < l.length) (h : p l[k] = true) (hno : ∀ j (hj : j < l.length), j < k → p l[j] = false) : findI p l = (k : Int) := by
  unfold findI
  have : l.findIdx? p = some k := by
    rw [List.findIdx?_eq_some_iff_getElem]
    exact ⟨hk, h, fun j hj => by simp [hno j (by omega) hj]⟩
  rw [this]
theorem findI_miss (hno : ∀ j (hj : j < l.length), p l[j] = false) : findI p l = -1 := by
  unfold findI
  have : l.findIdx? p = none := by
    rw [List.findIdx?_eq_none_iff]
    intro x hx
    obtain ⟨i, hi, rfl⟩ := List.getElem_of_mem hx
    exact hno i hi
  rw [this]
theorem findI_lt (p : α → Bool) (l : List α) : findI p l < l.length ∧ -1 ≤ findI p l := by
  unfold findI
  split
  · rename_i i h
    have := (List.findIdx?_eq_some_iff_getElem.1 h).1
    omega
  · omega
theorem no_more {k : Nat} (hno : ∀ j (_ : j < l.length), j < k → p l[j] = false) (hk : k < l.length) (h : p l[k] = false) : ∀ j (_ : j < l.length), j < k + 1 → p l[j] = false := by
  intro j hj hjk
  by_cases e : j = k
  · subst e; exact h
  · exact hno j hj (by omega)
end

set_option maxHeartbeats 400000 in
theorem indexM (A : Option Addr) (c : Nat) (ms : List Mk) (p : Mk → Bool) (g : Nat) (lb : Array Value) (eg : ∀ args w, (callFunc g args).run Try.prog w = .ok (.enter g args) w) (w : World) (hA : Marks w A ms) (hn : ms.length ≤ 9223372036854775807) (hp : PredM g lb p w) :
    Calls Try.prog 61 #[.slice A ms.length c, .func (.func g) #[] lb] w fun e w' => e = .returned (.int .i64 (findI p ms)) ∧ Below w.heap.size w w' := by
  go_enter Try.func61, Try.ntmps61
  go_wp2_with fail
  go_loopw [8] (fun i wr => ∃ k : Nat, k ≤ ms.length ∧ i = .int .i64 k ∧ Below w.heap.size w wr ∧ ∀ j (_ : j < ms.length), j < k → p ms[j] = false) (fun i _ => ms.length - (intOf i).toNat)
  case atStart => exact ⟨0, by omega, rfl, Below.refl _ _, fun j _ hj => absurd hj (Nat.not_lt_zero _)⟩
  case round =>
    obtain ⟨k, hk, rfl, hb, hno⟩ := hrel
    have HNO := Lib.hid hno
    clear hno
    by_cases hlt : k < ms.length
    · obtain ⟨b, o, rfl, had, c0, c1, c2⟩ := hA.at_ hlt
      replace c0 := (hb.cell (p := ⟨b, o + k * 3, none⟩) had).trans c0
      replace c1 := (hb.cell (p := ⟨b, o + k * 3 + 1, none⟩) had).trans c1
      replace c2 := (hb.cell (p := ⟨b, o + k * 3 + 2, none⟩) had).trans c2
      have hcall := hp wr ms[k] hb
      have HM := Lib.hid (findI_hit (p := p) hlt)
      have HN := Lib.hid (no_more (p := p) (k := k) HNO.out hlt)
      generalize ms[k] = x at c0 c1 c2 hcall HM HN
      clear hp
      go_wp2_with (go_at_fn g; refine hcall.mono ?_; clear hcall; rintro e w1 ⟨rfl, hb1⟩)
      · have hx : p x = true := by assumption
        go_ret
        exact ⟨by rw [HM.out hx HNO.out]; rfl, hb1⟩
      · have hx : p x = false := by assumption
        go_roundw
        case rel => exact ⟨k + 1, by omega, by go_num, hb1, HN.out hx⟩
        case measure => simp [intOf]; omega
    · obtain rfl : k = ms.length := by omega
      go_wp2_with fail
      go_ret
      exact ⟨by rw [findI_miss fun j hj => HNO.out j hj hj]; rfl, hb⟩

theorem firstM (A : Option Addr) (c : Nat) (ms : List Mk) (p : Mk → Bool) (g : Nat) (lb : Array Value) (eg : ∀ args w, (callFunc g args).run Try.prog w = .ok (.enter g args) w) (w : World) (hA : Marks w A ms) (hn : ms.length ≤ 9223372036854775807) (hp : PredM g lb p w) :
    Calls Try.prog 42 #[.slice A ms.length c, .func (.func g) #[] lb] w fun e w' => e = .returned (.int .i64 (findI p ms)) ∧ Below w.heap.size w w' := by
  have hcall := indexM A c ms p g lb eg w hA hn hp
  generalize findI p ms = r at hcall ⊢
  clear hp hA
  go_enter Try.func42, Try.ntmps42
  go_wp2_with (go_at_call 61; refine hcall.mono ?_; clear hcall; rintro e w1 ⟨rfl, hb1⟩)
  go_ret
  exact ⟨rfl, hb1⟩

set_option maxHeartbeats 400000 in
theorem indexE (A : Option Addr) (c : Nat) (ms : List En) (p : En → Bool) (g : Nat) (lb : Array Value) (eg : ∀ args w, (callFunc g args).run Try.prog w = .ok (.enter g args) w) (w : World) (hA : Entries w A ms) (hn : ms.length ≤ 9223372036854775807) (hp : PredE g lb p w) :
    Calls Try.prog 57 #[.slice A ms.length c, .func (.func g) #[] lb] w fun e w' => e = .returned (.int .i64 (findI p ms)) ∧ Below w.heap.size w w' := by
  go_enter Try.func57, Try.ntmps57
  go_wp2_with fail
  go_loopw [8] (fun i wr => ∃ k : Nat, k ≤ ms.length ∧ i = .int .i64 k ∧ Below w.heap.size w wr ∧ ∀ j (_ : j < ms.length), j < k → p ms[j] = false) (fun i _ => ms.length - (intOf i).toNat)
  case atStart => exact ⟨0, by omega, rfl, Below.refl _ _, fun j _ hj => absurd hj (Nat.not_lt_zero _)⟩
  case round =>
    obtain ⟨k, hk, rfl, hb, hno⟩ := hrel
    have HNO := Lib.hid hno
    clear hno
    by_cases hlt : k < ms.length
    · obtain ⟨b, o, rfl, had, c0, c1, c2⟩ := hA.at_ hlt
      replace c0 := (hb.cell (p := ⟨b, o + k * 3, none⟩) had).trans c0
      replace c1 := (hb.cell (p := ⟨b, o + k * 3 + 1, none⟩) had).trans c1
      replace c2 := (hb.cell (p := ⟨b, o + k * 3 + 2, none⟩) had).trans c2
      have hcall := hp wr ms[k] hb
      have HM := Lib.hid (findI_hit (p := p) hlt)
      have HN := Lib.hid (no_more (p := p) (k := k) HNO.out hlt)
      generalize ms[k] = x at c0 c1 c2 hcall HM HN
      clear hp
      go_wp2_with (go_at_fn g; refine hcall.mono ?_; clear hcall; rintro e w1 ⟨rfl, hb1⟩)
      · have hx : p x = true := by assumption
        go_ret
        exact ⟨by rw [HM.out hx HNO.out]; rfl, hb1⟩
      · have hx : p x = false := by assumption
        go_roundw
        case rel => exact ⟨k + 1, by omega, by go_num, hb1, HN.out hx⟩
        case measure => simp [intOf]; omega
    · obtain rfl : k = ms.length := by omega
      go_wp2_with fail
      go_ret
      exact ⟨by rw [findI_miss fun j hj => HNO.out j hj hj]; rfl, hb⟩

theorem firstE (A : Option Addr) (c : Nat) (ms : List En) (p : En → Bool) (g : Nat) (lb : Array Value) (eg : ∀ args w, (callFunc g args).run Try.prog w = .ok (.enter g args) w) (w : World) (hA : Entries w A ms) (hn : ms.length ≤ 9223372036854775807) (hp : PredE g lb p w) :
    Calls Try.prog 33 #[.slice A ms.length c, .func (.func g) #[] lb] w fun e w' => e = .returned (.int .i64 (findI p ms)) ∧ Below w.heap.size w w' := by
  have hcall := indexE A c ms p g lb eg w hA hn hp
  generalize findI p ms = r at hcall ⊢
  clear hp hA
  go_enter Try.func33, Try.ntmps33
  go_wp2_with (go_at_call 57; refine hcall.mono ?_; clear hcall; rintro e w1 ⟨rfl, hb1⟩)
  go_ret
  exact ⟨rfl, hb1⟩

end Go.Proofs.Ytgdbknbpnlpdnaa
