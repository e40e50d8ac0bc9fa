/- Rows of calls, of replies: arguments opened. -/
import Derived.Test.YtpjmolnkmlpfeaaGreatDoorOpenJu
import Derived.Test.YtpjmolnkmlpfeaaGreatDoorJuLk
namespace Go.Proofs.YtpjmolnkmlpfeaaGreatDoor
set_option linter.unusedVariables false
set_option linter.unusedSimpArgs false
set_option maxRecDepth 100000
open Go.ChangeShapes Go.WideShapes Go.ChangeAt Go.RowKit Go.Deep

section
variable {H : Type} {enc : TypeId × Value → H} {W : World} {base : Nat} {spare : Nat → Bool} {held : Bool} {r : Reach} {b0 : Nat} {v : Value} {d : DataW H} {p : List MemPlace}
theorem open_cals (hv : Value.okWide Tryz.prog W r b0 55 v) (h : DataW.Trod enc Tryz.prog W base spare held 55 v d p) (hsz : ∀ y ∈ d.weights Tryz.prog 55, y ≤ reachBytes) :
    ∃ (A : Option Addr) (l : List CaV) (c : Nat), v = .slice A l.length c ∧ Reads W 9 A l.length (l.flatMap caL) ∧ l.length ≤ c ∧ c ≤ 9223372036854775807 ∧ (∀ x ∈ l, CaIn W x) :=
  open_rows_sized (K := 9) caL (CaIn W) (by decide) caL_len Tryz.underlying55 (by kernel_rfl) (fun n cs x hx hw => by
    obtain ⟨C, u, h1, h2, h3, h4⟩ := call_trodJ hx hw
    exact ⟨⟨C, u⟩, h1, h2, h3, h4⟩) zCaV hv h hsz
theorem open_reps (hv : Value.okWide Tryz.prog W r b0 56 v) (h : DataW.Trod enc Tryz.prog W base spare held 56 v d p) (hsz : ∀ y ∈ d.weights Tryz.prog 56, y ≤ reachBytes) :
    ∃ (A : Option Addr) (l : List ReV) (c : Nat), v = .slice A l.length c ∧ Reads W 9 A l.length (l.flatMap reL) ∧ l.length ≤ c ∧ c ≤ 9223372036854775807 ∧ (∀ x ∈ l, ReIn W x) :=
  open_rows_sized (K := 9) reL (ReIn W) (by decide) reL_len Tryz.underlying56 (by kernel_rfl) (fun n cs x hx hw => by
    obtain ⟨R, u, h1, h2, h3, h4⟩ := reply_trodJ hx hw
    exact ⟨⟨R, u⟩, h1, h2, h3, h4⟩) zReV hv h hsz
end
end Go.Proofs.YtpjmolnkmlpfeaaGreatDoor
