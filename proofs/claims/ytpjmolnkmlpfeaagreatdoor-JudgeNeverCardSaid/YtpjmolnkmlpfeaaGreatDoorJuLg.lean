/- The law JudgePrefix, walked. -/
import Derived.Test.YtpjmolnkmlpfeaaGreatDoorJuLf
namespace Go.Proofs.YtpjmolnkmlpfeaaGreatDoor
set_option linter.unusedVariables false
set_option linter.unusedSimpArgs false
set_option maxRecDepth 100000
open Go.RowKit

theorem slh_in {w : World} {A : Option Addr} {l : List NtV} {c : Nat} (hr : Reads w 19 A l.length (l.flatMap ntL)) (h1 : l.length ≤ c) (h2 : c ≤ 9223372036854775807) (hin : ∀ x ∈ l, NtIn w x) : SlH (fun _ => True) w (.slice A l.length c) (l.map (·.n)) :=
  ⟨A, c, l, rfl, rfl, hr, fun x hx => ⟨(hin x hx).vc, (hin x hx).vr⟩, h1, h2, fun _ _ _ => trivial⟩
namespace JudgePrefix
end JudgePrefix
end Go.Proofs.YtpjmolnkmlpfeaaGreatDoor
