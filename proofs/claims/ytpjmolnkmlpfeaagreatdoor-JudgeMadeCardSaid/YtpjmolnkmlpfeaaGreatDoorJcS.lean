/- Calls and replies side by side, numbered: plain. -/
import Derived.Test.YtpjmolnkmlpfeaaGreatDoorJQ
import Derived.Test.YtpjmolnkmlpfeaaGreatDoorJV
namespace Go.Proofs.YtpjmolnkmlpfeaaGreatDoor
set_option linter.unusedVariables false
set_option linter.unusedSimpArgs false
set_option maxRecDepth 100000

/-- A call, a reply, with what holds its bytes. -/
structure CaV where
  c : Cal
  v : Value
structure ReV where
  r : Rep
  v : Value
def zReV : ReV := ⟨zRep, nilV⟩
def reL (x : ReV) : List Value := repL x.r x.v
theorem reL_len (x : ReV) : (reL x).length = 9 := rfl
section
variable (lc : List CaV) (lr : List ReV)
end
variable {lc : List CaV} {lr : List ReV}
end Go.Proofs.YtpjmolnkmlpfeaaGreatDoor
