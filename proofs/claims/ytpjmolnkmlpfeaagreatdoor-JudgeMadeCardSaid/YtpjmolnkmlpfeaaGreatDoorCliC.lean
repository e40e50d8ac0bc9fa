/- A client's calls: own, with, ask, next, after, mine. -/
import Derived.Test.YtpjmolnkmlpfeaaGreatDoorJR
namespace Go.Proofs.YtpjmolnkmlpfeaaGreatDoor
set_option linter.unusedVariables false
set_option linter.unusedSimpArgs false
set_option maxRecDepth 100000
open Go.RowKit

end Go.Proofs.YtpjmolnkmlpfeaaGreatDoor
