/- The law JudgeLong, walked. -/
import Derived.Test.YtpjmolnkmlpfeaaGreatDoorJuLd
import Derived.Test.YtpjmolnkmlpfeaaGreatDoorJQ
import Derived.Test.YtpjmolnkmlpfeaaGreatDoorJuRm
namespace Go.Proofs.YtpjmolnkmlpfeaaGreatDoor
set_option linter.unusedVariables false
set_option linter.unusedSimpArgs false
set_option maxRecDepth 100000
open Go.RowKit

/-- What a call's numbers are. -/
structure CalOk (C : Cal) : Prop where
  id : IdOk (idOf C)
  seq : C.seq < 18446744073709551616
  at_ : C.at_ < 18446744073709551616
theorem zrep_ok : IdOk (repId zRep) := ⟨by decide, by decide, by decide, by decide⟩
section
variable {P : Program} {op : Oper} {a : Act} {w : World} {K : Act → World → Prop} {Q : Exit → Act → World → Prop}
end
namespace JudgeLong
end JudgeLong
end Go.Proofs.YtpjmolnkmlpfeaaGreatDoor
