/- The law WireBack, walked. -/
import Derived.Test.YtdckdjkkaangmaaDoorWireI2
import Derived.Test.YtdckdjkkaangmaaDoorOpenPk
namespace Go.Proofs.YtdckdjkkaangmaaDoor
set_option linter.unusedVariables false
set_option linter.unusedSimpArgs false
set_option maxRecDepth 100000
open Go.RowKit

/-- How much is gone through. -/
def lenP (P : Pk) : Nat := (P.t 6).length + (P.t 18).length + (P.t 27).length + (P.t 37).length + (P.t 46).length + (P.t 55).length + 8 * P.k.length
theorem PkA.long {w0 : World} {cs : Array Value} {P : Pk} (h : PkA w0 cs P) (w : World) : Calls Tryd.prog 12 #[.agg cs] w fun e w' => e = .returned (.bool (decide (40000 < lenP P))) ∧ Below w.heap.size w w' :=
  long_any (n := fun o => (P.t o).length) (m := P.k.length) (fun o ho => by obtain ⟨A, c, q1, _, _, _, q5⟩ := h.txts o ho; exact ⟨A, c, q1, q5⟩) (by obtain ⟨A, c, q1, _, _, _, q5⟩ := h.keep; exact ⟨A, c, q1, q5⟩)
end Go.Proofs.YtdckdjkkaangmaaDoor
