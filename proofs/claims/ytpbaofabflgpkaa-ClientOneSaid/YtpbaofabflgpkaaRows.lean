/-
  No cell of these rows narrows 'for every input' (looked for: loops, veiled, ifaces, maps, wideKeys, modest, calm, conditions, laid).
  DERIVED. THE GIVEN ROWS OF THIS SEAT. 3 by the template 'for every input the law returns true; each argument reads behind the call as it read before'; 0 by the template 'total and deterministic' (their statements: YtpbaofabflgpkaaTotals.lean).
  GIVEN WITH THE SEED: the statements are not yours to turn. If you find one false, say at which input.
  Laid BY PROGRAM, IN A SANDBOX (cutbox-rows.mjs): the forced cells as the released guide's own fill.sh prints them over the translation aa39559c431fc750… (all of the seat's roots in one cut). By AI agents, Wed Nov 11 2026. No macro, syntax, notation, axiom, sorry.
-/
import Derived.Test.YtpbaofabflgpkaaChecked
import GoSem.Claim
import GoSem.ClaimJoined
import GoSem.ClaimMapViews
import Derived.JoinedTies
import Derived.KernelRfl
namespace Go.Proofs.Ytpbaofabflgpkaa
/- THE CELL 'sum', in the pinned program and in every row, IS THE sha256 OF THE DUMP (.gsa) THAT YtpbaofabflgpkaaProg.lean LOADS. Nothing in Lean hashes anything: it is a label: what it is worth is what the hold of that sum in a sandbox is worth. -/
noncomputable def Try.pinned : Pinned := { name := "ytpbaofabflgpkaa", sum := "aa39559c431fc7503d589a1126c0729584365fa17ad0975f9a3e127ee0e5cec9", checked := Try.checked }
namespace Rows
def none {H : Type} : Left H := { results := [], args := [] }

/-- 'scrivenerlaw23.ClientOne': WHATEVER THE INPUT: true; the input reads as it did. -/
def clientOneSpec : ChangeSpec := { name := "clientOne", fn := fun _ => fun
  | [d1, d2, d3, d4] => { results := [.lit (.bool true)], args := [d1, d2, d3, d4] }
  | _ => none }
def clientOneRow : OpenClaim := { program := "ytpbaofabflgpkaa", sum := "aa39559c431fc7503d589a1126c0729584365fa17ad0975f9a3e127ee0e5cec9", func := "scrivener/scrivenerlaw23.ClientOne", spec := "clientOne", unfollowed := true, recurses := true, apart := false }
def ClientOneSaid : Prop := clientOneRow.holds Try.pinned (OpenSpec.ofChange clientOneSpec)

/-- ITS FALSE NEIGHBOUR: 'it returns false'. Refute it at one input. -/
def clientOneWrong : ChangeSpec := { name := "clientOne", fn := fun _ => fun
  | [d1, d2, d3, d4] => { results := [.lit (.bool false)], args := [d1, d2, d3, d4] }
  | _ => none }
def ClientOneWrongFalsely : Prop := clientOneRow.holds Try.pinned (OpenSpec.ofChange clientOneWrong)

/-- 'scrivenerlaw23.ClientGoes': WHATEVER THE INPUT: true; the input reads as it did. -/
def clientGoesSpec : ChangeSpec := { name := "clientGoes", fn := fun _ => fun
  | [d1, d2, d3, d4, d5] => { results := [.lit (.bool true)], args := [d1, d2, d3, d4, d5] }
  | _ => none }
def clientGoesRow : OpenClaim := { program := "ytpbaofabflgpkaa", sum := "aa39559c431fc7503d589a1126c0729584365fa17ad0975f9a3e127ee0e5cec9", func := "scrivener/scrivenerlaw23.ClientGoes", spec := "clientGoes", unfollowed := true, recurses := true, apart := false }
def ClientGoesSaid : Prop := clientGoesRow.holds Try.pinned (OpenSpec.ofChange clientGoesSpec)

/-- ITS FALSE NEIGHBOUR: 'it returns false'. Refute it at one input. -/
def clientGoesWrong : ChangeSpec := { name := "clientGoes", fn := fun _ => fun
  | [d1, d2, d3, d4, d5] => { results := [.lit (.bool false)], args := [d1, d2, d3, d4, d5] }
  | _ => none }
def ClientGoesWrongFalsely : Prop := clientGoesRow.holds Try.pinned (OpenSpec.ofChange clientGoesWrong)

/-- 'scrivenerlaw23.ClientStale': WHATEVER THE INPUT: true; the input reads as it did. -/
def clientStaleSpec : ChangeSpec := { name := "clientStale", fn := fun _ => fun
  | [d1, d2, d3, d4, d5, d6, d7] => { results := [.lit (.bool true)], args := [d1, d2, d3, d4, d5, d6, d7] }
  | _ => none }
def clientStaleRow : OpenClaim := { program := "ytpbaofabflgpkaa", sum := "aa39559c431fc7503d589a1126c0729584365fa17ad0975f9a3e127ee0e5cec9", func := "scrivener/scrivenerlaw23.ClientStale", spec := "clientStale", unfollowed := true, recurses := true, apart := false }
def ClientStaleSaid : Prop := clientStaleRow.holds Try.pinned (OpenSpec.ofChange clientStaleSpec)

/-- ITS FALSE NEIGHBOUR: 'it returns false'. Refute it at one input. -/
def clientStaleWrong : ChangeSpec := { name := "clientStale", fn := fun _ => fun
  | [d1, d2, d3, d4, d5, d6, d7] => { results := [.lit (.bool false)], args := [d1, d2, d3, d4, d5, d6, d7] }
  | _ => none }
def ClientStaleWrongFalsely : Prop := clientStaleRow.holds Try.pinned (OpenSpec.ofChange clientStaleWrong)

/- THE SECOND FORM. 'bulk': how many values and letters a reading holds, each counted each time it is reached (what is shared counts as often as it is met; a slice's spare places count too). A statement '..UptoSaid' is the law's where the arguments, and the package variables that the reading takes, are together of bulk at most 1048576: NARROWER than '..Said'. Prove '..Said' where nothing that the law and all that it calls make is longer than what came in: it says more and counts as full. Else prove '..UptoSaid'. A law counts once. -/
mutual
def uptoBulk {H : Type} : DataW H → Nat
  | .lit (.string bytes) => bytes.length + 1
  | .lit _ => 1
  | .nil => 1
  | .ptr d => uptoBulk d + 1
  | .slice elems spare => uptoBulkAll elems + uptoBulkAll spare + 1
  | .agg parts => uptoBulkAll parts + 1
  | .iface _ d => uptoBulk d + 1
  | .map entries => uptoBulkEntries entries + 1
  | .held _ => 1
def uptoBulkAll {H : Type} : List (DataW H) → Nat
  | [] => 0
  | d :: r => uptoBulk d + uptoBulkAll r
def uptoBulkEntries {H : Type} : List (Lit × DataW H) → Nat
  | [] => 0
  | x :: r => uptoBulkEntry x + uptoBulkEntries r
def uptoBulkEntry {H : Type} : Lit × DataW H → Nat
  | (.string bytes, d) => bytes.length + uptoBulk d + 1
  | (_, d) => uptoBulk d + 1
 end
def uptoSmall : (H : Type) → List (DataW H) → Bool := fun _ ds => decide (uptoBulkAll ds ≤ 1048576)
def OpenSpec.upto (s : _root_.Go.ChangeSpec) : _root_.Go.OpenSpec := { _root_.Go.OpenSpec.ofChange s with cond := some uptoSmall }

/-- 'scrivenerlaw23.ClientOne', WHERE WHAT IT READS IS OF BULK AT MOST 1048576: true; the input reads as it did. -/
def clientOneUptoRow : OpenClaim := { program := "ytpbaofabflgpkaa", sum := "aa39559c431fc7503d589a1126c0729584365fa17ad0975f9a3e127ee0e5cec9", func := "scrivener/scrivenerlaw23.ClientOne", spec := "clientOne", unfollowed := true, recurses := true, apart := false, narrowed := true }
def ClientOneUptoSaid : Prop := clientOneUptoRow.holds Try.pinned (OpenSpec.upto clientOneSpec)

/-- 'scrivenerlaw23.ClientGoes', WHERE WHAT IT READS IS OF BULK AT MOST 1048576: true; the input reads as it did. -/
def clientGoesUptoRow : OpenClaim := { program := "ytpbaofabflgpkaa", sum := "aa39559c431fc7503d589a1126c0729584365fa17ad0975f9a3e127ee0e5cec9", func := "scrivener/scrivenerlaw23.ClientGoes", spec := "clientGoes", unfollowed := true, recurses := true, apart := false, narrowed := true }
def ClientGoesUptoSaid : Prop := clientGoesUptoRow.holds Try.pinned (OpenSpec.upto clientGoesSpec)

/-- 'scrivenerlaw23.ClientStale', WHERE WHAT IT READS IS OF BULK AT MOST 1048576: true; the input reads as it did. -/
def clientStaleUptoRow : OpenClaim := { program := "ytpbaofabflgpkaa", sum := "aa39559c431fc7503d589a1126c0729584365fa17ad0975f9a3e127ee0e5cec9", func := "scrivener/scrivenerlaw23.ClientStale", spec := "clientStale", unfollowed := true, recurses := true, apart := false, narrowed := true }
def ClientStaleUptoSaid : Prop := clientStaleUptoRow.holds Try.pinned (OpenSpec.upto clientStaleSpec)

end Rows
end Go.Proofs.Ytpbaofabflgpkaa
