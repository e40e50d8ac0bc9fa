/-
  NARROWER THAN 'FOR EVERY INPUT', by the rows' own cells (each row's printed sentence says how): JudgeLong: laid · JudgeMade: laid · JudgeSerial: laid · JudgeNever: laid · JudgePrefix: laid · JudgeDoes: laid.
  DERIVED. THE GIVEN ROWS OF THIS SEAT. 6 by the template 'for every input the law returns true; each argument reads behind the call as it read before'; 0 by the template 'total and deterministic' (their statements: YtpjmolnkmlpfeaaGreatDoorTotals.lean).
  GIVEN WITH THE SEED: the statements are not yours to turn. If you find one false, say at which input.
  Laid BY PROGRAM, IN A SANDBOX (cutbox-rows.mjs): the forced cells as the released guide's own fill.sh prints them over the translation c5b743c066d3a792… (all of the seat's roots in one cut). By AI agents, Wed Nov 11 2026. No macro, syntax, notation, axiom, sorry.
-/
import Derived.Test.YtpjmolnkmlpfeaaGreatDoorChecked
import GoSem.Claim
import GoSem.ClaimJoined
import GoSem.ClaimMapViews
import Derived.JoinedTies
import Derived.KernelRfl
namespace Go.Proofs.YtpjmolnkmlpfeaaGreatDoor
/- THE CELL 'sum', in the pinned program and in every row, IS THE sha256 OF THE DUMP (.gsa) THAT YtpjmolnkmlpfeaaGreatDoorProg.lean LOADS. Nothing in Lean hashes anything: it is a label: what it is worth is what the hold of that sum in a sandbox is worth. -/
noncomputable def Tryz.pinned : Pinned := { name := "ytpjmolnkmlpfeaagreatdoor", sum := "c5b743c066d3a792027ae080c3309d6faac3a3c16254dd68fd6029d4b925c1e0", checked := Tryz.checked }
namespace Rows
def none {H : Type} : Left H := { results := [], args := [] }

/- WHAT THE LISTED PACKAGE-LEVEL VARIABLES READ AS WHEN THE CALL BEGINS. Each datum BY PROGRAM (the guide's laid-datum.mjs) off the statement by which the dump's own 'gosem.cut.vars' lays the variable. In a bare row this is a premise. The card (YtpjmolnkmlpfeaaGreatDoorCards.lean) ties it to the program's text. -/
def laid_bytes_ErrTooLarge {H : Type} : DataW H := .iface "*errors.errorString" (.ptr (.agg [.lit (.string [98, 121, 116, 101, 115, 46, 66, 117, 102, 102, 101, 114, 58, 32, 116, 111, 111, 32, 108, 97, 114, 103, 101])]))

/-- 'scrivenerlaw27.JudgeLong': WHATEVER THE INPUT: true; the input reads as it did. -/
def judgeLongSpec : ChangeSpec := { name := "judgeLong", fn := fun _ => fun
  | [d1, d2] => { results := [.lit (.bool true)], args := [d1, d2] }
  | _ => none }
def judgeLongRow : OpenClaim := { program := "ytpjmolnkmlpfeaagreatdoor", sum := "c5b743c066d3a792027ae080c3309d6faac3a3c16254dd68fd6029d4b925c1e0", func := "scrivener/scrivenerlaw27.JudgeLong", spec := "judgeLong", unfollowed := true, recurses := true, named := ["bytes.ErrTooLarge"], plainKeys := false, apart := false, laid := [("bytes.ErrTooLarge", laid_bytes_ErrTooLarge)] }
def JudgeLongSaid : Prop := judgeLongRow.holds Tryz.pinned (OpenSpec.ofChange judgeLongSpec)

/-- ITS FALSE NEIGHBOUR: 'it returns false'. Refute it at one input. -/
def judgeLongWrong : ChangeSpec := { name := "judgeLong", fn := fun _ => fun
  | [d1, d2] => { results := [.lit (.bool false)], args := [d1, d2] }
  | _ => none }
def JudgeLongWrongFalsely : Prop := judgeLongRow.holds Tryz.pinned (OpenSpec.ofChange judgeLongWrong)

/-- 'scrivenerlaw27.JudgeMade': WHATEVER THE INPUT: true; the input reads as it did. -/
def judgeMadeSpec : ChangeSpec := { name := "judgeMade", fn := fun _ => fun
  | [d] => { results := [.lit (.bool true)], args := [d] }
  | _ => none }
def judgeMadeRow : OpenClaim := { program := "ytpjmolnkmlpfeaagreatdoor", sum := "c5b743c066d3a792027ae080c3309d6faac3a3c16254dd68fd6029d4b925c1e0", func := "scrivener/scrivenerlaw27.JudgeMade", spec := "judgeMade", unfollowed := true, recurses := true, named := ["bytes.ErrTooLarge"], plainKeys := false, apart := false, laid := [("bytes.ErrTooLarge", laid_bytes_ErrTooLarge)] }
def JudgeMadeSaid : Prop := judgeMadeRow.holds Tryz.pinned (OpenSpec.ofChange judgeMadeSpec)

/-- ITS FALSE NEIGHBOUR: 'it returns false'. Refute it at one input. -/
def judgeMadeWrong : ChangeSpec := { name := "judgeMade", fn := fun _ => fun
  | [d] => { results := [.lit (.bool false)], args := [d] }
  | _ => none }
def JudgeMadeWrongFalsely : Prop := judgeMadeRow.holds Tryz.pinned (OpenSpec.ofChange judgeMadeWrong)

/-- 'scrivenerlaw27.JudgeSerial': WHATEVER THE INPUT: true; the input reads as it did. -/
def judgeSerialSpec : ChangeSpec := { name := "judgeSerial", fn := fun _ => fun
  | [d1, d2] => { results := [.lit (.bool true)], args := [d1, d2] }
  | _ => none }
def judgeSerialRow : OpenClaim := { program := "ytpjmolnkmlpfeaagreatdoor", sum := "c5b743c066d3a792027ae080c3309d6faac3a3c16254dd68fd6029d4b925c1e0", func := "scrivener/scrivenerlaw27.JudgeSerial", spec := "judgeSerial", unfollowed := true, recurses := true, named := ["bytes.ErrTooLarge"], plainKeys := false, apart := false, laid := [("bytes.ErrTooLarge", laid_bytes_ErrTooLarge)] }
def JudgeSerialSaid : Prop := judgeSerialRow.holds Tryz.pinned (OpenSpec.ofChange judgeSerialSpec)

/-- ITS FALSE NEIGHBOUR: 'it returns false'. Refute it at one input. -/
def judgeSerialWrong : ChangeSpec := { name := "judgeSerial", fn := fun _ => fun
  | [d1, d2] => { results := [.lit (.bool false)], args := [d1, d2] }
  | _ => none }
def JudgeSerialWrongFalsely : Prop := judgeSerialRow.holds Tryz.pinned (OpenSpec.ofChange judgeSerialWrong)

/-- 'scrivenerlaw27.JudgeNever': WHATEVER THE INPUT: true; the input reads as it did. -/
def judgeNeverSpec : ChangeSpec := { name := "judgeNever", fn := fun _ => fun
  | [d] => { results := [.lit (.bool true)], args := [d] }
  | _ => none }
def judgeNeverRow : OpenClaim := { program := "ytpjmolnkmlpfeaagreatdoor", sum := "c5b743c066d3a792027ae080c3309d6faac3a3c16254dd68fd6029d4b925c1e0", func := "scrivener/scrivenerlaw27.JudgeNever", spec := "judgeNever", unfollowed := true, recurses := true, named := ["bytes.ErrTooLarge"], plainKeys := false, apart := false, laid := [("bytes.ErrTooLarge", laid_bytes_ErrTooLarge)] }
def JudgeNeverSaid : Prop := judgeNeverRow.holds Tryz.pinned (OpenSpec.ofChange judgeNeverSpec)

/-- ITS FALSE NEIGHBOUR: 'it returns false'. Refute it at one input. -/
def judgeNeverWrong : ChangeSpec := { name := "judgeNever", fn := fun _ => fun
  | [d] => { results := [.lit (.bool false)], args := [d] }
  | _ => none }
def JudgeNeverWrongFalsely : Prop := judgeNeverRow.holds Tryz.pinned (OpenSpec.ofChange judgeNeverWrong)

/-- 'scrivenerlaw27.JudgePrefix': WHATEVER THE INPUT: true; the input reads as it did. -/
def judgePrefixSpec : ChangeSpec := { name := "judgePrefix", fn := fun _ => fun
  | [d1, d2] => { results := [.lit (.bool true)], args := [d1, d2] }
  | _ => none }
def judgePrefixRow : OpenClaim := { program := "ytpjmolnkmlpfeaagreatdoor", sum := "c5b743c066d3a792027ae080c3309d6faac3a3c16254dd68fd6029d4b925c1e0", func := "scrivener/scrivenerlaw27.JudgePrefix", spec := "judgePrefix", unfollowed := true, recurses := true, named := ["bytes.ErrTooLarge"], plainKeys := false, apart := false, laid := [("bytes.ErrTooLarge", laid_bytes_ErrTooLarge)] }
def JudgePrefixSaid : Prop := judgePrefixRow.holds Tryz.pinned (OpenSpec.ofChange judgePrefixSpec)

/-- ITS FALSE NEIGHBOUR: 'it returns false'. Refute it at one input. -/
def judgePrefixWrong : ChangeSpec := { name := "judgePrefix", fn := fun _ => fun
  | [d1, d2] => { results := [.lit (.bool false)], args := [d1, d2] }
  | _ => none }
def JudgePrefixWrongFalsely : Prop := judgePrefixRow.holds Tryz.pinned (OpenSpec.ofChange judgePrefixWrong)

/-- 'scrivenerlaw27.JudgeDoes': WHATEVER THE INPUT: true; the input reads as it did. -/
def judgeDoesSpec : ChangeSpec := { name := "judgeDoes", fn := fun _ => fun
  | [d1, d2, d3, d4] => { results := [.lit (.bool true)], args := [d1, d2, d3, d4] }
  | _ => none }
def judgeDoesRow : OpenClaim := { program := "ytpjmolnkmlpfeaagreatdoor", sum := "c5b743c066d3a792027ae080c3309d6faac3a3c16254dd68fd6029d4b925c1e0", func := "scrivener/scrivenerlaw27.JudgeDoes", spec := "judgeDoes", unfollowed := true, recurses := true, named := ["bytes.ErrTooLarge"], plainKeys := false, apart := false, laid := [("bytes.ErrTooLarge", laid_bytes_ErrTooLarge)] }
def JudgeDoesSaid : Prop := judgeDoesRow.holds Tryz.pinned (OpenSpec.ofChange judgeDoesSpec)

/-- ITS FALSE NEIGHBOUR: 'it returns false'. Refute it at one input. -/
def judgeDoesWrong : ChangeSpec := { name := "judgeDoes", fn := fun _ => fun
  | [d1, d2, d3, d4] => { results := [.lit (.bool false)], args := [d1, d2, d3, d4] }
  | _ => none }
def JudgeDoesWrongFalsely : Prop := judgeDoesRow.holds Tryz.pinned (OpenSpec.ofChange judgeDoesWrong)

/- THE SECOND FORM. 'bulk': how many values and letters a reading holds, each counted each time it is reached (what is shared counts as often as it is met; a slice's spare places count too). A statement '..UptoSaid' is the law's where the arguments, and the package variables that the reading takes, are together of bulk at most 1048576: NARROWER than '..Said'. Prove '..Said' where nothing that the law and all that it calls make is longer than what came in: it says more and counts as full. Else prove '..UptoSaid'. A law counts once. -/
mutual
def uptoBulk {H : Type} : DataW H → Nat
  | .lit (.string bytes) => bytes.length + 1
  | .lit _ => 1
  | .nil => 1
  | .ptr d => uptoBulk d + 1
  | .slice elems spare => uptoBulkAll elems + uptoBulkAll spare + 1
  | .agg parts => uptoBulkAll parts + 1
  | .iface _ d => uptoBulk d + 1
  | .map entries => uptoBulkEntries entries + 1
  | .held _ => 1
def uptoBulkAll {H : Type} : List (DataW H) → Nat
  | [] => 0
  | d :: r => uptoBulk d + uptoBulkAll r
def uptoBulkEntries {H : Type} : List (Lit × DataW H) → Nat
  | [] => 0
  | x :: r => uptoBulkEntry x + uptoBulkEntries r
def uptoBulkEntry {H : Type} : Lit × DataW H → Nat
  | (.string bytes, d) => bytes.length + uptoBulk d + 1
  | (_, d) => uptoBulk d + 1
 end
def uptoSmall : (H : Type) → List (DataW H) → Bool := fun _ ds => decide (uptoBulkAll ds ≤ 1048576)
def OpenSpec.upto (s : _root_.Go.ChangeSpec) : _root_.Go.OpenSpec := { _root_.Go.OpenSpec.ofChange s with cond := some uptoSmall }

/-- 'scrivenerlaw27.JudgeLong', WHERE WHAT IT READS IS OF BULK AT MOST 1048576: true; the input reads as it did. -/
def judgeLongUptoRow : OpenClaim := { program := "ytpjmolnkmlpfeaagreatdoor", sum := "c5b743c066d3a792027ae080c3309d6faac3a3c16254dd68fd6029d4b925c1e0", func := "scrivener/scrivenerlaw27.JudgeLong", spec := "judgeLong", unfollowed := true, recurses := true, named := ["bytes.ErrTooLarge"], plainKeys := false, apart := false, laid := [("bytes.ErrTooLarge", laid_bytes_ErrTooLarge)], narrowed := true }
def JudgeLongUptoSaid : Prop := judgeLongUptoRow.holds Tryz.pinned (OpenSpec.upto judgeLongSpec)

/-- 'scrivenerlaw27.JudgeMade', WHERE WHAT IT READS IS OF BULK AT MOST 1048576: true; the input reads as it did. -/
def judgeMadeUptoRow : OpenClaim := { program := "ytpjmolnkmlpfeaagreatdoor", sum := "c5b743c066d3a792027ae080c3309d6faac3a3c16254dd68fd6029d4b925c1e0", func := "scrivener/scrivenerlaw27.JudgeMade", spec := "judgeMade", unfollowed := true, recurses := true, named := ["bytes.ErrTooLarge"], plainKeys := false, apart := false, laid := [("bytes.ErrTooLarge", laid_bytes_ErrTooLarge)], narrowed := true }
def JudgeMadeUptoSaid : Prop := judgeMadeUptoRow.holds Tryz.pinned (OpenSpec.upto judgeMadeSpec)

/-- 'scrivenerlaw27.JudgeSerial', WHERE WHAT IT READS IS OF BULK AT MOST 1048576: true; the input reads as it did. -/
def judgeSerialUptoRow : OpenClaim := { program := "ytpjmolnkmlpfeaagreatdoor", sum := "c5b743c066d3a792027ae080c3309d6faac3a3c16254dd68fd6029d4b925c1e0", func := "scrivener/scrivenerlaw27.JudgeSerial", spec := "judgeSerial", unfollowed := true, recurses := true, named := ["bytes.ErrTooLarge"], plainKeys := false, apart := false, laid := [("bytes.ErrTooLarge", laid_bytes_ErrTooLarge)], narrowed := true }
def JudgeSerialUptoSaid : Prop := judgeSerialUptoRow.holds Tryz.pinned (OpenSpec.upto judgeSerialSpec)

/-- 'scrivenerlaw27.JudgeNever', WHERE WHAT IT READS IS OF BULK AT MOST 1048576: true; the input reads as it did. -/
def judgeNeverUptoRow : OpenClaim := { program := "ytpjmolnkmlpfeaagreatdoor", sum := "c5b743c066d3a792027ae080c3309d6faac3a3c16254dd68fd6029d4b925c1e0", func := "scrivener/scrivenerlaw27.JudgeNever", spec := "judgeNever", unfollowed := true, recurses := true, named := ["bytes.ErrTooLarge"], plainKeys := false, apart := false, laid := [("bytes.ErrTooLarge", laid_bytes_ErrTooLarge)], narrowed := true }
def JudgeNeverUptoSaid : Prop := judgeNeverUptoRow.holds Tryz.pinned (OpenSpec.upto judgeNeverSpec)

/-- 'scrivenerlaw27.JudgePrefix', WHERE WHAT IT READS IS OF BULK AT MOST 1048576: true; the input reads as it did. -/
def judgePrefixUptoRow : OpenClaim := { program := "ytpjmolnkmlpfeaagreatdoor", sum := "c5b743c066d3a792027ae080c3309d6faac3a3c16254dd68fd6029d4b925c1e0", func := "scrivener/scrivenerlaw27.JudgePrefix", spec := "judgePrefix", unfollowed := true, recurses := true, named := ["bytes.ErrTooLarge"], plainKeys := false, apart := false, laid := [("bytes.ErrTooLarge", laid_bytes_ErrTooLarge)], narrowed := true }
def JudgePrefixUptoSaid : Prop := judgePrefixUptoRow.holds Tryz.pinned (OpenSpec.upto judgePrefixSpec)

/-- 'scrivenerlaw27.JudgeDoes', WHERE WHAT IT READS IS OF BULK AT MOST 1048576: true; the input reads as it did. -/
def judgeDoesUptoRow : OpenClaim := { program := "ytpjmolnkmlpfeaagreatdoor", sum := "c5b743c066d3a792027ae080c3309d6faac3a3c16254dd68fd6029d4b925c1e0", func := "scrivener/scrivenerlaw27.JudgeDoes", spec := "judgeDoes", unfollowed := true, recurses := true, named := ["bytes.ErrTooLarge"], plainKeys := false, apart := false, laid := [("bytes.ErrTooLarge", laid_bytes_ErrTooLarge)], narrowed := true }
def JudgeDoesUptoSaid : Prop := judgeDoesUptoRow.holds Tryz.pinned (OpenSpec.upto judgeDoesSpec)

end Rows
end Go.Proofs.YtpjmolnkmlpfeaaGreatDoor
