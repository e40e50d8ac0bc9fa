/-
  No cell of these rows narrows 'for every input' (looked for: loops, veiled, ifaces, maps, wideKeys, modest, calm, conditions, laid).
  DERIVED. THE GIVEN ROWS OF THIS SEAT. 6 by the template 'for every input the law returns true; each argument reads behind the call as it read before'; 0 by the template 'total and deterministic' (their statements: YtggdkhgpkedbkaaTotals.lean).
  GIVEN WITH THE SEED: the statements are not yours to turn. If you find one false, say at which input.
  Laid BY PROGRAM, IN A SANDBOX (cutbox-rows.mjs): the forced cells as the released guide's own fill.sh prints them over the translation 43f70cb2fed99ad4… (all of the seat's roots in one cut). By AI agents, Wed Nov 11 2026. No macro, syntax, notation, axiom, sorry.
-/
import Derived.Test.YtggdkhgpkedbkaaChecked
import GoSem.Claim
import GoSem.ClaimJoined
import GoSem.ClaimMapViews
import Derived.JoinedTies
import Derived.KernelRfl
namespace Go.Proofs.Ytggdkhgpkedbkaa
/- THE CELL 'sum', in the pinned program and in every row, IS THE sha256 OF THE DUMP (.gsa) THAT YtggdkhgpkedbkaaProg.lean LOADS. Nothing in Lean hashes anything: it is a label: what it is worth is what the hold of that sum in a sandbox is worth. -/
noncomputable def Try.pinned : Pinned := { name := "ytggdkhgpkedbkaa", sum := "43f70cb2fed99ad439e0a4860be4b55bd7fa7ade44bfdfacc3c9dc72edd84b3e", checked := Try.checked }
namespace Rows
def none {H : Type} : Left H := { results := [], args := [] }

/-- 'scrivenerlaw04.DiskSwaps': WHATEVER THE INPUT: true; the input reads as it did. -/
def diskSwapsSpec : ChangeSpec := { name := "diskSwaps", fn := fun _ => fun
  | [d1, d2, d3, d4, d5, d6] => { results := [.lit (.bool true)], args := [d1, d2, d3, d4, d5, d6] }
  | _ => none }
def diskSwapsRow : OpenClaim := { program := "ytggdkhgpkedbkaa", sum := "43f70cb2fed99ad439e0a4860be4b55bd7fa7ade44bfdfacc3c9dc72edd84b3e", func := "scrivener/scrivenerlaw04.DiskSwaps", spec := "diskSwaps", unfollowed := true, recurses := true, apart := false }
def DiskSwapsSaid : Prop := diskSwapsRow.holds Try.pinned (OpenSpec.ofChange diskSwapsSpec)

/-- ITS FALSE NEIGHBOUR: 'it returns false'. Refute it at one input. -/
def diskSwapsWrong : ChangeSpec := { name := "diskSwaps", fn := fun _ => fun
  | [d1, d2, d3, d4, d5, d6] => { results := [.lit (.bool false)], args := [d1, d2, d3, d4, d5, d6] }
  | _ => none }
def DiskSwapsWrongFalsely : Prop := diskSwapsRow.holds Try.pinned (OpenSpec.ofChange diskSwapsWrong)

/-- 'scrivenerlaw04.DiskLasts': WHATEVER THE INPUT: true; the input reads as it did. -/
def diskLastsSpec : ChangeSpec := { name := "diskLasts", fn := fun _ => fun
  | [d1, d2, d3, d4, d5] => { results := [.lit (.bool true)], args := [d1, d2, d3, d4, d5] }
  | _ => none }
def diskLastsRow : OpenClaim := { program := "ytggdkhgpkedbkaa", sum := "43f70cb2fed99ad439e0a4860be4b55bd7fa7ade44bfdfacc3c9dc72edd84b3e", func := "scrivener/scrivenerlaw04.DiskLasts", spec := "diskLasts", unfollowed := true, recurses := true, apart := false }
def DiskLastsSaid : Prop := diskLastsRow.holds Try.pinned (OpenSpec.ofChange diskLastsSpec)

/-- ITS FALSE NEIGHBOUR: 'it returns false'. Refute it at one input. -/
def diskLastsWrong : ChangeSpec := { name := "diskLasts", fn := fun _ => fun
  | [d1, d2, d3, d4, d5] => { results := [.lit (.bool false)], args := [d1, d2, d3, d4, d5] }
  | _ => none }
def DiskLastsWrongFalsely : Prop := diskLastsRow.holds Try.pinned (OpenSpec.ofChange diskLastsWrong)

/-- 'scrivenerlaw04.DiskBounds': WHATEVER THE INPUT: true; the input reads as it did. -/
def diskBoundsSpec : ChangeSpec := { name := "diskBounds", fn := fun _ => fun
  | [d1, d2] => { results := [.lit (.bool true)], args := [d1, d2] }
  | _ => none }
def diskBoundsRow : OpenClaim := { program := "ytggdkhgpkedbkaa", sum := "43f70cb2fed99ad439e0a4860be4b55bd7fa7ade44bfdfacc3c9dc72edd84b3e", func := "scrivener/scrivenerlaw04.DiskBounds", spec := "diskBounds", unfollowed := true, recurses := true, apart := false }
def DiskBoundsSaid : Prop := diskBoundsRow.holds Try.pinned (OpenSpec.ofChange diskBoundsSpec)

/-- ITS FALSE NEIGHBOUR: 'it returns false'. Refute it at one input. -/
def diskBoundsWrong : ChangeSpec := { name := "diskBounds", fn := fun _ => fun
  | [d1, d2] => { results := [.lit (.bool false)], args := [d1, d2] }
  | _ => none }
def DiskBoundsWrongFalsely : Prop := diskBoundsRow.holds Try.pinned (OpenSpec.ofChange diskBoundsWrong)

/-- 'scrivenerlaw04.DiskPlays': WHATEVER THE INPUT: true; the input reads as it did. -/
def diskPlaysSpec : ChangeSpec := { name := "diskPlays", fn := fun _ => fun
  | [d1, d2] => { results := [.lit (.bool true)], args := [d1, d2] }
  | _ => none }
def diskPlaysRow : OpenClaim := { program := "ytggdkhgpkedbkaa", sum := "43f70cb2fed99ad439e0a4860be4b55bd7fa7ade44bfdfacc3c9dc72edd84b3e", func := "scrivener/scrivenerlaw04.DiskPlays", spec := "diskPlays", unfollowed := true, recurses := true, apart := false }
def DiskPlaysSaid : Prop := diskPlaysRow.holds Try.pinned (OpenSpec.ofChange diskPlaysSpec)

/-- ITS FALSE NEIGHBOUR: 'it returns false'. Refute it at one input. -/
def diskPlaysWrong : ChangeSpec := { name := "diskPlays", fn := fun _ => fun
  | [d1, d2] => { results := [.lit (.bool false)], args := [d1, d2] }
  | _ => none }
def DiskPlaysWrongFalsely : Prop := diskPlaysRow.holds Try.pinned (OpenSpec.ofChange diskPlaysWrong)

/-- 'scrivenerlaw04.DiskNobody': WHATEVER THE INPUT: true; the input reads as it did. -/
def diskNobodySpec : ChangeSpec := { name := "diskNobody", fn := fun _ => fun
  | [d] => { results := [.lit (.bool true)], args := [d] }
  | _ => none }
def diskNobodyRow : OpenClaim := { program := "ytggdkhgpkedbkaa", sum := "43f70cb2fed99ad439e0a4860be4b55bd7fa7ade44bfdfacc3c9dc72edd84b3e", func := "scrivener/scrivenerlaw04.DiskNobody", spec := "diskNobody", unfollowed := true, recurses := true, apart := false }
def DiskNobodySaid : Prop := diskNobodyRow.holds Try.pinned (OpenSpec.ofChange diskNobodySpec)

/-- ITS FALSE NEIGHBOUR: 'it returns false'. Refute it at one input. -/
def diskNobodyWrong : ChangeSpec := { name := "diskNobody", fn := fun _ => fun
  | [d] => { results := [.lit (.bool false)], args := [d] }
  | _ => none }
def DiskNobodyWrongFalsely : Prop := diskNobodyRow.holds Try.pinned (OpenSpec.ofChange diskNobodyWrong)

/-- 'scrivenerlaw04.DiskCopies': WHATEVER THE INPUT: true; the input reads as it did. -/
def diskCopiesSpec : ChangeSpec := { name := "diskCopies", fn := fun _ => fun
  | [d1, d2, d3] => { results := [.lit (.bool true)], args := [d1, d2, d3] }
  | _ => none }
def diskCopiesRow : OpenClaim := { program := "ytggdkhgpkedbkaa", sum := "43f70cb2fed99ad439e0a4860be4b55bd7fa7ade44bfdfacc3c9dc72edd84b3e", func := "scrivener/scrivenerlaw04.DiskCopies", spec := "diskCopies", unfollowed := true, recurses := true, apart := false }
def DiskCopiesSaid : Prop := diskCopiesRow.holds Try.pinned (OpenSpec.ofChange diskCopiesSpec)

/-- ITS FALSE NEIGHBOUR: 'it returns false'. Refute it at one input. -/
def diskCopiesWrong : ChangeSpec := { name := "diskCopies", fn := fun _ => fun
  | [d1, d2, d3] => { results := [.lit (.bool false)], args := [d1, d2, d3] }
  | _ => none }
def DiskCopiesWrongFalsely : Prop := diskCopiesRow.holds Try.pinned (OpenSpec.ofChange diskCopiesWrong)

/- THE SECOND FORM. 'bulk': how many values and letters a reading holds, each counted each time it is reached (what is shared counts as often as it is met; a slice's spare places count too). A statement '..UptoSaid' is the law's where the arguments, and the package variables that the reading takes, are together of bulk at most 1048576: NARROWER than '..Said'. Prove '..Said' where nothing that the law and all that it calls make is longer than what came in: it says more and counts as full. Else prove '..UptoSaid'. A law counts once. -/
mutual
def uptoBulk {H : Type} : DataW H → Nat
  | .lit (.string bytes) => bytes.length + 1
  | .lit _ => 1
  | .nil => 1
  | .ptr d => uptoBulk d + 1
  | .slice elems spare => uptoBulkAll elems + uptoBulkAll spare + 1
  | .agg parts => uptoBulkAll parts + 1
  | .iface _ d => uptoBulk d + 1
  | .map entries => uptoBulkEntries entries + 1
  | .held _ => 1
def uptoBulkAll {H : Type} : List (DataW H) → Nat
  | [] => 0
  | d :: r => uptoBulk d + uptoBulkAll r
def uptoBulkEntries {H : Type} : List (Lit × DataW H) → Nat
  | [] => 0
  | x :: r => uptoBulkEntry x + uptoBulkEntries r
def uptoBulkEntry {H : Type} : Lit × DataW H → Nat
  | (.string bytes, d) => bytes.length + uptoBulk d + 1
  | (_, d) => uptoBulk d + 1
 end
def uptoSmall : (H : Type) → List (DataW H) → Bool := fun _ ds => decide (uptoBulkAll ds ≤ 1048576)
def OpenSpec.upto (s : _root_.Go.ChangeSpec) : _root_.Go.OpenSpec := { _root_.Go.OpenSpec.ofChange s with cond := some uptoSmall }

/-- 'scrivenerlaw04.DiskSwaps', WHERE WHAT IT READS IS OF BULK AT MOST 1048576: true; the input reads as it did. -/
def diskSwapsUptoRow : OpenClaim := { program := "ytggdkhgpkedbkaa", sum := "43f70cb2fed99ad439e0a4860be4b55bd7fa7ade44bfdfacc3c9dc72edd84b3e", func := "scrivener/scrivenerlaw04.DiskSwaps", spec := "diskSwaps", unfollowed := true, recurses := true, apart := false, narrowed := true }
def DiskSwapsUptoSaid : Prop := diskSwapsUptoRow.holds Try.pinned (OpenSpec.upto diskSwapsSpec)

/-- 'scrivenerlaw04.DiskLasts', WHERE WHAT IT READS IS OF BULK AT MOST 1048576: true; the input reads as it did. -/
def diskLastsUptoRow : OpenClaim := { program := "ytggdkhgpkedbkaa", sum := "43f70cb2fed99ad439e0a4860be4b55bd7fa7ade44bfdfacc3c9dc72edd84b3e", func := "scrivener/scrivenerlaw04.DiskLasts", spec := "diskLasts", unfollowed := true, recurses := true, apart := false, narrowed := true }
def DiskLastsUptoSaid : Prop := diskLastsUptoRow.holds Try.pinned (OpenSpec.upto diskLastsSpec)

/-- 'scrivenerlaw04.DiskBounds', WHERE WHAT IT READS IS OF BULK AT MOST 1048576: true; the input reads as it did. -/
def diskBoundsUptoRow : OpenClaim := { program := "ytggdkhgpkedbkaa", sum := "43f70cb2fed99ad439e0a4860be4b55bd7fa7ade44bfdfacc3c9dc72edd84b3e", func := "scrivener/scrivenerlaw04.DiskBounds", spec := "diskBounds", unfollowed := true, recurses := true, apart := false, narrowed := true }
def DiskBoundsUptoSaid : Prop := diskBoundsUptoRow.holds Try.pinned (OpenSpec.upto diskBoundsSpec)

/-- 'scrivenerlaw04.DiskPlays', WHERE WHAT IT READS IS OF BULK AT MOST 1048576: true; the input reads as it did. -/
def diskPlaysUptoRow : OpenClaim := { program := "ytggdkhgpkedbkaa", sum := "43f70cb2fed99ad439e0a4860be4b55bd7fa7ade44bfdfacc3c9dc72edd84b3e", func := "scrivener/scrivenerlaw04.DiskPlays", spec := "diskPlays", unfollowed := true, recurses := true, apart := false, narrowed := true }
def DiskPlaysUptoSaid : Prop := diskPlaysUptoRow.holds Try.pinned (OpenSpec.upto diskPlaysSpec)

/-- 'scrivenerlaw04.DiskNobody', WHERE WHAT IT READS IS OF BULK AT MOST 1048576: true; the input reads as it did. -/
def diskNobodyUptoRow : OpenClaim := { program := "ytggdkhgpkedbkaa", sum := "43f70cb2fed99ad439e0a4860be4b55bd7fa7ade44bfdfacc3c9dc72edd84b3e", func := "scrivener/scrivenerlaw04.DiskNobody", spec := "diskNobody", unfollowed := true, recurses := true, apart := false, narrowed := true }
def DiskNobodyUptoSaid : Prop := diskNobodyUptoRow.holds Try.pinned (OpenSpec.upto diskNobodySpec)

/-- 'scrivenerlaw04.DiskCopies', WHERE WHAT IT READS IS OF BULK AT MOST 1048576: true; the input reads as it did. -/
def diskCopiesUptoRow : OpenClaim := { program := "ytggdkhgpkedbkaa", sum := "43f70cb2fed99ad439e0a4860be4b55bd7fa7ade44bfdfacc3c9dc72edd84b3e", func := "scrivener/scrivenerlaw04.DiskCopies", spec := "diskCopies", unfollowed := true, recurses := true, apart := false, narrowed := true }
def DiskCopiesUptoSaid : Prop := diskCopiesUptoRow.holds Try.pinned (OpenSpec.upto diskCopiesSpec)

end Rows
end Go.Proofs.Ytggdkhgpkedbkaa
