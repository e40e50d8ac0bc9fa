/- The law ClientOne, as its frame wants it. -/
import Derived.Test.YtpbaofabflgpkaaCliOne
import Derived.Test.YtpbaofabflgpkaaOpenCli
namespace Go.Proofs.Ytpbaofabflgpkaa.ClientOne
set_option linter.unusedVariables false
set_option linter.unusedSimpArgs false
open Go.RowKit

theorem walk {w : World} (x0 : Int64) (x1 : UInt64) (A2 : Option Addr) (l2 : List Int) (c2 : Nat) (b2 : SlI (fun _ => True) w (.slice A2 l2.length c2) l2) (e2 : l2.length * 8 ≤ 140737488351232) (A3 : Option Addr) (l3 : List Ev) (c3 : Nat) (b3 : Evs (fun _ => True) w A3 l3) :
    Calls Try.prog 3 #[.int .i64 x0.toInt, .int .u64 (x1.toNat : Int), .slice A2 l2.length c2, .slice A3 l3.length c3] w fun e w' => e = .returned (.bool true) ∧ Below w.heap.size w w' := one_any b2 e2 b3
end Go.Proofs.Ytpbaofabflgpkaa.ClientOne
