/- The law ClientStale, as its frame wants it. -/
import Derived.Test.YtpbaofabflgpkaaCliSt
import Derived.Test.YtpbaofabflgpkaaOpenCli
namespace Go.Proofs.Ytpbaofabflgpkaa.ClientStale
set_option linter.unusedVariables false
set_option linter.unusedSimpArgs false
open Go.RowKit

theorem walk {w : World} (x0 : Int64) (x1 : UInt64) (A2 : Option Addr) (l2 : List Int) (c2 : Nat) (b2 : SlI (fun _ => True) w (.slice A2 l2.length c2) l2) (e2 : l2.length * 8 ≤ 140737488351232) (C3 : Cal) (u3 : Value) (b3 : SlB (fun _ => True) w u3 C3.body) (C4 : Cal) (u4 : Value) (b4 : SlB (fun _ => True) w u4 C4.body) (C5 : Rep) (u5 : Value) (b5 : SlB (fun _ => True) w u5 C5.body) (x6 : UInt64) :
    Calls Try.prog 5 #[.int .i64 x0.toInt, .int .u64 (x1.toNat : Int), .slice A2 l2.length c2, .agg (calL C3 u3).toArray, .agg (calL C4 u4).toArray, .agg (repL C5 u5).toArray, .int .u64 (x6.toNat : Int)] w fun e w' => e = .returned (.bool true) ∧ Below w.heap.size w w' := stale_any b2 e2 b3 b4 b5
end Go.Proofs.Ytpbaofabflgpkaa.ClientStale
