/- Numbers: arguments opened. -/
import Derived.Test.YtggdkhgpkedbkaaFrame
import Derived.Deep.Slices
import Derived.Deep.Strs
import Derived.Deep.Fields
import Derived.SizedLaws
import Derived.Lib.SmallJoins
namespace Go.Proofs.Ytggdkhgpkedbkaa
open Go.ChangeShapes Go.WideShapes Go.ChangeAt Go.RowKit Go.Deep
section
variable {H : Type} {enc : TypeId × Value → H} {P : Program} {W W' : World}

theorem i64_of {z : Int} (h : (Lit.int .i64 z).wf = true) : ∃ x : Int64, x.toInt = z := by
  have hb := bounds_i64 h
  exact ⟨Int64.ofInt z, Int64.toInt_ofInt_of_le (by omega) (by omega)⟩
theorem u64_of {z : Int} (h : (Lit.int .u64 z).wf = true) : ∃ x : UInt64, (x.toNat : Int) = z := by
  have hb : 0 ≤ z ∧ z ≤ 18446744073709551615 := by
    simp [Lit.wf, IntKind.min, IntKind.max, IntKind.signed, IntKind.bits] at h
    omega
  refine ⟨UInt64.ofNat z.toNat, ?_⟩
  rw [UInt64.toNat_ofNat', Nat.mod_eq_of_lt (by omega)]
  omega
end
section
variable {H : Type} {enc : TypeId × Value → H} {P : Program} {W : World} {t : TypeId} {base : Nat} {spare : Nat → Bool} {held : Bool} {r : Reach} {b0 : Nat} {v : Value} {d : DataW H} {p : List MemPlace}
theorem open_u64 (ht : P.underlying t = some (.int .u64)) (hv : Value.okWide P W r b0 t v) (h : DataW.Trod enc P W base spare held t v d p) : ∃ x : UInt64, v = .int .u64 (x.toNat : Int) := by
  obtain ⟨n, rfl, _, _, w⟩ := open_int ht hv h
  obtain ⟨x, rfl⟩ := u64_of w
  exact ⟨x, rfl⟩
theorem open_i64 (ht : P.underlying t = some (.int .i64)) (hv : Value.okWide P W r b0 t v) (h : DataW.Trod enc P W base spare held t v d p) : ∃ x : Int64, v = .int .i64 x.toInt := by
  obtain ⟨n, rfl, _, _, w⟩ := open_int ht hv h
  obtain ⟨x, rfl⟩ := i64_of w
  exact ⟨x, rfl⟩
end
end Go.Proofs.Ytggdkhgpkedbkaa
