/- The walks of the small functions that the sum calls. -/
import Derived.Test.YtgnegofkffiopaaRows
import Derived.Test.YtgnegofkffiopaaCrc
import Derived.Test.YtgnegofkffiopaaWords
import Derived.WalkKit
import Derived.WalkSpells
import Derived.WalkLawsBesides
import Derived.Outline
namespace Go.Proofs.Ytgnegofkffiopaa
open Go.RowKit

namespace Crc
theorem lt32 (x : BitVec 32) : x.toNat < 4294967296 := x.isLt
theorem w_and (x : BitVec 32) (m : Nat) (hm : m < 4294967296) (i : Int) (hi : i = (x.toNat : Int)) : bits .and .u32 i (m : Int) = ((x &&& BitVec.ofNat 32 m).toNat : Int) := by
  subst hi
  rw [u32_and_nat _ _ x.isLt hm, BitVec.toNat_and, BitVec.toNat_ofNat, Nat.mod_eq_of_lt hm]
theorem w_or (x y : BitVec 32) (i j : Int) (hi : i = (x.toNat : Int)) (hj : j = (y.toNat : Int)) : bits .or .u32 i j = ((x ||| y).toNat : Int) := by
  subst hi hj
  rw [u32_or_nat _ _ x.isLt y.isLt, BitVec.toNat_or]
theorem w_xor (x y : BitVec 32) (i j : Int) (hi : i = (x.toNat : Int)) (hj : j = (y.toNat : Int)) : bits .xor .u32 i j = ((x ^^^ y).toNat : Int) := by
  subst hi hj
  rw [u32_xor_nat _ _ x.isLt y.isLt, BitVec.toNat_xor]
theorem w_shr (x : BitVec 32) (k p : Nat) (hp : p = 2 ^ k) (i : Int) (hi : i = (x.toNat : Int)) : i / (p : Int) = ((x >>> k).toNat : Int) := by
  subst hi hp
  rw [BitVec.toNat_ushiftRight, Nat.shiftRight_eq_div_pow]
  omega
theorem w_shl (x : BitVec 32) (k p : Nat) (hp : p = 2 ^ k) (i : Int) (hi : i = (x.toNat : Int)) : i * (p : Int) % 4294967296 = ((x <<< k).toNat : Int) := by
  subst hi hp
  rw [BitVec.toNat_shiftLeft, Nat.shiftLeft_eq]
  omega

theorem stage (x : BitVec 32) (k p m : Nat) (hp : p = 2 ^ k) (hm : m < 4294967296) (i : Int) (hi : i = (x.toNat : Int)) :
    bits .or .u32 (bits .and .u32 (i / (p : Int)) (m : Int)) (bits .and .u32 i (m : Int) * (p : Int) % 4294967296) = (((x >>> k &&& BitVec.ofNat 32 m) ||| ((x &&& BitVec.ofNat 32 m) <<< k)).toNat : Int) :=
  w_or _ _ _ _ (w_and _ m hm _ (w_shr x k p hp i hi)) (w_shl _ k p hp _ (w_and x m hm i hi))
theorem stage5 (x : BitVec 32) (i : Int) (hi : i = (x.toNat : Int)) :
    bits .or .u32 (i / 65536) (i * 65536 % 4294967296) = ((st5 x).toNat : Int) :=
  w_or _ _ _ _ (w_shr x 16 65536 rfl i hi) (w_shl x 16 65536 rfl i hi)
theorem look8 (s : ByteArray) (all : ∀ j : Fin 256, s.data.toList[j.1]? = some (rev8 (UInt8.ofNat j.1))) (c : UInt8) (h : c.toNat < s.size) : s[c.toNat]'h = rev8 c := by
  have h1 := all ⟨c.toNat, c.toNat_lt⟩
  have h2 : UInt8.ofNat c.toNat = c := by simp
  simp only [h2] at h1
  have h3 : s.data.toList[c.toNat]? = some (s[c.toNat]'h) := by
    rw [List.getElem?_eq_getElem (by simpa using h)]
    rfl
  rw [h3] at h1
  exact Option.some.inj h1
end Crc

set_option maxHeartbeats 400000 in
theorem rbytes_any (x : BitVec 32) (w : World) :
    Calls Try.prog 21 #[.int .u32 (x.toNat : Int)] w fun e w' => e = .returned (.int .u32 ((Crc.st5 (Crc.st4 x)).toNat : Int)) ∧ w = w' := by
  have h1 := x.isLt
  go_enter Try.func21, Try.ntmps21
  go_wp2
  go_ret
  refine ⟨ret_int ?_, rfl⟩
  exact Crc.stage5 _ _ (Crc.stage x 8 256 16711935 rfl (by omega) _ rfl)

theorem rbytes_at (x : BitVec 32) (i : Int) (hi : i = (x.toNat : Int)) (w : World) :
    Calls Try.prog 21 #[.int .u32 i] w fun e w' => e = .returned (.int .u32 ((Crc.st5 (Crc.st4 x)).toNat : Int)) ∧ w = w' := by
  subst hi
  exact rbytes_any x w

set_option maxHeartbeats 400000 in
theorem rev32_any (x : BitVec 32) (w : World) :
    Calls Try.prog 20 #[.int .u32 (x.toNat : Int)] w fun e w' => e = .returned (.int .u32 ((Crc.rev32 x).toNat : Int)) ∧ w = w' := by
  have h1 := x.isLt
  go_enter Try.func20, Try.ntmps20
  go_wp2_with (go_at_call 21; refine (rbytes_at (Crc.st3 (Crc.st2 (Crc.st1 x))) _ ?h _).mono ?_; rotate_right; rintro e w' ⟨rfl, rfl⟩)
  case h => exact Crc.stage _ 4 16 252645135 rfl (by omega) _ (Crc.stage _ 2 4 858993459 rfl (by omega) _ (Crc.stage x 1 2 1431655765 rfl (by omega) _ rfl))
  go_ret
  exact ⟨rfl, rfl⟩

set_option maxRecDepth 100000 in
set_option maxHeartbeats 400000 in
theorem rev8_any (c : UInt8) (w : World) :
    Calls Try.prog 18 #[.int .u8 (c.toNat : Int)] w fun e w' => e = .returned (.int .u8 ((Crc.rev8 c).toNat : Int)) ∧ w = w' := by
  have h1 := c.toNat_lt
  go_enter Try.func18, Try.ntmps18
  go_wp2
  go_ret
  refine ⟨ret_int (congrArg (fun u : UInt8 => (u.toNat : Int)) (Crc.look8 _ ?_ c _)), rfl⟩
  decide +kernel
end Go.Proofs.Ytgnegofkffiopaa
