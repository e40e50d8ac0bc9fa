/- The walks of the register's closures and of the sum itself. -/
import Derived.Test.YtgnegofkffiopaaSumA
import Derived.Deep.QuietTactic
import Derived.BigQuiet
import Derived.Test.YtgnegofkffiopaaRegion
namespace Go.Proofs.Ytgnegofkffiopaa
open Go.RowKit

theorem Crc.w_T (x : BitVec 32) : bits .xor .u32 ((x.toNat : Int) * 2 % 4294967296) (517762881 * ((x.toNat : Int) / 2147483648)) = ((Crc.T x).toNat : Int) := by
  have h := x.isLt
  refine Crc.w_xor (x <<< 1) (if x.msb then 0x1EDC6F41#32 else 0#32) _ _ (Crc.w_shl x 1 2 rfl _ rfl) ?_
  rw [BitVec.msb_eq_decide]
  by_cases hx : 2147483648 ≤ x.toNat
  · have : (x.toNat : Int) / 2147483648 = 1 := by omega
    rw [this]; simp [hx]
  · have : (x.toNat : Int) / 2147483648 = 0 := by omega
    rw [this]; simp [hx]

theorem Crc.w_top (x : BitVec 32) (c : UInt8) : bits .xor .u32 (x.toNat : Int) (IntKind.u32.wrap (IntKind.u32.wrap ((Crc.rev8 c).toNat : Int) * 16777216)) = ((x ^^^ Crc.top c).toNat : Int) := by
  have h := (Crc.rev8 c).toNat_lt
  refine Crc.w_xor x (Crc.top c) _ _ rfl ?_
  unfold Crc.top
  rw [IntKind.wrap_u32, IntKind.wrap_u32, BitVec.toNat_shiftLeft, BitVec.toNat_ofNat, Nat.shiftLeft_eq]
  omega

set_option maxHeartbeats 400000 in
theorem hand_any (g : Nat) (x : BitVec 32) (c : UInt8) (w : World) (hg : Blk w g 25 #[.int .u32 (x.toNat : Int)]) :
    Calls Try.prog 17 #[.int .u8 (c.toNat : Int), .pointer (some ⟨g, 0, none⟩)] w fun e w' =>
      e = .returned (.tuple #[]) ∧ Blk w' g 25 #[.int .u32 ((Crc.hand x c).toNat : Int)] ∧ w.grownBy w' (some g) := by
  have hx := x.isLt
  have hc := c.toNat_lt
  have c0 : w.cell? ⟨g, 0, none⟩ = some (.int .u32 (x.toNat : Int)) := hg.cell 0
  have f0 := hg.free 0
  go_enter Try.func17, Try.ntmps17
  go_wp2
  refine PF.pf_begin (by kernel_rfl) ?_
  refine PF.pf_take1 0 (PF.Same (g) _) (by kernel_rfl) rfl (fun _ _ _ _ _ h => h) (by rfl) (PF.Same.refl _ _) (fun u hu => by have hcu := hu.cell; go_simp; try rfl) ?_
  try dsimp only [Act.put, List.setIfInBounds_toArray, List.set_cons_zero, List.set_cons_succ]
  refine PF.pf_take0 1 (by kernel_rfl) rfl (fun _ _ _ _ _ h => h) (by rfl) (fun u => by go_simp; try rfl) ?_
  try dsimp only [Act.put, List.setIfInBounds_toArray, List.set_cons_zero, List.set_cons_succ]
  refine PF.pf_exec 2 (by kernel_rfl) rfl (by rfl) (fun K hK => ?_)
  go_simp
  refine (rev8_any c _).mono ?_; rintro e w' ⟨rfl, rfl⟩
  refine hK _ _ (by repeat (first | exact PF.owes_nil | refine PF.owes_left ?_ | refine PF.owes_no (by decide +kernel) ?_ | refine PF.owes_yes (by first | rfl | assumption | go_simp) ?_)) ?_
  clear hK K
  try dsimp only [Act.put, List.setIfInBounds_toArray, List.set_cons_zero, List.set_cons_succ]
  refine PF.pf_take0 3 (by kernel_rfl) rfl (fun _ _ _ _ _ h => h) (by rfl) (fun u => by go_simp; try rfl) ?_
  try dsimp only [Act.put, List.setIfInBounds_toArray, List.set_cons_zero, List.set_cons_succ]
  refine PF.pf_take0 4 (by kernel_rfl) rfl (fun _ _ _ _ _ h => h) (by rfl) (fun u => by go_simp; try rfl) ?_
  try dsimp only [Act.put, List.setIfInBounds_toArray, List.set_cons_zero, List.set_cons_succ]
  refine PF.pf_take0 5 (by kernel_rfl) rfl (fun _ _ _ _ _ h => h) (by rfl) (fun u => by go_simp; try rfl) ?_
  try dsimp only [Act.put, List.setIfInBounds_toArray, List.set_cons_zero, List.set_cons_succ]
  refine PF.pf_exec 6 (by kernel_rfl) rfl (by rfl) (fun K hK => ?_)
  go_simp
  refine hK _ _ (by repeat (first | exact PF.owes_nil | refine PF.owes_left ?_ | refine PF.owes_no (by decide +kernel) ?_ | refine PF.owes_yes (by first | rfl | assumption | go_simp) ?_)) ?_
  clear hK K
  try dsimp only [Act.put, List.setIfInBounds_toArray, List.set_cons_zero, List.set_cons_succ]
  refine PF.pf_done (by kernel_rfl) ?_
  go_wp2
  rw [Crc.w_top]
  have hg0 : Blk (w.setCell ⟨g, 0, none⟩ (.int .u32 ((x ^^^ Crc.top c).toNat : Int))).drew g 25 #[.int .u32 ((x ^^^ Crc.top c).toNat : Int)] := hg.put0 _
  have ho0 : w.grownBy (w.setCell ⟨g, 0, none⟩ (.int .u32 ((x ^^^ Crc.top c).toNat : Int))).drew (some g) := only_drew (only_set (only_refl _ _) _ _)
  generalize (w.setCell ⟨g, 0, none⟩ (.int .u32 ((x ^^^ Crc.top c).toNat : Int))).drew = w1 at hg0 ho0
  clear c0 f0 hg
  go_loopw [10] (fun i wr => ∃ k : Nat, k ≤ 8 ∧ i = .int .i64 k ∧ Blk wr g 25 #[.int .u32 ((Crc.Tn k (x ^^^ Crc.top c)).toNat : Int)] ∧ w.grownBy wr (some g)) (fun i _ => 8 - (intOf i).toNat)
  case atStart => exact ⟨0, by omega, rfl, hg0, ho0⟩
  case round =>
    obtain ⟨k, hk, rfl, hb, ho⟩ := hrel
    obtain ⟨y, hy0⟩ : ∃ y, y = Crc.Tn k (x ^^^ Crc.top c) := ⟨_, rfl⟩
    rw [← hy0] at hb
    have HY := Lib.hid hy0
    clear hy0
    have hy := y.isLt
    have c1 : wr.cell? ⟨g, 0, none⟩ = some (.int .u32 (y.toNat : Int)) := hb.cell 0
    have f1 := hb.free 0
    go_wp2
    · go_roundw
      case rel =>
        rw [Crc.w_T]
        exact ⟨k + 1, by omega, by go_num, by rw [Crc.Tn_succ, ← HY.out]; exact hb.put0 _, only_set ho _ _⟩
      case measure => simp [intOf]; omega
    · have : k = 8 := by omega
      subst this
      go_end0
      exact ⟨rfl, by unfold Crc.hand; rw [← HY.out]; exact hb, ho⟩
end Go.Proofs.Ytgnegofkffiopaa
