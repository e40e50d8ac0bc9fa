/- Joined texts: Crc, SumA, SumB, SumC, CrcLaw, SumRef, SumD, SumE. -/
import Derived.Test.YtdckdjkkaangmaaDoorRows
import Derived.Test.YtdckdjkkaangmaaDoorJA
import Derived.WalkKit
import Derived.WalkSpells
import Derived.WalkLawsBesides
import Derived.Outline
import Derived.Deep.QuietTactic
import Derived.BigQuiet
import Derived.Test.YtdckdjkkaangmaaDoorRegion
/- Plain facts on the division of bit rows that the sum goes by. -/
namespace Go.Proofs.YtdckdjkkaangmaaDoor
set_option linter.unusedVariables false
set_option linter.unusedSimpArgs false
set_option maxRecDepth 100000
namespace Crc

/-- One step of the register: times x, by the polynomial. -/
def T (x : BitVec 32) : BitVec 32 := (x <<< 1) ^^^ (if x.msb then 0x1EDC6F41#32 else 0#32)

def Tn : Nat → BitVec 32 → BitVec 32
  | 0, x => x
  | n + 1, x => Tn n (T x)

theorem Tn_succ (n : Nat) (x : BitVec 32) : Tn (n + 1) x = T (Tn n x) := by
  induction n generalizing x with
  | zero => rfl
  | succ n ih => exact ih (T x)

/-- A byte's bits turned round. -/
def rev8 (c : UInt8) : UInt8 :=
  UInt8.ofNat ((c.toNat % 2) * 128 + (c.toNat / 2 % 2) * 64 + (c.toNat / 4 % 2) * 32 + (c.toNat / 8 % 2) * 16 + (c.toNat / 16 % 2) * 8 + (c.toNat / 32 % 2) * 4 + (c.toNat / 64 % 2) * 2 + c.toNat / 128 % 2)

/-- A byte's place at the register's top. -/
def top (c : UInt8) : BitVec 32 := (BitVec.ofNat 32 (rev8 c).toNat) <<< 24

/-- A byte handed to the register. -/
def hand (x : BitVec 32) (c : UInt8) : BitVec 32 := Tn 8 (x ^^^ top c)

def feed (x : BitVec 32) (l : List UInt8) : BitVec 32 := l.foldl hand x

/-- The stages in which a word's bits are turned round. -/
def st1 (x : BitVec 32) : BitVec 32 := ((x >>> 1) &&& 1431655765#32) ||| ((x &&& 1431655765#32) <<< 1)
def st2 (x : BitVec 32) : BitVec 32 := ((x >>> 2) &&& 858993459#32) ||| ((x &&& 858993459#32) <<< 2)
def st3 (x : BitVec 32) : BitVec 32 := ((x >>> 4) &&& 252645135#32) ||| ((x &&& 252645135#32) <<< 4)
def st4 (x : BitVec 32) : BitVec 32 := ((x >>> 8) &&& 16711935#32) ||| ((x &&& 16711935#32) <<< 8)
def st5 (x : BitVec 32) : BitVec 32 := (x >>> 16) ||| (x <<< 16)
def rev32 (x : BitVec 32) : BitVec 32 := st5 (st4 (st3 (st2 (st1 x))))

/-- What is asked at the end. -/
def fin (x : BitVec 32) : BitVec 32 := ~~~ rev32 x
def sum (l : List UInt8) : BitVec 32 := fin (feed 0xFFFFFFFF#32 l)

theorem feed_append (x : BitVec 32) (l m : List UInt8) : feed x (l ++ m) = feed (feed x l) m := List.foldl_append

end Crc
end Go.Proofs.YtdckdjkkaangmaaDoor

/- The walks of the small functions that the sum calls. -/
namespace Go.Proofs.YtdckdjkkaangmaaDoor
set_option linter.unusedVariables false
set_option linter.unusedSimpArgs false
set_option maxRecDepth 100000
open Go.RowKit

namespace Crc
theorem w_and (x : BitVec 32) (m : Nat) (hm : m < 4294967296) (i : Int) (hi : i = (x.toNat : Int)) : bits .and .u32 i (m : Int) = ((x &&& BitVec.ofNat 32 m).toNat : Int) := by
  subst hi
  rw [u32_and_nat _ _ x.isLt hm, BitVec.toNat_and, BitVec.toNat_ofNat, Nat.mod_eq_of_lt hm]
theorem w_or (x y : BitVec 32) (i j : Int) (hi : i = (x.toNat : Int)) (hj : j = (y.toNat : Int)) : bits .or .u32 i j = ((x ||| y).toNat : Int) := by
  subst hi hj
  rw [u32_or_nat _ _ x.isLt y.isLt, BitVec.toNat_or]
theorem w_xor (x y : BitVec 32) (i j : Int) (hi : i = (x.toNat : Int)) (hj : j = (y.toNat : Int)) : bits .xor .u32 i j = ((x ^^^ y).toNat : Int) := by
  subst hi hj
  rw [u32_xor_nat _ _ x.isLt y.isLt, BitVec.toNat_xor]
theorem w_shr (x : BitVec 32) (k p : Nat) (hp : p = 2 ^ k) (i : Int) (hi : i = (x.toNat : Int)) : i / (p : Int) = ((x >>> k).toNat : Int) := by
  subst hi hp
  rw [BitVec.toNat_ushiftRight, Nat.shiftRight_eq_div_pow]
  omega
theorem w_shl (x : BitVec 32) (k p : Nat) (hp : p = 2 ^ k) (i : Int) (hi : i = (x.toNat : Int)) : i * (p : Int) % 4294967296 = ((x <<< k).toNat : Int) := by
  subst hi hp
  rw [BitVec.toNat_shiftLeft, Nat.shiftLeft_eq]
  omega

theorem stage (x : BitVec 32) (k p m : Nat) (hp : p = 2 ^ k) (hm : m < 4294967296) (i : Int) (hi : i = (x.toNat : Int)) :
    bits .or .u32 (bits .and .u32 (i / (p : Int)) (m : Int)) (bits .and .u32 i (m : Int) * (p : Int) % 4294967296) = (((x >>> k &&& BitVec.ofNat 32 m) ||| ((x &&& BitVec.ofNat 32 m) <<< k)).toNat : Int) :=
  w_or _ _ _ _ (w_and _ m hm _ (w_shr x k p hp i hi)) (w_shl _ k p hp _ (w_and x m hm i hi))
theorem stage5 (x : BitVec 32) (i : Int) (hi : i = (x.toNat : Int)) :
    bits .or .u32 (i / 65536) (i * 65536 % 4294967296) = ((st5 x).toNat : Int) :=
  w_or _ _ _ _ (w_shr x 16 65536 rfl i hi) (w_shl x 16 65536 rfl i hi)
theorem look8 (s : ByteArray) (all : ∀ j : Fin 256, s.data.toList[j.1]? = some (rev8 (UInt8.ofNat j.1))) (c : UInt8) (h : c.toNat < s.size) : s[c.toNat]'h = rev8 c := by
  have h1 := all ⟨c.toNat, c.toNat_lt⟩
  have h2 : UInt8.ofNat c.toNat = c := by simp
  simp only [h2] at h1
  have h3 : s.data.toList[c.toNat]? = some (s[c.toNat]'h) := by
    rw [List.getElem?_eq_getElem (by simpa using h)]
    rfl
  rw [h3] at h1
  exact Option.some.inj h1
end Crc

set_option maxHeartbeats 400000 in
theorem rbytes_any (x : BitVec 32) (w : World) :
    Calls Tryd.prog 84 #[.int .u32 (x.toNat : Int)] w fun e w' => e = .returned (.int .u32 ((Crc.st5 (Crc.st4 x)).toNat : Int)) ∧ w = w' := by
  have h1 := x.isLt
  go_enter Tryd.func84, Tryd.ntmps84
  go_wp2
  go_ret
  refine ⟨ret_int ?_, rfl⟩
  exact Crc.stage5 _ _ (Crc.stage x 8 256 16711935 rfl (by omega) _ rfl)

theorem rbytes_at (x : BitVec 32) (i : Int) (hi : i = (x.toNat : Int)) (w : World) :
    Calls Tryd.prog 84 #[.int .u32 i] w fun e w' => e = .returned (.int .u32 ((Crc.st5 (Crc.st4 x)).toNat : Int)) ∧ w = w' := by
  subst hi
  exact rbytes_any x w

set_option maxHeartbeats 400000 in
theorem rev32_any (x : BitVec 32) (w : World) :
    Calls Tryd.prog 82 #[.int .u32 (x.toNat : Int)] w fun e w' => e = .returned (.int .u32 ((Crc.rev32 x).toNat : Int)) ∧ w = w' := by
  have h1 := x.isLt
  go_enter Tryd.func82, Tryd.ntmps82
  go_wp2_with (go_at_call 84; refine (rbytes_at (Crc.st3 (Crc.st2 (Crc.st1 x))) _ ?h _).mono ?_; rotate_right; rintro e w' ⟨rfl, rfl⟩)
  case h => exact Crc.stage _ 4 16 252645135 rfl (by omega) _ (Crc.stage _ 2 4 858993459 rfl (by omega) _ (Crc.stage x 1 2 1431655765 rfl (by omega) _ rfl))
  go_ret
  exact ⟨rfl, rfl⟩

set_option maxRecDepth 100000 in
set_option maxHeartbeats 400000 in
theorem rev8_any (c : UInt8) (w : World) :
    Calls Tryd.prog 80 #[.int .u8 (c.toNat : Int)] w fun e w' => e = .returned (.int .u8 ((Crc.rev8 c).toNat : Int)) ∧ w = w' := by
  have h1 := c.toNat_lt
  go_enter Tryd.func80, Tryd.ntmps80
  go_wp2
  go_ret
  refine ⟨ret_int (congrArg (fun u : UInt8 => (u.toNat : Int)) (Crc.look8 _ ?_ c _)), rfl⟩
  decide +kernel
end Go.Proofs.YtdckdjkkaangmaaDoor

/- The walks of the register's closures and of the sum itself. -/
namespace Go.Proofs.YtdckdjkkaangmaaDoor
set_option linter.unusedVariables false
set_option linter.unusedSimpArgs false
set_option maxRecDepth 100000
open Go.RowKit

theorem Crc.w_T (x : BitVec 32) : bits .xor .u32 ((x.toNat : Int) * 2 % 4294967296) (517762881 * ((x.toNat : Int) / 2147483648)) = ((Crc.T x).toNat : Int) := by
  have h := x.isLt
  refine Crc.w_xor (x <<< 1) (if x.msb then 0x1EDC6F41#32 else 0#32) _ _ (Crc.w_shl x 1 2 rfl _ rfl) ?_
  rw [BitVec.msb_eq_decide]
  by_cases hx : 2147483648 ≤ x.toNat
  · have : (x.toNat : Int) / 2147483648 = 1 := by omega
    rw [this]; simp [hx]
  · have : (x.toNat : Int) / 2147483648 = 0 := by omega
    rw [this]; simp [hx]

theorem Crc.w_top (x : BitVec 32) (c : UInt8) : bits .xor .u32 (x.toNat : Int) (IntKind.u32.wrap (IntKind.u32.wrap ((Crc.rev8 c).toNat : Int) * 16777216)) = ((x ^^^ Crc.top c).toNat : Int) := by
  have h := (Crc.rev8 c).toNat_lt
  refine Crc.w_xor x (Crc.top c) _ _ rfl ?_
  unfold Crc.top
  rw [IntKind.wrap_u32, IntKind.wrap_u32, BitVec.toNat_shiftLeft, BitVec.toNat_ofNat, Nat.shiftLeft_eq]
  omega

set_option maxHeartbeats 400000 in
theorem hand_any (g : Nat) (x : BitVec 32) (c : UInt8) (w : World) (hg : Blk w g 97 #[.int .u32 (x.toNat : Int)]) :
    Calls Tryd.prog 79 #[.int .u8 (c.toNat : Int), .pointer (some ⟨g, 0, none⟩)] w fun e w' =>
      e = .returned (.tuple #[]) ∧ Blk w' g 97 #[.int .u32 ((Crc.hand x c).toNat : Int)] ∧ w.grownBy w' (some g) := by
  have hx := x.isLt
  have hc := c.toNat_lt
  have c0 : w.cell? ⟨g, 0, none⟩ = some (.int .u32 (x.toNat : Int)) := hg.cell 0
  have f0 := hg.free 0
  go_enter Tryd.func79, Tryd.ntmps79
  go_wp2
  refine PF.pf_begin (by kernel_rfl) ?_
  refine PF.pf_take1 0 (PF.Same (g) _) (by kernel_rfl) rfl (fun _ _ _ _ _ h => h) (by kernel_rfl) (PF.Same.refl _ _) (fun u hu => by have hcu := hu.cell; go_simp; try rfl) ?_
  try simp only [Act.put, pz0, pz1, pz2]
  refine PF.pf_take0 1 (by kernel_rfl) rfl (fun _ _ _ _ _ h => h) (by kernel_rfl) (fun u => by go_simp; try rfl) ?_
  try simp only [Act.put, pz0, pz1, pz2]
  refine PF.pf_exec 2 (by kernel_rfl) rfl (by kernel_rfl) (fun K hK => ?_)
  go_simp
  refine (rev8_any c _).mono ?_; rintro e w' ⟨rfl, rfl⟩
  refine hK _ _ (by repeat (first | exact PF.owes_nil | refine PF.owes_left ?_ | refine PF.owes_no (by decide +kernel) ?_ | refine PF.owes_yes (by first | rfl | assumption | go_simp) ?_)) ?_
  clear hK K
  try simp only [Act.put, pz0, pz1, pz2]
  refine PF.pf_take0 3 (by kernel_rfl) rfl (fun _ _ _ _ _ h => h) (by kernel_rfl) (fun u => by go_simp; try rfl) ?_
  try simp only [Act.put, pz0, pz1, pz2]
  refine PF.pf_take0 4 (by kernel_rfl) rfl (fun _ _ _ _ _ h => h) (by kernel_rfl) (fun u => by go_simp; try rfl) ?_
  try simp only [Act.put, pz0, pz1, pz2]
  refine PF.pf_take0 5 (by kernel_rfl) rfl (fun _ _ _ _ _ h => h) (by kernel_rfl) (fun u => by go_simp; try rfl) ?_
  try simp only [Act.put, pz0, pz1, pz2]
  refine PF.pf_exec 6 (by kernel_rfl) rfl (by kernel_rfl) (fun K hK => ?_)
  go_simp
  refine hK _ _ (by repeat (first | exact PF.owes_nil | refine PF.owes_left ?_ | refine PF.owes_no (by decide +kernel) ?_ | refine PF.owes_yes (by first | rfl | assumption | go_simp) ?_)) ?_
  clear hK K
  try simp only [Act.put, pz0, pz1, pz2]
  refine PF.pf_done (by kernel_rfl) ?_
  go_wp2
  rw [Crc.w_top]
  have hg0 : Blk (w.setCell ⟨g, 0, none⟩ (.int .u32 ((x ^^^ Crc.top c).toNat : Int))).drew g 97 #[.int .u32 ((x ^^^ Crc.top c).toNat : Int)] := hg.put0 _
  have ho0 : w.grownBy (w.setCell ⟨g, 0, none⟩ (.int .u32 ((x ^^^ Crc.top c).toNat : Int))).drew (some g) := only_drew (only_set (only_refl _ _) _ _)
  generalize (w.setCell ⟨g, 0, none⟩ (.int .u32 ((x ^^^ Crc.top c).toNat : Int))).drew = w1 at hg0 ho0
  clear c0 f0 hg
  go_loopw [10] (fun i wr => ∃ k : Nat, k ≤ 8 ∧ i = .int .i64 k ∧ Blk wr g 97 #[.int .u32 ((Crc.Tn k (x ^^^ Crc.top c)).toNat : Int)] ∧ w.grownBy wr (some g)) (fun i _ => 8 - (intOf i).toNat)
  case atStart => exact ⟨0, by omega, rfl, hg0, ho0⟩
  case round =>
    obtain ⟨k, hk, rfl, hb, ho⟩ := hrel
    obtain ⟨y, hy0⟩ : ∃ y, y = Crc.Tn k (x ^^^ Crc.top c) := ⟨_, rfl⟩
    rw [← hy0] at hb
    have HY := Lib.hid hy0
    clear hy0
    have hy := y.isLt
    have c1 : wr.cell? ⟨g, 0, none⟩ = some (.int .u32 (y.toNat : Int)) := hb.cell 0
    have f1 := hb.free 0
    go_wp2
    · go_roundw
      case rel =>
        rw [Crc.w_T]
        exact ⟨k + 1, by omega, by go_num, by rw [Crc.Tn_succ, ← HY.out]; exact hb.put0 _, only_set ho _ _⟩
      case measure => simp [intOf]; omega
    · have : k = 8 := by omega
      subst this
      go_end0
      exact ⟨rfl, by unfold Crc.hand; rw [← HY.out]; exact hb, ho⟩
end Go.Proofs.YtdckdjkkaangmaaDoor

/- The walks of the register and of the sum. -/
namespace Go.Proofs.YtdckdjkkaangmaaDoor
set_option linter.unusedVariables false
set_option linter.unusedSimpArgs false
set_option maxRecDepth 100000
open Go.RowKit

set_option maxHeartbeats 400000 in
theorem register_any (w : World) :
    Calls Tryd.prog 73 #[] w fun e w' =>
      e = .returned (.tuple #[.func (.func 79) #[] #[.pointer (some ⟨w.heap.size, 0, none⟩)], .func (.func 81) #[] #[.pointer (some ⟨w.heap.size, 0, none⟩)]]) ∧
      Blk w' w.heap.size 97 #[.int .u32 4294967295] ∧ Below w.heap.size w w' := by
  have hmf : ∀ (fn : Fn) (first cap : Array Value) (w : World), (Instr.makeFunc fn first cap).run Tryd.prog w = .ok (.func fn first cap) w := fun _ _ _ _ => rfl
  go_enter Tryd.func73, Tryd.ntmps73
  go_wp2
  go_ret2
  refine ⟨rfl, Blk.new _ _ _, (Below.refl _ _).alloc (Nat.le_refl _) _⟩

theorem Crc.w_not (x : BitVec 32) (i : Int) (hi : i = ((Crc.rev32 x).toNat : Int)) : bits .xor .u32 IntKind.u32.max i = ((Crc.fin x).toNat : Int) := by
  have h : Crc.fin x = 0xFFFFFFFF#32 ^^^ Crc.rev32 x := by
    unfold Crc.fin
    rw [BitVec.xor_comm]
    exact (BitVec.xor_allOnes (x := Crc.rev32 x)).symm
  rw [h]
  exact Crc.w_xor _ _ _ _ rfl hi

set_option maxHeartbeats 400000 in
theorem sumleft_any (g : Nat) (x : BitVec 32) (w : World) (hg : Blk w g 97 #[.int .u32 (x.toNat : Int)]) :
    Calls Tryd.prog 81 #[.pointer (some ⟨g, 0, none⟩)] w fun e w' => e = .returned (.int .u32 ((Crc.fin x).toNat : Int)) ∧ w = w' := by
  have hx := x.isLt
  have c0 : w.cell? ⟨g, 0, none⟩ = some (.int .u32 (x.toNat : Int)) := hg.cell 0
  go_enter Tryd.func81, Tryd.ntmps81
  go_wp2_with (go_at_call 82; refine (rev32_any x _).mono ?_; rintro e w' ⟨rfl, rfl⟩)
  go_ret
  refine ⟨ret_int ?_, rfl⟩
  exact Crc.w_not _ _ rfl

theorem Crc.feed_snoc (x : BitVec 32) (l : List UInt8) (c : UInt8) : Crc.feed x (l ++ [c]) = Crc.hand (Crc.feed x l) c := by
  rw [Crc.feed_append]; rfl
theorem take_snoc' {α : Type} (l : List α) (k : Nat) (h : k < l.length) : l.take (k + 1) = l.take k ++ [l[k]] := List.take_succ_eq_append_getElem h

set_option maxHeartbeats 400000 in
theorem of_any (A : Option Addr) (c : Nat) (ls : List (List UInt8)) (w : World) (hp : Parts w A ls) (hn : ls.length ≤ 9223372036854775807) (hl : ∀ l ∈ ls, l.length ≤ 9223372036854775807) :
    Calls Tryd.prog 54 #[.slice A ls.length c] w fun e w' => e = .returned (.int .u32 ((Crc.sum ls.flatten).toNat : Int)) ∧ Below w.heap.size w w' := by
  go_enter Tryd.func54, Tryd.ntmps54
  go_wp2_with (go_at_call 73; refine (register_any _).mono ?_; rintro e w1 ⟨rfl, hb1, hbel1⟩)
  have hlt := hb1.lt
  go_loopw [15] (fun i wr => ∃ k : Nat, k ≤ ls.length ∧ i = .int .i64 k ∧ Blk wr w.heap.size 97 #[.int .u32 ((Crc.feed 0xFFFFFFFF#32 (ls.take k).flatten).toNat : Int)] ∧ Below w.heap.size w wr) (fun i _ => ls.length - (intOf i).toNat)
  case atStart => exact ⟨0, by omega, rfl, hb1, hbel1⟩
  case round =>
    obtain ⟨k, hk, rfl, hb, hbel⟩ := hrel
    by_cases hlt2 : k < ls.length
    · obtain ⟨ad, A', c', rfl, had, hcell, hc1, hc2, hby⟩ := hp.at_ hlt2
      replace hcell : wr.cell? (ad.add k) = _ := (hbel.cell (by rw [add_block]; exact had)).trans hcell
      have hlk := hl _ (List.getElem_mem hlt2)
      have hts : (ls.take (k + 1)).flatten = (ls.take k).flatten ++ ls[k] := by rw [take_snoc' ls k hlt2, List.flatten_append, List.flatten_cons, List.flatten_nil, List.append_nil]
      have HTS := Lib.hid hts
      clear hts
      generalize (ls.take k).flatten = pre at hb HTS
      generalize ls[k] = l at hcell hc1 hby hlk HTS
      go_wp2_with fail
      obtain ⟨wo, hwo⟩ : ∃ wo : World, wo = wr := ⟨_, rfl⟩
      rw [← hwo]
      rw [← hwo] at hcell hb hbel
      clear hwo
      go_loopw [21] (fun i wi => ∃ j : Nat, j ≤ l.length ∧ i = .int .i64 j ∧ Blk wi w.heap.size 97 #[.int .u32 ((Crc.feed 0xFFFFFFFF#32 (pre ++ l.take j)).toNat : Int)] ∧ Below w.heap.size w wi) (fun i _ => l.length - (intOf i).toNat)
      case atStart => exact ⟨0, by omega, rfl, by simpa using hb, hbel⟩
      case round =>
        obtain ⟨j, hj, rfl, hbi, hbeli⟩ := hrel
        by_cases hlt3 : j < l.length
        · obtain ⟨ad', rfl, had', hcell'⟩ := hby.at_ hlt3
          have hcl : wr.cell? (ad'.add j) = some (.int .u8 (l[j].toNat : Int)) := (hbeli.cell (by rw [add_block]; exact had')).trans hcell'
          have hsn : Crc.feed 0xFFFFFFFF#32 (pre ++ l.take (j + 1)) = Crc.hand (Crc.feed 0xFFFFFFFF#32 (pre ++ l.take j)) l[j] := by
            rw [take_snoc' l j hlt3, ← List.append_assoc, Crc.feed_snoc]
          have HSN := Lib.hid hsn
          clear hsn hcell hcell'
          go_wp2_with (go_at_call 79; refine (hand_any _ _ _ _ hbi).mono ?_; rintro e w2 ⟨rfl, hb2, ho2⟩)
          go_roundw
          case rel => exact ⟨j + 1, by omega, by go_num, by rw [HSN.out]; exact hb2, below_only hbeli ho2 hbeli.size (Nat.le_refl _)⟩
          case measure => simp [intOf]; omega
        · have hjl : j = l.length := by omega
          subst hjl
          rw [List.take_length, ← HTS.out] at hbi
          clear hlt3
          go_wp2
          go_roundw
          case rel => exact ⟨k + 1, by omega, by go_num, hbi, hbeli⟩
          case measure => simp [intOf]; omega
    · have hkl : k = ls.length := by omega
      subst hkl
      rw [List.take_length] at hb
      clear hlt2
      go_wp2_with (go_at_call 81; refine (sumleft_any _ _ _ hb).mono ?_; rintro e w2 ⟨rfl, rfl⟩)
      go_ret
      exact ⟨rfl, hbel⟩
end Go.Proofs.YtdckdjkkaangmaaDoor

/- Plain laws of the sum: the division bit by bit is the one byte by byte; a word turned round. -/
namespace Go.Proofs.YtdckdjkkaangmaaDoor
set_option linter.unusedVariables false
set_option linter.unusedSimpArgs false
set_option maxRecDepth 100000
namespace Crc

/-- One bit handed to the register. -/
def stepR (x : BitVec 32) (b : Bool) : BitVec 32 := (x <<< 1) ^^^ (if x.msb ^^ b then 0x1EDC6F41#32 else 0#32)
def handR (x : BitVec 32) (c : UInt8) : Nat → BitVec 32
  | 0 => x
  | k + 1 => stepR (handR x c k) (c.toNat.testBit k)

theorem top_bit : ∀ c : Fin 256, ∀ k : Fin 8, (top (UInt8.ofNat c.1)).getLsbD (31 - k.1) = c.1.testBit k.1 := by decide +kernel
theorem top_shift : ∀ c : Fin 256, (top (UInt8.ofNat c.1)) <<< 8 = 0#32 := by decide +kernel

theorem handR_eq (x : BitVec 32) (c : UInt8) : ∀ k, k ≤ 8 → handR x c k = Tn k (x ^^^ top c) ^^^ (top c <<< k) := by
  intro k
  induction k with
  | zero =>
    intro _
    simp [handR, Tn, BitVec.xor_assoc]
  | succ k ih =>
    intro hk
    have hb := top_bit ⟨c.toNat, c.toNat_lt⟩ ⟨k, by omega⟩
    simp only [UInt8.ofNat_toNat] at hb
    rw [handR, ih (by omega), Tn_succ]
    generalize Tn k (x ^^^ top c) = y
    have hm : (top c <<< k).msb = c.toNat.testBit k := by
      rw [← hb, BitVec.msb_eq_getLsbD_last, BitVec.getLsbD_shiftLeft]
      simp
      omega
    unfold stepR T
    rw [BitVec.msb_xor, hm, BitVec.shiftLeft_xor_distrib]
    have hs : top c <<< k <<< 1 = top c <<< (k + 1) := by rw [← BitVec.shiftLeft_add]
    rw [hs]
    generalize y <<< 1 = a
    generalize top c <<< (k + 1) = d
    cases y.msb <;> cases c.toNat.testBit k <;> simp
    all_goals rw [BitVec.xor_assoc, BitVec.xor_assoc, BitVec.xor_comm d]

theorem handR_8 (x : BitVec 32) (c : UInt8) : handR x c 8 = hand x c := by
  have h := top_shift ⟨c.toNat, c.toNat_lt⟩
  simp only [UInt8.ofNat_toNat] at h
  rw [handR_eq x c 8 (by omega), h, BitVec.xor_zero]
  rfl

theorem bit_cases {p : Nat → Prop} (h : p 0 ∧ p 1 ∧ p 2 ∧ p 3 ∧ p 4 ∧ p 5 ∧ p 6 ∧ p 7 ∧ p 8 ∧ p 9 ∧ p 10 ∧ p 11 ∧ p 12 ∧ p 13 ∧ p 14 ∧ p 15 ∧ p 16 ∧ p 17 ∧ p 18 ∧ p 19 ∧ p 20 ∧ p 21 ∧ p 22 ∧ p 23 ∧ p 24 ∧ p 25 ∧ p 26 ∧ p 27 ∧ p 28 ∧ p 29 ∧ p 30 ∧ p 31) :
    ∀ i, i < 32 → p i := by
  intro i hi
  obtain ⟨h0, h1, h2, h3, h4, h5, h6, h7, h8, h9, h10, h11, h12, h13, h14, h15, h16, h17, h18, h19, h20, h21, h22, h23, h24, h25, h26, h27, h28, h29, h30, h31⟩ := h
  have : i = 0 ∨ i = 1 ∨ i = 2 ∨ i = 3 ∨ i = 4 ∨ i = 5 ∨ i = 6 ∨ i = 7 ∨ i = 8 ∨ i = 9 ∨ i = 10 ∨ i = 11 ∨ i = 12 ∨ i = 13 ∨ i = 14 ∨ i = 15 ∨ i = 16 ∨ i = 17 ∨ i = 18 ∨ i = 19 ∨ i = 20 ∨ i = 21 ∨ i = 22 ∨ i = 23 ∨ i = 24 ∨ i = 25 ∨ i = 26 ∨ i = 27 ∨ i = 28 ∨ i = 29 ∨ i = 30 ∨ i = 31 := by omega
  rcases this with rfl | rfl | rfl | rfl | rfl | rfl | rfl | rfl | rfl | rfl | rfl | rfl | rfl | rfl | rfl | rfl | rfl | rfl | rfl | rfl | rfl | rfl | rfl | rfl | rfl | rfl | rfl | rfl | rfl | rfl | rfl | rfl <;> assumption

theorem st1_bit (x : BitVec 32) : ∀ i, i < 32 → (st1 x).getLsbD i = x.getLsbD (if i % 2 = 0 then i + 1 else i - 1) :=
  bit_cases (by simp [st1])
theorem st2_bit (x : BitVec 32) : ∀ i, i < 32 → (st2 x).getLsbD i = x.getLsbD (if i % 4 < 2 then i + 2 else i - 2) :=
  bit_cases (by simp [st2])
theorem st3_bit (x : BitVec 32) : ∀ i, i < 32 → (st3 x).getLsbD i = x.getLsbD (if i % 8 < 4 then i + 4 else i - 4) :=
  bit_cases (by simp [st3])
theorem st4_bit (x : BitVec 32) : ∀ i, i < 32 → (st4 x).getLsbD i = x.getLsbD (if i % 16 < 8 then i + 8 else i - 8) :=
  bit_cases (by simp [st4])
theorem st5_bit (x : BitVec 32) : ∀ i, i < 32 → (st5 x).getLsbD i = x.getLsbD (if i < 16 then i + 16 else i - 16) :=
  bit_cases (by simp [st5])
theorem rev32_bit (x : BitVec 32) : ∀ i, i < 32 → (rev32 x).getLsbD i = x.getLsbD (31 - i) := by
  intro i hi
  unfold rev32
  rw [st5_bit _ i hi, st4_bit _ _ (by split <;> omega), st3_bit _ _ (by split <;> split <;> omega), st2_bit _ _ (by split <;> split <;> split <;> omega), st1_bit _ _ (by split <;> split <;> split <;> split <;> omega)]
  congr 1
  revert i
  exact bit_cases (by decide)

/-- What is asked at the end, bit by bit. -/
def outR (x : BitVec 32) : Nat → BitVec 32
  | 0 => 0#32
  | k + 1 => if x.getLsbD k then outR x k else outR x k ||| (1#32 <<< (31 - k))

theorem outR_bit (x : BitVec 32) (i : Nat) (hi : i < 32) : ∀ k, k ≤ 32 → (outR x k).getLsbD i = (decide (31 - i < k) && !x.getLsbD (31 - i)) := by
  intro k
  induction k with
  | zero => intro _; simp [outR]
  | succ k ih =>
    intro hk
    have h := ih (by omega)
    unfold outR
    by_cases e : 31 - i = k
    · have e' : 31 - k = i := by omega
      cases hx : x.getLsbD k
      · simp [hx, e, e', hi]
      · simp [hx, h, e]
    · have hne : ¬ (31 - k = i) := by omega
      have hd : decide (31 - i < k + 1) = decide (31 - i < k) := by
        rw [decide_eq_decide]; omega
      rw [hd, ← h]
      cases hx : x.getLsbD k
      · simp only [Bool.false_eq_true, if_false, BitVec.getLsbD_or]
        have : (1#32 <<< (31 - k)).getLsbD i = false := by
          simp [BitVec.getLsbD_shiftLeft, BitVec.getLsbD_one]
          omega
        rw [this, Bool.or_false]
      · simp
theorem outR_32 (x : BitVec 32) : outR x 32 = fin x := by
  apply BitVec.eq_of_getLsbD_eq
  intro i hi
  rw [outR_bit x i hi 32 (by omega)]
  unfold fin
  rw [BitVec.getLsbD_not, rev32_bit x i hi]
  simp [hi]
  omega

def feedR (x : BitVec 32) (l : List UInt8) : BitVec 32 := l.foldl (fun x c => handR x c 8) x
theorem feedR_eq (l : List UInt8) : ∀ x, feedR x l = feed x l := by
  induction l with
  | nil => intro x; rfl
  | cons c l ih =>
    intro x
    show feedR (handR x c 8) l = feed (hand x c) l
    rw [handR_8, ih]
end Crc
end Go.Proofs.YtdckdjkkaangmaaDoor

/- The walks of the reference's sum. -/
namespace Go.Proofs.YtdckdjkkaangmaaDoor
set_option linter.unusedVariables false
set_option linter.unusedSimpArgs false
set_option maxRecDepth 100000
open Go.RowKit

namespace Crc
theorem xor_hi (a : Nat) (ha : a < 4294967296) : a ^^^ 4294967296 = a + 4294967296 := by
  have h1 : a + 4294967296 = 2 ^ 32 ||| a := by
    have := Nat.two_pow_add_eq_or_of_lt (i := 32) (b := a) (by simpa using ha) 1
    simp only [Nat.mul_one] at this
    rw [← this, Nat.add_comm]
  rw [h1]
  apply Nat.eq_of_testBit_eq
  intro i
  rw [Nat.testBit_xor, Nat.testBit_or, show (4294967296 : Nat) = 2 ^ 32 from rfl, Nat.testBit_two_pow]
  by_cases hi : 32 = i
  · subst hi
    simp [Nat.testBit_lt_two_pow (show a < 2 ^ 32 from ha)]
  · simp [hi]
theorem hi_xor (a : Nat) (ha : a < 4294967296) : (a + 4294967296) ^^^ 4294967296 = a := by
  rw [← xor_hi a ha, Nat.xor_assoc, Nat.xor_self, Nat.xor_zero]

/-- The step of the reference, on numbers: the doubled register, the bit at the place 32. -/
theorem stepR_num (x : BitVec 32) (b : Bool) : (x.toNat * 2) ^^^ (b.toNat * 4294967296) = (x <<< 1).toNat + (if x.msb ^^ b then 4294967296 else 0) := by
  have hx := x.isLt
  have h1 : (x <<< 1).toNat = x.toNat * 2 % 4294967296 := by rw [BitVec.toNat_shiftLeft, Nat.shiftLeft_eq]
  have h2 := (x <<< 1).isLt
  rw [h1] at h2 ⊢
  rw [BitVec.msb_eq_decide]
  by_cases hm : 2147483648 ≤ x.toNat
  · have e : x.toNat * 2 = x.toNat * 2 % 4294967296 + 4294967296 := by omega
    generalize x.toNat * 2 % 4294967296 = lo at *
    rw [e]
    cases b
    · simp [hm]
    · simp [hm]
      exact hi_xor lo h2
  · have e : x.toNat * 2 = x.toNat * 2 % 4294967296 := by omega
    generalize x.toNat * 2 % 4294967296 = lo at *
    rw [e]
    cases b
    · simp [hm]
    · simp [hm]
      exact xor_hi lo h2
theorem stepR_no (x : BitVec 32) (b : Bool) (h : (x.msb ^^ b) = false) : stepR x b = x <<< 1 := by unfold stepR; simp [h]
theorem stepR_yes (x : BitVec 32) (b : Bool) (h : (x.msb ^^ b) = true) : (((x <<< 1).toNat + 4294967296) ^^^ 4294967296) ^^^ 517762881 = (stepR x b).toNat := by
  unfold stepR
  rw [hi_xor _ (x <<< 1).isLt, h, if_pos rfl, BitVec.toNat_xor]
  rfl

theorem w_bit (c k : Nat) (hc : c < 256) (b : Bool) (hb : b = c.testBit k) : bits .and .u64 (IntKind.u64.wrap (shrI (c : Int) k)) 1 = (b.toNat : Int) := by
  have h0 : shrI (c : Int) k = ((c / 2 ^ k : Nat) : Int) := by unfold shrI; simp
  have h1 : c / 2 ^ k ≤ c := Nat.div_le_self _ _
  have h2 : IntKind.u64.wrap ((c / 2 ^ k : Nat) : Int) = ((c / 2 ^ k : Nat) : Int) := by
    rw [IntKind.wrap_u64]
    generalize c / 2 ^ k = d at h1
    omega
  rw [h0, h2, show (1 : Int) = ((1 : Nat) : Int) from rfl, u64_and_nat _ _ (by omega) (by omega), Nat.and_one_is_mod, hb, Nat.testBit_eq_decide_div_mod_eq]
  have := Nat.mod_two_eq_zero_or_one (c / 2 ^ k)
  rcases this with h | h <;> simp [h]
theorem w_step (y : BitVec 32) (b : Bool) (i : Int) (hi : i = ((b.toNat * 4294967296 : Nat) : Int)) :
    bits .xor .u64 ((y.toNat : Int) * 2) i = (((y <<< 1).toNat + (if y.msb ^^ b then 4294967296 else 0) : Nat) : Int) := by
  have hy := y.isLt
  have e : (y.toNat : Int) * 2 = ((y.toNat * 2 : Nat) : Int) := by omega
  rw [hi, e, u64_xor_nat _ _ (by omega) (by cases b <;> simp), stepR_num]
theorem w_back (y : BitVec 32) (b : Bool) (h : (y.msb ^^ b) = true) (z : Nat) (hz : z = (y <<< 1).toNat + 4294967296) :
    bits .xor .u64 (bits .xor .u64 (z : Int) 4294967296) 517762881 = ((stepR y b).toNat : Int) := by
  have hy := (y <<< 1).isLt
  rw [hz, show (4294967296 : Int) = ((4294967296 : Nat) : Int) from rfl, u64_xor_nat _ _ (by omega) (by omega)]
  rw [show (517762881 : Int) = ((517762881 : Nat) : Int) from rfl, u64_xor_nat _ _ (by rw [hi_xor _ hy]; omega) (by omega), stepR_yes y b h]
theorem w_bit64 (x : BitVec 32) (k : Nat) (b : Bool) (hb : b = x.getLsbD k) : bits .and .u64 (shrI (x.toNat : Int) k) 1 = (b.toNat : Int) := by
  have hx := x.isLt
  have h0 : shrI (x.toNat : Int) k = ((x.toNat / 2 ^ k : Nat) : Int) := by unfold shrI; simp
  have h1 : x.toNat / 2 ^ k ≤ x.toNat := Nat.div_le_self _ _
  rw [h0, show (1 : Int) = ((1 : Nat) : Int) from rfl, u64_and_nat _ _ (by generalize x.toNat / 2 ^ k = d at h1; omega) (by omega), Nat.and_one_is_mod, hb, BitVec.getLsbD, Nat.testBit_eq_decide_div_mod_eq]
  have := Nat.mod_two_eq_zero_or_one (x.toNat / 2 ^ k)
  rcases this with h | h <;> simp [h]
theorem w_one (j : Nat) : (2 : Int) ^ (31 - j) % 4294967296 = ((1#32 <<< (31 - j)).toNat : Int) := by
  rw [BitVec.toNat_shiftLeft, Nat.shiftLeft_eq]
  simp
end Crc

set_option maxRecDepth 100000 in
set_option maxHeartbeats 800000 in
theorem refof_any (A : Option Addr) (cap : Nat) (l : List UInt8) (w : World) (hp : Bytes w A l) (hn : l.length ≤ 9223372036854775807) :
    Calls Tryd.prog 72 #[.slice A l.length cap] w fun e w' => e = .returned (.int .u32 ((Crc.sum l).toNat : Int)) ∧ w = w' := by
  go_enter Tryd.func72, Tryd.ntmps72
  go_wp2
  go_loop [3, 4] (fun x i => ∃ k : Nat, k ≤ l.length ∧ i = .int .i64 k ∧ x = .int .u64 ((Crc.feedR 0xFFFFFFFF#32 (l.take k)).toNat : Int)) (fun _ i => l.length - (intOf i).toNat)
  case atStart => exact ⟨0, by omega, rfl, rfl⟩
  case round =>
    obtain ⟨k, hk, rfl, rfl⟩ := hrel
    by_cases hlt : k < l.length
    · obtain ⟨ad, rfl, had, hcell⟩ := hp.at_ hlt
      have hfs : Crc.feedR 0xFFFFFFFF#32 (l.take (k + 1)) = Crc.handR (Crc.feedR 0xFFFFFFFF#32 (l.take k)) l[k] 8 := by
        rw [take_snoc' l k hlt]
        exact List.foldl_append
      have HFS := Lib.hid hfs
      clear hfs
      generalize Crc.feedR 0xFFFFFFFF#32 (l.take k) = x at HFS
      have hc := l[k].toNat_lt
      generalize l[k] = c at hcell HFS hc
      have hx := x.isLt
      go_wp2_with fail
      go_loop [3, 5] (fun z i => ∃ j : Nat, j ≤ 8 ∧ i = .int .i64 j ∧ z = .int .u64 ((Crc.handR x c j).toNat : Int)) (fun _ i => 8 - (intOf i).toNat)
      case atStart => exact ⟨0, by omega, rfl, rfl⟩
      case round =>
        obtain ⟨j, hj, rfl, rfl⟩ := hrel
        by_cases hlt3 : j < 8
        · obtain ⟨y, hy0⟩ : ∃ y, y = Crc.handR x c j := ⟨_, rfl⟩
          obtain ⟨b, hb0⟩ : ∃ b, b = c.toNat.testBit j := ⟨_, rfl⟩
          have hst : Crc.handR x c (j + 1) = Crc.stepR y b := by rw [hy0, hb0]; rfl
          have HST := Lib.hid hst
          have HX := Crc.w_bit c.toNat j hc b hb0
          rw [← hy0]
          clear hst hy0 hb0
          have hy := y.isLt
          have hy1 := (y <<< 1).isLt
          have hjb : j ≤ IntKind.u8.bits := by show j ≤ 8; omega
          have HY0 := Crc.w_step y b _ rfl
          cases hm : (y.msb ^^ b)
          · rw [hm, if_neg (by decide), Nat.add_zero] at HY0
            rw [Crc.stepR_no y b hm] at HST
            clear hm
            obtain ⟨z, hz⟩ : ∃ z, z = (y <<< 1).toNat := ⟨_, rfl⟩
            rw [← hz] at HY0 hy1
            have HZ := Lib.hid hz
            clear hz
            obtain ⟨i, hi, HX1, HY⟩ : ∃ i : Int, (i = 0 ∨ i = 1) ∧ bits .and .u64 (IntKind.u64.wrap (shrI (c.toNat : Int) j)) 1 = i ∧ bits .xor .u64 ((y.toNat : Int) * 2) (i * 4294967296) = (z : Int) := by
              refine ⟨_, ?_, HX, ?_⟩
              · cases b <;> simp
              · rw [← HY0]; congr 1
            have hd : decide ((4294967296 : Int) ≤ (z : Int)) = false := by rw [decide_eq_false_iff_not]; omega
            clear HX HY0
            rcases hi with rfl | rfl
            all_goals
              simp only [Int.zero_mul, Int.one_mul] at HY
              go_wp2_with (((with_reducible refine wpList_shr (k := .u8) (k' := .i64) (xv := (c.toNat : Int)) (j := j) rfl rfl ?_ ?_ hjb ?_); rfl; rfl))
              go_round
              case rel => exact ⟨j + 1, by omega, by go_num, by rw [HST.out, HZ.out]⟩
              case measure => simp [intOf]; omega
          · rw [hm, if_pos rfl] at HY0
            obtain ⟨z, hz⟩ : ∃ z, z = (y <<< 1).toNat + 4294967296 := ⟨_, rfl⟩
            have HZ := Crc.w_back y b hm z hz
            have hz1 : 4294967296 ≤ z := by omega
            rw [← hz] at HY0
            clear hm hz
            obtain ⟨i, hi, HX1, HY⟩ : ∃ i : Int, (i = 0 ∨ i = 1) ∧ bits .and .u64 (IntKind.u64.wrap (shrI (c.toNat : Int) j)) 1 = i ∧ bits .xor .u64 ((y.toNat : Int) * 2) (i * 4294967296) = (z : Int) := by
              refine ⟨_, ?_, HX, ?_⟩
              · cases b <;> simp
              · rw [← HY0]; congr 1
            have hd : decide ((4294967296 : Int) ≤ (z : Int)) = true := by rw [decide_eq_true_iff]; omega
            clear HX HY0
            rcases hi with rfl | rfl
            all_goals
              simp only [Int.zero_mul, Int.one_mul] at HY
              go_wp2_with (((with_reducible refine wpList_shr (k := .u8) (k' := .i64) (xv := (c.toNat : Int)) (j := j) rfl rfl ?_ ?_ hjb ?_); rfl; rfl))
              go_round
              case rel => exact ⟨j + 1, by omega, by go_num, by rw [HST.out]⟩
              case measure => simp [intOf]; omega
        · have hj8 : j = 8 := by omega
          subst hj8
          rw [← HFS.out]
          clear hlt3
          go_wp2
          go_round
          case rel => exact ⟨k + 1, by omega, by go_num, rfl⟩
          case measure => simp [intOf]; omega
    · have hkl : k = l.length := by omega
      subst hkl
      rw [List.take_length, Crc.feedR_eq]
      obtain ⟨x, hx0⟩ : ∃ x, x = Crc.feed 0xFFFFFFFF#32 l := ⟨_, rfl⟩
      rw [← hx0]
      have HX0 := Lib.hid hx0
      clear hlt hx0
      have hx := x.isLt
      go_wp2_with fail
      go_loop [7, 8] (fun o i => ∃ j : Nat, j ≤ 32 ∧ i = .int .i64 j ∧ o = .int .u32 ((Crc.outR x j).toNat : Int)) (fun _ i => 32 - (intOf i).toNat)
      case atStart => exact ⟨0, by omega, rfl, rfl⟩
      case round =>
        obtain ⟨j, hj, rfl, rfl⟩ := hrel
        by_cases hlt3 : j < 32
        · obtain ⟨y, hy0⟩ : ∃ y, y = Crc.outR x j := ⟨_, rfl⟩
          have hst : Crc.outR x (j + 1) = if x.getLsbD j then y else y ||| (1#32 <<< (31 - j)) := by rw [hy0]; rfl
          rw [← hy0]
          clear hy0
          have hy := y.isLt
          have hjb : j ≤ IntKind.u64.bits := by show j ≤ 64; omega
          have HX := Crc.w_bit64 x j _ rfl
          cases hb : x.getLsbD j
          · rw [hb, if_neg (by decide)] at hst
            have HST := Lib.hid hst
            rw [hb] at HX
            simp only [Bool.toNat_false] at HX
            clear hst hb
            go_wp2_with (((with_reducible refine wpList_shr (k := .u64) (k' := .i64) (xv := (x.toNat : Int)) (j := j) rfl rfl ?_ ?_ hjb ?_); rfl; rfl))
            go_round
            case rel => exact ⟨j + 1, by omega, by go_num, by rw [HST.out]; exact congrArg (Value.int .u32) (Crc.w_or _ _ _ _ rfl (Crc.w_one j))⟩
            case measure => simp [intOf]; omega
          · rw [hb, if_pos rfl] at hst
            have HST := Lib.hid hst
            rw [hb] at HX
            simp only [Bool.toNat_true] at HX
            clear hst hb
            go_wp2_with (((with_reducible refine wpList_shr (k := .u64) (k' := .i64) (xv := (x.toNat : Int)) (j := j) rfl rfl ?_ ?_ hjb ?_); rfl; rfl))
            go_round
            case rel => exact ⟨j + 1, by omega, by go_num, by rw [HST.out]⟩
            case measure => simp [intOf]; omega
        · have hj8 : j = 32 := by omega
          subst hj8
          rw [Crc.outR_32, HX0.out]
          clear hlt3
          go_wp2
          go_ret
          exact ⟨rfl, rfl⟩
end Go.Proofs.YtdckdjkkaangmaaDoor

/- The walks of what is sealed. -/
namespace Go.Proofs.YtdckdjkkaangmaaDoor
set_option linter.unusedVariables false
set_option linter.unusedSimpArgs false
set_option maxRecDepth 100000
open Go.RowKit

namespace Crc
/-- The byte of a word at a place. -/
def byteAt (x : BitVec 32) (k : Nat) : UInt8 := UInt8.ofNat (x.toNat / 2 ^ (8 * k))
def le4 (x : BitVec 32) : List UInt8 := [byteAt x 0, byteAt x 1, byteAt x 2, byteAt x 3]
def sealed (l : List UInt8) : List UInt8 := l ++ le4 (sum l)
theorem le4_take (x : BitVec 32) (k : Nat) (hk : k < 4) : (le4 x).take (k + 1) = (le4 x).take k ++ [byteAt x k] := by
  have : k = 0 ∨ k = 1 ∨ k = 2 ∨ k = 3 := by omega
  rcases this with rfl | rfl | rfl | rfl <;> rfl
theorem w_byte (x : BitVec 32) (k : Nat) : IntKind.u8.wrap (shrI (x.toNat : Int) (8 * k)) = ((byteAt x k).toNat : Int) := by
  unfold shrI byteAt
  rw [IntKind.wrap_u8, UInt8.toNat_ofNat']
  simp
end Crc


set_option maxHeartbeats 400000 in
theorem places_any (w : World) :
    Calls Tryd.prog 53 #[] w fun e w' => e = .returned (.agg #[.int .i64 0, .int .i64 8, .int .i64 16, .int .i64 24]) ∧ Below w.heap.size w w' := by
  go_enter Tryd.func53, Tryd.ntmps53
  go_wp2
  exact bodyPost_ret (v := .agg #[.int .i64 0, .int .i64 8, .int .i64 16, .int .i64 24]) (by simp [results, Tryd.results53, go_sem]) rfl ⟨rfl, (Below.refl _ _).alloc (Nat.le_refl _) _⟩

/-- The place number k. -/
theorem place_at (k : Nat) (hk : k < 4) (w : World) : (Instr.index 98 (.agg #[.int .i64 0, .int .i64 8, .int .i64 16, .int .i64 24]) (.int .i64 (k : Int))).run Tryd.prog w = .ok (.int .i64 ((8 * k : Nat) : Int)) w := by
  have : k = 0 ∨ k = 1 ∨ k = 2 ∨ k = 3 := by omega
  rcases this with rfl | rfl | rfl | rfl <;> rfl

set_option maxHeartbeats 800000 in
theorem seal_any (A : Option Addr) (cap : Nat) (l : List UInt8) (w : World) (hp : Bytes w A l) (hn : l.length ≤ 1000000) (hc1 : l.length ≤ cap) (hc2 : cap ≤ 9223372036854775807) :
    Calls Tryd.prog 39 #[.slice A l.length cap] w fun e w' => ∃ v, e = .returned v ∧ w'.ownsRow w.heap.size 5 1 v (l.length + 4) ((Crc.sealed l).map bv) ∧ Below w.heap.size w w' := by
  have hpar := Parts.one 22 hp hc1 hc2
  obtain ⟨i0, z0, g1, g2, g3, g4, g5, g6, g7, g8⟩ := bytes_ty
  go_enter Tryd.func39, Tryd.ntmps39
  go_wp2_with (first
    | (go_at_call 54; refine (of_any _ _ [l] _ hpar (by simp) (by simp; omega)).mono ?_; rintro e w1 ⟨rfl, hb1⟩; have hbw : Below w.heap.size w w1 := below_call (below_new w _) (by simp) hb1)
    | (at_make; refine wpList_make_own _ rfl _ _ _ rfl w.heap.size 5 i0 z0 1 g1 g2 g3 g4 _ _ _ (l.length + 4) rfl rfl (by omega) (by rw [g5]; omega) (by simp only [maxLen]; omega) hbw.size ?_; intro w2 hown2 hg2; have hbw2 : Below w.heap.size w w2 := hbw.grown hg2 hbw.size (fun k hk => by cases hk))
    | (at_builtin; refine app_list bytes_ty rfl rfl hown2 rfl (Reads.below hp hbw2) rfl (bv_one l) (by omega) hbw2.size ?_; intro v3 w3 hown3 hg3 _; have hbw3 : Below w.heap.size w w3 := hbw2.grown hg3 hbw2.size (own_ge hown2))
    | (go_at_call 53; refine (places_any _).mono ?_; rintro e w4 ⟨rfl, hb4⟩; have hbw4 : Below w.heap.size w w4 := below_call hbw3 hbw3.size hb4))
  have hown4 := own_call hown3 hb4
  clear hown2 hown3
  obtain ⟨x, hx0⟩ : ∃ x, x = Crc.sum l := ⟨_, rfl⟩
  rw [← hx0]
  have HX := Lib.hid hx0
  clear hx0
  have hx := x.isLt
  go_loopw [4, 17] (fun v i wr => ∃ k : Nat, k ≤ 4 ∧ i = .int .i64 k ∧ wr.ownsRow w.heap.size 5 1 v (l.length + k) ((l ++ (Crc.le4 x).take k).map bv) ∧ Below w.heap.size w wr) (fun _ i _ => 4 - (intOf i).toNat)
  case atStart => exact ⟨0, by omega, rfl, by simpa using hown4, hbw4⟩
  case round =>
    obtain ⟨k, hk, rfl, hown, hbel⟩ := hrel
    by_cases hlt : k < 4
    · have hpl := place_at k hlt
      have ht := Crc.le4_take x k hlt
      have HT := Lib.hid ht
      have HB := Crc.w_byte x k
      have hjb : 8 * k ≤ IntKind.u32.bits := by show 8 * k ≤ 32; omega
      clear ht
      go_wp2_with (first
        | (((with_reducible refine wpList_shr (k := .u32) (k' := .i64) (xv := (x.toNat : Int)) (j := 8 * k) rfl rfl ?_ ?_ hjb ?_); rfl; rfl))
        | (at_builtin; refine app_list bytes_ty rfl rfl (hown.alloc _) rfl (Reads.one _ _ _) rfl (by simp [Value.oneCell']) (by omega) (by have := hbel.size; simp; omega) ?_; intro v5 w5 hown5 hg5 _))
      have hbel5 : Below w.heap.size w w5 := (hbel.alloc hbel.size _).grown hg5 (by have := hbel.size; simp; omega) (own_ge hown)
      go_roundw
      case rel =>
        refine ⟨k + 1, by omega, by go_num, ?_, hbel5⟩
        rw [HT.out, ← List.append_assoc, List.map_append, ← Nat.add_assoc]
        exact hown5
      case measure => simp [intOf]; omega
    · have hk4 : k = 4 := by omega
      subst hk4
      clear hlt
      go_wp2
      go_ret
      refine ⟨_, rfl, ?_, hbel⟩
      have e : Crc.sealed l = l ++ (Crc.le4 x).take 4 := by rw [HX.out]; rfl
      rw [e]
      exact hown
end Go.Proofs.YtdckdjkkaangmaaDoor

/- The walks of what is opened, and of the reference's sealing and opening. -/
namespace Go.Proofs.YtdckdjkkaangmaaDoor
set_option linter.unusedVariables false
set_option linter.unusedSimpArgs false
set_option maxRecDepth 100000
open Go.RowKit

namespace Crc
/-- Four bytes as a number, the lowest first, as far as k. -/
def rdN (d : List UInt8) : Nat → Nat
  | 0 => 0
  | k + 1 => rdN d k + (d.getD k 0).toNat * 2 ^ (8 * k)
theorem rdN_lt (d : List UInt8) : ∀ k, rdN d k < 2 ^ (8 * k)
  | 0 => by simp [rdN]
  | k + 1 => by
    have h := rdN_lt d k
    have h1 := (d.getD k 0).toNat_lt
    have e : 2 ^ (8 * (k + 1)) = 256 * 2 ^ (8 * k) := by rw [Nat.mul_add, Nat.pow_add, Nat.mul_comm]
    have h2 : (d.getD k 0).toNat * 2 ^ (8 * k) ≤ 255 * 2 ^ (8 * k) := Nat.mul_le_mul_right _ (by omega)
    unfold rdN
    omega
theorem rdN_join (a b i : Nat) (ha : a < 2 ^ i) : a ||| (b * 2 ^ i) = a + b * 2 ^ i := by
  have := Nat.two_pow_add_eq_or_of_lt ha b
  rw [Nat.mul_comm] at this
  rw [Nat.or_comm, ← this, Nat.add_comm]
theorem w_rd (d : List UInt8) (k : Nat) (hk : k < 4) :
    bits .or .u32 (rdN d k : Int) (((d.getD k 0).toNat : Int) * 2 ^ (8 * k) % 4294967296) = (rdN d (k + 1) : Int) := by
  have h1 := (d.getD k 0).toNat_lt
  have h2 := rdN_lt d k
  have h3 := rdN_lt d (k + 1)
  have h4 : (2 : Nat) ^ (8 * (k + 1)) ≤ 2 ^ 32 := Nat.pow_le_pow_right (by omega) (by omega)
  have h5 : (2 : Nat) ^ (8 * k) ≤ 2 ^ 24 := Nat.pow_le_pow_right (by omega) (by omega)
  have e : rdN d (k + 1) = rdN d k + (d.getD k 0).toNat * 2 ^ (8 * k) := rfl
  have e1 : ((d.getD k 0).toNat : Int) * 2 ^ (8 * k) % 4294967296 = (((d.getD k 0).toNat * 2 ^ (8 * k) : Nat) : Int) := by
    have e3 : ((d.getD k 0).toNat : Int) * 2 ^ (8 * k) = (((d.getD k 0).toNat * 2 ^ (8 * k) : Nat) : Int) := by simp
    rw [e3]
    omega
  rw [e1, u32_or_nat _ _ (by omega) (by omega), rdN_join _ _ _ h2, e]
theorem le4_rd (x : BitVec 32) (a b c d : UInt8) : rdN [a, b, c, d] 4 = x.toNat ↔ le4 x = [a, b, c, d] := by
  have hx := x.isLt
  have ha := a.toNat_lt
  have hb := b.toNat_lt
  have hc := c.toNat_lt
  have hd := d.toNat_lt
  have e : rdN [a, b, c, d] 4 = a.toNat + b.toNat * 256 + c.toNat * 65536 + d.toNat * 16777216 := by simp [rdN]
  rw [e]
  unfold le4 byteAt
  simp only [List.cons.injEq, and_true, ← UInt8.toNat_inj, UInt8.toNat_ofNat']
  simp only [Nat.mul_zero, Nat.pow_zero, Nat.div_one, Nat.mul_one, show (2 : Nat) ^ 8 = 256 from rfl, show (2 : Nat) ^ (8 * 2) = 65536 from rfl, show (2 : Nat) ^ (8 * 3) = 16777216 from rfl]
  omega

/-- What bytes are opened as. -/
def opened (l : List UInt8) : Option (List UInt8) :=
  if l.length < 4 then none else if sealed (l.take (l.length - 4)) = l then some (l.take (l.length - 4)) else none
theorem opened_short (l : List UInt8) (h : l.length < 4) : opened l = none := by unfold opened; rw [if_pos h]
theorem opened_long (t d : List UInt8) (h : d.length = 4) : opened (t ++ d) = if le4 (sum t) = d then some t else none := by
  have e : (t ++ d).take ((t ++ d).length - 4) = t := by
    rw [List.length_append, h, Nat.add_sub_cancel]
    exact List.take_left
  unfold opened
  rw [if_neg (by simp; omega), e]
  unfold sealed
  simp only [List.append_cancel_left_eq]
end Crc

/-- What opening answers. -/
def OpenPost (B : Nat) (o : Option (List UInt8)) (e : Ending) (w' : World) : Prop :=
  match o with
  | none => e = .returned (.tuple #[.slice none 0 0, .bool false])
  | some t => ∃ v, e = .returned (.tuple #[v, .bool true]) ∧ w'.ownsRow B 5 1 v t.length (t.map bv)

set_option maxHeartbeats 400000 in
theorem open_short (A : Option Addr) (cap : Nat) (l : List UInt8) (w : World) (hn : l.length < 4) :
    Calls Tryd.prog 19 #[.slice A l.length cap] w fun e w' => e = .returned (.tuple #[.slice none 0 0, .bool false]) ∧ w = w' := by
  go_enter Tryd.func19, Tryd.ntmps19
  go_wp2
  go_ret2
  exact ⟨rfl, rfl⟩

set_option maxHeartbeats 800000 in
theorem open_long (A : Option Addr) (cap : Nat) (t d : List UInt8) (hd : d.length = 4) (w : World) (hp : Reads w 1 A (t.length + 4) ((t ++ d).map bv)) (hn : t.length ≤ 1000000) (hc1 : t.length + 4 ≤ cap) (hc2 : cap ≤ 9223372036854775807) :
    Calls Tryd.prog 19 #[.slice A (t.length + 4) cap] w fun e w' => OpenPost w.heap.size (Crc.opened (t ++ d)) e w' ∧ Below w.heap.size w w' := by
  go_enter Tryd.func19, Tryd.ntmps19
  go_wp2_with (first
    | (go_at_call 53; refine (places_any _).mono ?_; rintro e w4 ⟨rfl, hb4⟩))
  go_loop [5, 14] (fun x i => ∃ k : Nat, k ≤ 4 ∧ i = .int .i64 k ∧ x = .int .u32 (Crc.rdN d k : Int)) (fun _ i => 4 - (intOf i).toNat)
  case atStart => exact ⟨0, by omega, rfl, rfl⟩
  case round =>
    obtain ⟨k, hk, rfl, rfl⟩ := hrel
    by_cases hlt : k < 4
    · have hpl := place_at k hlt
      obtain ⟨ad, u, rfl, had, hu, hcell⟩ := hp.at_ (k := t.length + k) (by omega)
      have hu' : u = .int .u8 ((d.getD k 0).toNat : Int) := by
        rw [List.map_append, List.getElem?_append_right (by simp)] at hu
        simp only [List.length_map, Nat.add_sub_cancel_left, List.getElem?_map, List.getElem?_eq_getElem (show k < d.length by omega), Option.map_some, Option.some.injEq] at hu
        rw [← hu, List.getD_eq_getElem?_getD, List.getElem?_eq_getElem (by omega)]
        rfl
      rw [hu'] at hcell
      replace hcell : w4.cell? (ad.add (t.length + k)) = _ := (hb4.cell (by rw [add_block]; exact had)).trans hcell
      clear hu hu'
      have HW := Crc.w_rd d k hlt
      have h255 := (d.getD k 0).toNat_lt
      generalize (d.getD k 0).toNat = q at hcell HW h255
      have HH := Lib.hid HW
      clear HW
      go_wp2
      go_round
      case rel => exact ⟨k + 1, by omega, by go_num, by rw [HH.out]⟩
      case measure => simp [intOf]; omega
    · have hk4 : k = 4 := by omega
      subst hk4
      clear hlt
      have hpt : Bytes w A t := by
        have := hp.take (k := t.length) (by omega)
        rw [Nat.mul_one, List.map_append, List.take_left' (by simp)] at this
        exact this
      have hpar := Parts.one 22 (Bytes.below hpt hb4) (show t.length ≤ cap by omega) hc2
      have heq : Crc.rdN d 4 = (Crc.sum t).toNat ↔ Crc.le4 (Crc.sum t) = d := by
        match d, hd with
        | [d0, d1, d2, d3], _ => exact Crc.le4_rd _ d0 d1 d2 d3
      have h4 := Crc.rdN_lt d 4
      have HEQ := Lib.hid heq
      clear heq hp
      generalize Crc.rdN d 4 = x at HEQ h4
      by_cases hx : x = (Crc.sum t).toNat
      · have HFIN := Lib.hid ((Crc.opened_long t d hd).trans (if_pos (HEQ.out.1 hx)))
        subst hx
        go_wp2_with (first
          | (go_at_call 54; refine (of_any _ _ [t] _ hpar (by simp) (by simp; omega)).mono ?_; rintro e w1 ⟨rfl, hb1⟩; simp only [List.flatten_cons, List.flatten_nil, List.append_nil]; have hbw : Below w.heap.size w w1 := below_call (hb4.alloc hb4.size _) (by have := hb4.size; simp; omega) hb1)
          | (at_builtin; refine app_list bytes_ty rfl rfl (World.ownsRow_nil _ w.heap.size _ _) rfl (Reads.below hpt hbw) rfl (bv_one t) (by omega) hbw.size ?_; intro v3 w3 hown3 hg3 _))
        go_ret2
        rw [HFIN.out]
        exact ⟨⟨_, rfl, by simpa using hown3⟩, hbw.grown hg3 hbw.size (fun k hk => by cases hk)⟩
      · have HFIN := Lib.hid ((Crc.opened_long t d hd).trans (if_neg (fun h => hx (HEQ.out.2 h))))
        have hne : ((x : Int) != ((Crc.sum t).toNat : Int)) = true := by rw [bne_iff_ne]; omega
        go_wp2_with (first
          | (go_at_call 54; refine (of_any _ _ [t] _ hpar (by simp) (by simp; omega)).mono ?_; rintro e w1 ⟨rfl, hb1⟩; simp only [List.flatten_cons, List.flatten_nil, List.append_nil]; have hbw : Below w.heap.size w w1 := below_call (hb4.alloc hb4.size _) (by have := hb4.size; simp; omega) hb1))
        go_ret2
        rw [HFIN.out]
        exact ⟨rfl, hbw⟩

theorem open_any (A : Option Addr) (cap : Nat) (l : List UInt8) (w : World) (hp : Bytes w A l) (hn : l.length ≤ 1000000) (hc1 : l.length ≤ cap) (hc2 : cap ≤ 9223372036854775807) :
    Calls Tryd.prog 19 #[.slice A l.length cap] w fun e w' => OpenPost w.heap.size (Crc.opened l) e w' ∧ Below w.heap.size w w' := by
  by_cases h : l.length < 4
  · refine (open_short A cap l w h).mono ?_
    rintro e w' ⟨rfl, rfl⟩
    rw [Crc.opened_short l h]
    exact ⟨rfl, Below.refl _ _⟩
  · obtain ⟨t, d, rfl, hd⟩ : ∃ t d, l = t ++ d ∧ d.length = 4 := ⟨l.take (l.length - 4), l.drop (l.length - 4), (List.take_append_drop _ _).symm, by rw [List.length_drop]; omega⟩
    have e : (t ++ d).length = t.length + 4 := by rw [List.length_append, hd]
    unfold Bytes at hp
    rw [e] at hp hn hc1 ⊢
    exact open_long A cap t d hd w hp (by omega) hc1 hc2
end Go.Proofs.YtdckdjkkaangmaaDoor
