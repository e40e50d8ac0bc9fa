/- The walks of the register and of the sum. -/
import Derived.Test.YtgnegofkffiopaaSumB
namespace Go.Proofs.Ytgnegofkffiopaa
open Go.RowKit

set_option maxHeartbeats 400000 in
theorem register_any (w : World) :
    Calls Try.prog 15 #[] w fun e w' =>
      e = .returned (.tuple #[.func (.func 17) #[] #[.pointer (some ⟨w.heap.size, 0, none⟩)], .func (.func 19) #[] #[.pointer (some ⟨w.heap.size, 0, none⟩)]]) ∧
      Blk w' w.heap.size 25 #[.int .u32 4294967295] ∧ Below w.heap.size w w' := by
  have hmf : ∀ (fn : Fn) (first cap : Array Value) (w : World), (Instr.makeFunc fn first cap).run Try.prog w = .ok (.func fn first cap) w := fun _ _ _ _ => rfl
  go_enter Try.func15, Try.ntmps15
  go_wp2
  go_ret2
  refine ⟨rfl, Blk.new _ _ _, (Below.refl _ _).alloc (Nat.le_refl _) _⟩

theorem Crc.w_not (x : BitVec 32) (i : Int) (hi : i = ((Crc.rev32 x).toNat : Int)) : bits .xor .u32 IntKind.u32.max i = ((Crc.fin x).toNat : Int) := by
  have h : Crc.fin x = 0xFFFFFFFF#32 ^^^ Crc.rev32 x := by
    unfold Crc.fin
    rw [BitVec.xor_comm]
    exact (BitVec.xor_allOnes (x := Crc.rev32 x)).symm
  rw [h]
  exact Crc.w_xor _ _ _ _ rfl hi

set_option maxHeartbeats 400000 in
theorem left_any (g : Nat) (x : BitVec 32) (w : World) (hg : Blk w g 25 #[.int .u32 (x.toNat : Int)]) :
    Calls Try.prog 19 #[.pointer (some ⟨g, 0, none⟩)] w fun e w' => e = .returned (.int .u32 ((Crc.fin x).toNat : Int)) ∧ w = w' := by
  have hx := x.isLt
  have c0 : w.cell? ⟨g, 0, none⟩ = some (.int .u32 (x.toNat : Int)) := hg.cell 0
  go_enter Try.func19, Try.ntmps19
  go_wp2_with (go_at_call 20; refine (rev32_any x _).mono ?_; rintro e w' ⟨rfl, rfl⟩)
  go_ret
  refine ⟨ret_int ?_, rfl⟩
  exact Crc.w_not _ _ rfl

theorem Crc.feed_snoc (x : BitVec 32) (l : List UInt8) (c : UInt8) : Crc.feed x (l ++ [c]) = Crc.hand (Crc.feed x l) c := by
  rw [Crc.feed_append]; rfl
theorem take_snoc' {α : Type} (l : List α) (k : Nat) (h : k < l.length) : l.take (k + 1) = l.take k ++ [l[k]] := List.take_succ_eq_append_getElem h

set_option maxHeartbeats 400000 in
theorem of_any (A : Option Addr) (c : Nat) (ls : List (List UInt8)) (w : World) (hp : Parts w A ls) (hn : ls.length ≤ 9223372036854775807) (hl : ∀ l ∈ ls, l.length ≤ 9223372036854775807) :
    Calls Try.prog 9 #[.slice A ls.length c] w fun e w' => e = .returned (.int .u32 ((Crc.sum ls.flatten).toNat : Int)) ∧ Below w.heap.size w w' := by
  go_enter Try.func9, Try.ntmps9
  go_wp2_with (go_at_call 15; refine (register_any _).mono ?_; rintro e w1 ⟨rfl, hb1, hbel1⟩)
  have hlt := hb1.lt
  go_loopw [15] (fun i wr => ∃ k : Nat, k ≤ ls.length ∧ i = .int .i64 k ∧ Blk wr w.heap.size 25 #[.int .u32 ((Crc.feed 0xFFFFFFFF#32 (ls.take k).flatten).toNat : Int)] ∧ Below w.heap.size w wr) (fun i _ => ls.length - (intOf i).toNat)
  case atStart => exact ⟨0, by omega, rfl, hb1, hbel1⟩
  case round =>
    obtain ⟨k, hk, rfl, hb, hbel⟩ := hrel
    by_cases hlt2 : k < ls.length
    · obtain ⟨ad, A', c', rfl, had, hcell, hc1, hc2, hby⟩ := hp.at_ hlt2
      replace hcell : wr.cell? (ad.add k) = _ := (hbel.cell (by rw [add_block]; exact had)).trans hcell
      have hlk := hl _ (List.getElem_mem hlt2)
      have hts : (ls.take (k + 1)).flatten = (ls.take k).flatten ++ ls[k] := by rw [take_snoc' ls k hlt2, List.flatten_append, List.flatten_cons, List.flatten_nil, List.append_nil]
      have HTS := Lib.hid hts
      clear hts
      generalize (ls.take k).flatten = pre at hb HTS
      generalize ls[k] = l at hcell hc1 hby hlk HTS
      go_wp2_with fail
      obtain ⟨wo, hwo⟩ : ∃ wo : World, wo = wr := ⟨_, rfl⟩
      rw [← hwo]
      rw [← hwo] at hcell hb hbel
      clear hwo
      go_loopw [21] (fun i wi => ∃ j : Nat, j ≤ l.length ∧ i = .int .i64 j ∧ Blk wi w.heap.size 25 #[.int .u32 ((Crc.feed 0xFFFFFFFF#32 (pre ++ l.take j)).toNat : Int)] ∧ Below w.heap.size w wi) (fun i _ => l.length - (intOf i).toNat)
      case atStart => exact ⟨0, by omega, rfl, by simpa using hb, hbel⟩
      case round =>
        obtain ⟨j, hj, rfl, hbi, hbeli⟩ := hrel
        by_cases hlt3 : j < l.length
        · obtain ⟨ad', rfl, had', hcell'⟩ := hby.at_ hlt3
          have hcl : wr.cell? (ad'.add j) = some (.int .u8 (l[j].toNat : Int)) := (hbeli.cell (by rw [add_block]; exact had')).trans hcell'
          have hsn : Crc.feed 0xFFFFFFFF#32 (pre ++ l.take (j + 1)) = Crc.hand (Crc.feed 0xFFFFFFFF#32 (pre ++ l.take j)) l[j] := by
            rw [take_snoc' l j hlt3, ← List.append_assoc, Crc.feed_snoc]
          have HSN := Lib.hid hsn
          clear hsn hcell hcell'
          go_wp2_with (go_at_call 17; refine (hand_any _ _ _ _ hbi).mono ?_; rintro e w2 ⟨rfl, hb2, ho2⟩)
          go_roundw
          case rel => exact ⟨j + 1, by omega, by go_num, by rw [HSN.out]; exact hb2, below_only hbeli ho2 hbeli.size (Nat.le_refl _)⟩
          case measure => simp [intOf]; omega
        · have hjl : j = l.length := by omega
          subst hjl
          rw [List.take_length, ← HTS.out] at hbi
          clear hlt3
          go_wp2
          go_roundw
          case rel => exact ⟨k + 1, by omega, by go_num, hbi, hbeli⟩
          case measure => simp [intOf]; omega
    · have hkl : k = ls.length := by omega
      subst hkl
      rw [List.take_length] at hb
      clear hlt2
      go_wp2_with (go_at_call 19; refine (left_any _ _ _ hb).mono ?_; rintro e w2 ⟨rfl, rfl⟩)
      go_ret
      exact ⟨rfl, hbel⟩
end Go.Proofs.Ytgnegofkffiopaa
