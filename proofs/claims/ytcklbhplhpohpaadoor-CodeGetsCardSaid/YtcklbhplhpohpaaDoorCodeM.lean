/- The reader's Raw: the ways. -/
import Derived.Test.YtcklbhplhpohpaaDoorCodeL
namespace Go.Proofs.YtcklbhplhpohpaaDoor
open Go.RowKit

theorem raw_way (r a m b : Nat) (A : Option Addr) (c : Nat) (l : List UInt8) (p n : Nat) (f : Bool) (W : World) (h : RdB W r A c l p f) (x : Value) (ha : Blk W a 41 #[.pointer (some ⟨r, 0, none⟩)]) (hm : Blk W m 3 #[.int .i64 (n : Int)]) (hb : Blk W b 27 #[x])
    (hbr : b ≠ r) (hAb : ∀ ad, A = some ad → ad.block ≠ b) (hlt : p + n ≤ l.length) (hn : n ≤ 140737488355328) :
    Calls Tryd.prog 56 #[.pointer (some ⟨a, 0, none⟩), .pointer (some ⟨m, 0, none⟩), .pointer (some ⟨b, 0, none⟩)] W fun e w' => e = .returned (.tuple #[]) ∧ RdB w' r A c l (p + n) f ∧
      (∃ A' c', Blk w' b 27 #[.slice A' n c'] ∧ w'.ownsRow W.heap.size 5 1 (.slice A' n c') n (((l.drop p).take n).map bv)) ∧ Only2 r b W w' := by
  have c0 : W.cell? ⟨a, 0, none⟩ = some (.pointer (some ⟨r, 0, none⟩)) := ha.cell 0
  have c1 : W.cell? ⟨m, 0, none⟩ = some (.int .i64 (n : Int)) := hm.cell 0
  have HN := Lib.hid (next_ok r A c l p f n W h hlt)
  have hlen : ((l.drop p).take n).length = n := by rw [List.length_take, List.length_drop]; omega
  generalize (l.drop p).take n = xs at HN hlen ⊢
  have HL := Lib.hid hlen
  clear hlen
  go_enter Tryd.func56, Tryd.ntmps56
  go_wp2_with fail
  refine HN.out.mono ?_
  rintro e w3 ⟨⟨B, rfl, hB⟩, hR3, hg3⟩
  have hb3 : Blk w3 b 27 #[x] := hb.grown hg3 (by simpa using hbr)
  have hcl := bclone_any B n xs w3 hB (by rw [HL.out]; exact hn)
  rw [HL.out] at hcl
  go_wp2_with fail
  refine hcl.mono ?_
  clear hcl
  rintro e w4 ⟨⟨A4, c4, rfl, hown⟩, hb4⟩
  have hb5 : Blk w4 b 27 #[x] := hb3.below hb4 hb3.lt
  have b0 : w4.cell? ⟨b, 0, none⟩ = some x := hb5.cell 0
  have bf : w4.frozen? ⟨b, 0, none⟩ = false := hb5.free 0
  have hR4 := hR3.below hb4
  have hlt3 := hb3.lt
  go_wp2_with fail
  go_end0
  rw [HL.out] at hown ⊢
  have hk := World.ownsRow.kept hown (only_set (only_refl w4 (some b)) 0 (.slice A4 n c4)) (by
    cases A4 with
    | none => exact .inl rfl
    | some ad =>
      have := (row_at_head hown ad rfl).2.2.1
      refine .inr ?_
      simp only [Value.ownBlock, ne_eq, Option.some.injEq]
      omega)
  exact ⟨rfl, hR4.far hbr hAb 0 _, ⟨A4, c4, hb5.put0 _, base_le hk hg3.size⟩, ((Only2.of hg3).below hb4).put 0 _⟩
theorem raw_stop (r a m : Nat) (bv_ : Value) (A : Option Addr) (c : Nat) (l : List UInt8) (p : Nat) (n : Int) (f : Bool) (W : World) (h : RdB W r A c l p f) (ha : Blk W a 41 #[.pointer (some ⟨r, 0, none⟩)]) (hm : Blk W m 3 #[.int .i64 n]) (hlt : n < 0 ∨ (l.length : Int) - p < n) :
    Calls Tryd.prog 56 #[.pointer (some ⟨a, 0, none⟩), .pointer (some ⟨m, 0, none⟩), bv_] W fun e w' => e = .panicked gaveUp ∧ RdB w' r A c l p f ∧ W.grownBy w' (some r) := by
  have c0 : W.cell? ⟨a, 0, none⟩ = some (.pointer (some ⟨r, 0, none⟩)) := ha.cell 0
  have c1 : W.cell? ⟨m, 0, none⟩ = some (.int .i64 n) := hm.cell 0
  have HN := Lib.hid (next_bad r A c l p f n W h hlt)
  clear hlt
  go_enter Tryd.func56, Tryd.ntmps56
  go_wp2_with fail
  refine HN.out.mono ?_
  rintro e w3 ⟨rfl, hR3, hg3⟩
  go_wp2_with fail
  exact ⟨rfl, rfl, hR3, hg3⟩
end Go.Proofs.YtcklbhplhpohpaaDoor
