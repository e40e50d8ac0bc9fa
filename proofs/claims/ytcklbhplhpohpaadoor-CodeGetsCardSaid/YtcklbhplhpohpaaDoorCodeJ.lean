/- The reader's Fail, End, Raw. -/
import Derived.Test.YtcklbhplhpohpaaDoorCodeI
namespace Go.Proofs.YtcklbhplhpohpaaDoor
open Go.RowKit

section
variable (r : Nat) (A : Option Addr) (c : Nat) (l : List UInt8) (p : Nat) (f : Bool) (w : World)
theorem fail_any (h : RdB w r A c l p f) : Calls Tryd.prog 31 #[.pointer (some ⟨r, 0, none⟩)] w fun e w' => e = .returned (.tuple #[]) ∧ RdB w' r A c l p true ∧ w.grownBy w' (some r) := by
  have c2 : w.cell? ⟨r, 2, none⟩ = some (.bool f) := h.rd.cell 2
  have f2 : w.frozen? ⟨r, 2, none⟩ = false := h.rd.free 2
  have H := Lib.hid h
  clear h
  go_enter Tryd.func31, Tryd.ntmps31
  go_wp2_with fail
  go_end0
  have hg : w.grownBy (w.setCell ⟨r, 2, none⟩ (.bool true)) (some r) := only_set (only_refl _ _) 2 _
  exact ⟨rfl, H.out.only hg (Blk.put H.out.rd 2 _) H.out.pl, hg⟩
theorem fail_nil : Calls Tryd.prog 31 #[.pointer none] w fun e w' => e = .returned (.tuple #[]) ∧ w = w' := by
  go_enter Tryd.func31, Tryd.ntmps31
  go_wp2_with fail
  go_end0
  exact ⟨rfl, rfl⟩
theorem end_any (h : RdB w r A c l p f) : Calls Tryd.prog 29 #[.pointer (some ⟨r, 0, none⟩)] w fun e w' => e = .returned (.int .i64 (if f || decide (p < l.length) then 2 else 0)) ∧ RdB w' r A c l p (f || decide (p < l.length)) ∧ w.grownBy w' (some r) := by
  have H := Lib.hid h
  have HL := Lib.hid (left_any r A c l p f w h)
  clear h
  by_cases hp : p < l.length
  · have hd : decide (0 < l.length - p) = true := by rw [decide_eq_true_iff]; omega
    have hi : (0 : Int) < ((l.length - p : Nat) : Int) := by omega
    rw [decide_eq_true hp, Bool.or_true]
    clear hp
    go_enter Tryd.func29, Tryd.ntmps29
    go_wp2_with fail
    refine HL.out.mono ?_
    rintro e w1 ⟨rfl, q, rfl⟩
    have hg1 : w.grownBy (w.drewN q) (some r) := only_drewN (only_refl _ _) q
    have h1 := H.out.only hg1 (Blk.drewN H.out.rd q) H.out.pl
    go_wp2_with fail
    refine (fail_any r A c l p f _ h1).mono ?_
    rintro e w2 ⟨rfl, h2, hg2⟩
    go_wp2_with fail
    refine (err_any r A c l p true _ h2).mono ?_
    rintro e w3 ⟨rfl, rfl⟩
    go_wp2_with fail
    go_ret
    exact ⟨rfl, h2, only_trans hg1 hg2⟩
  · have hd : decide (0 < l.length - p) = false := by rw [decide_eq_false_iff_not]; omega
    have hi : ¬ (0 : Int) < ((l.length - p : Nat) : Int) := by omega
    rw [decide_eq_false hp, Bool.or_false]
    clear hp
    cases f
    all_goals
      go_enter Tryd.func29, Tryd.ntmps29
      go_wp2_with fail
      refine HL.out.mono ?_
      rintro e w1 ⟨rfl, q, rfl⟩
      have hg1 : w.grownBy (w.drewN q) (some r) := only_drewN (only_refl _ _) q
      have h1 := H.out.only hg1 (Blk.drewN H.out.rd q) H.out.pl
      go_wp2_with fail
      refine (err_any r A c l p _ _ h1).mono ?_
      rintro e w3 ⟨rfl, rfl⟩
      go_wp2_with fail
      go_ret
      exact ⟨rfl, h1, hg1⟩
end
end Go.Proofs.YtcklbhplhpohpaaDoor
