/- The walk of SeenFolds. -/
import Derived.Test.YtgdbknbpnlpdnaaFoldD
import Derived.Test.YtgdbknbpnlpdnaaFoldF
import Derived.Test.YtgdbknbpnlpdnaaSeenT
namespace Go.Proofs.Ytgdbknbpnlpdnaa
set_option linter.unusedVariables false
set_option linter.unusedSimpArgs false
open Go.RowKit

set_option maxRecDepth 100000 in
set_option maxHeartbeats 2000000 in
theorem foldsLaw_any (A : Option Addr) (c : Nat) (l : List Mk) (B : Option Addr) (d : Nat) (m : List Mk) (q : UInt64) (w : World) (hA : Marks w A l) (hB : Marks w B m)
    (h1 : l.length ≤ 9223372036854775807) (h2 : m.length ≤ 9223372036854775807) :
    Calls Try.prog 8 #[.slice A l.length c, .slice B m.length d, .int .u64 (q.toNat : Int)] w fun e w' => e = .returned (.bool true) ∧ Below w.heap.size w w' := by
  by_cases n1 : 1000 < l.length
  · clear hA hB
    go_enter Try.func8, Try.ntmps8
    go_wp2_with fail
    refine (awake_any _).mono ?_
    rintro e w1 ⟨rfl, hb1⟩
    go_wp2_with fail
    go_ret
    exact ⟨rfl, hb1⟩
  · by_cases n2 : 1000 < m.length
    · clear hA hB
      go_enter Try.func8, Try.ntmps8
      go_wp2_with fail
      refine (awake_any _).mono ?_
      rintro e w1 ⟨rfl, hb1⟩
      go_wp2_with fail
      go_ret
      exact ⟨rfl, hb1⟩
    · have hrA := Mk.row_one l
      have hrB := Mk.row_one m
      have hownA : (w.alloc (.cells #[] 38)).ownsRow w.heap.size 38 3 (.slice (some ⟨w.heap.size, 0, none⟩) 0 0) 0 [] := World.ownsRow_made _ _ _ (Nat.le_refl _) (by simp [maxLen]) rfl
      have hAa : Marks (w.alloc (.cells #[] 38)) A l := hA.below (below_new _ _)
      have hx1 : (0 + l.length) * 24 ≤ 140737488355328 := by omega
      have hx2 : (0 + m.length) * 24 ≤ 140737488355328 := by omega
      have hx3 : w.heap.size ≤ (w.alloc (.cells #[] 38)).heap.size := by rw [alloc_size]; omega
      go_enter Try.func8, Try.ntmps8
      go_wp2_with (at_builtin; refine app_list marks_ty rfl rfl hownA rfl hAa rfl hrA hx1 hx3 ?_; intro v3 w3 hown3 hg3 _; refine Hid.out ?_)
      refine Lib.hid ?_
      have hw3 : Below w.heap.size w w3 := (below_new _ _).grown hg3 hx3 (own_ge hownA)
      have hwas : OwnM w3 w.heap.size v3 l := by unfold OwnM; simpa using hown3
      clear hown3 hg3 hownA hAa hx3
      have hownB : (w3.alloc (.cells #[] 38)).ownsRow w3.heap.size 38 3 (.slice (some ⟨w3.heap.size, 0, none⟩) 0 0) 0 [] := World.ownsRow_made _ _ _ (Nat.le_refl _) (by simp [maxLen]) rfl
      have hBb : Marks (w3.alloc (.cells #[] 38)) B m := (hB.below hw3).below (below_new _ _)
      have hx3 : w3.heap.size ≤ (w3.alloc (.cells #[] 38)).heap.size := by rw [alloc_size]; omega
      go_wp2_with (at_builtin; refine app_list marks_ty rfl rfl hownB rfl hBb rfl hrB hx2 hx3 ?_; intro v4 w4 hown4 hg4 _; refine Hid.out ?_)
      refine Lib.hid ?_
      have hw34 : Below w3.heap.size w3 w4 := (below_new _ _).grown hg4 hx3 (own_ge hownB)
      have hwas2 : OwnM w4 w3.heap.size v4 m := by unfold OwnM; simpa using hown4
      clear hown4 hg4 hownB hBb hx3 hx1 hx2 hrA hrB
      obtain ⟨A3, c3, rfl, _, _⟩ := hwas.form
      obtain ⟨A4, c4, rfl, _, _⟩ := hwas2.form
      have HW := Lib.hid (below_call hw3 hw3.size hw34)
      have HA := Lib.hid (hA.below HW.out)
      have HB := Lib.hid (hB.below HW.out)
      have HA3 := Lib.hid (hwas.marks.below hw34)
      have HB4 := Lib.hid hwas2.marks
      clear hA hB hwas hwas2 hw3 hw34
      go_wp2_with fail
      refine (fold_any sort_any A c l B d m q w4 HA.out HB.out (by omega) (by omega)).mono ?_
      rintro e w5 ⟨⟨v5, S, rfl, hS, hSl, hO5⟩, hb5⟩
      have HS := Lib.hid hS
      have HO5 := Lib.hid hO5
      have HB5 := Lib.hid hb5
      have HSL := Lib.hid hSl
      obtain ⟨A5, c5, e5, _, _⟩ := hO5.form
      subst e5
      clear hS hO5 hb5 hSl
      go_wp2_with fail
      refine (reffold_any A3 c3 l A4 c4 m q w5 (HA3.out.below HB5.out) (HB4.out.below HB5.out) (by omega) (by omega)).mono ?_
      rintro e w6 ⟨⟨v6, S2, rfl, hS2, _, hO6⟩, hb6⟩
      obtain rfl : S = S2 := HS.out.unique hS2
      obtain ⟨A6, c6, e6, _, _⟩ := hO6.form
      subst e6
      have HO6 := Lib.hid hO6.marks
      have HB6 := Lib.hid hb6
      clear hS2 hO6 hb6
      go_wp2_with fail
      have HI := is_any A5 S.length c5 w4.heap.size S rfl 0 A6 c6 S 0 w6 (HO5.out.call HB6.out) HO6.out (by have := HSL.out; omega) (by have := HSL.out; omega) (Nat.le_trans HB5.out.size HB6.out.size)
      rw [decide_eq_true (show (0 : Int) = 0 ∧ S = S from ⟨rfl, rfl⟩)] at HI
      refine HI.mono ?_
      clear HI
      rintro e w7 ⟨rfl, hb7⟩
      have HB7 : Hid (Below w4.heap.size w4 w7) := (HB5.out.trans (HB6.out.mono HB5.out.size)).trans hb7
      clear hb7
      go_wp2_with fail
      have H1 := refsame_b A A3 c c3 l l w7 (HA.out.below HB7.out) (HA3.out.below HB7.out) h1 h1
      rw [decide_eq_true (show l = l from rfl)] at H1
      refine H1.mono ?_
      clear H1
      rintro e w8 ⟨rfl, hb8⟩
      have HB8 := Lib.hid (below_call HB7.out HB7.out.size hb8)
      clear hb8
      go_wp2_with fail
      have H1 := refsame_b B A4 d c4 m m w8 (HB.out.below HB8.out) (HB4.out.below HB8.out) h2 h2
      rw [decide_eq_true (show m = m from rfl)] at H1
      refine H1.mono ?_
      clear H1
      rintro e w9 ⟨rfl, hb9⟩
      have HB9 := Lib.hid (below_call HB8.out HB8.out.size hb9)
      clear hb9
      go_wp2_with fail
      refine (awake_any _).mono ?_
      rintro e w10 ⟨rfl, hb10⟩
      go_wp2_with fail
      go_ret
      exact ⟨rfl, HW.out.trans ((below_call HB9.out HB9.out.size hb10).mono HW.out.size)⟩
namespace SeenFolds
theorem walk {w : World} (A0 : Option Addr) (l0 : List Mk) (c0 : Nat) (b0 : Marks w A0 l0) (e0 : l0.length ≤ c0) (g0 : c0 ≤ 9223372036854775807) (A1 : Option Addr) (l1 : List Mk) (c1 : Nat) (b1 : Marks w A1 l1) (e1 : l1.length ≤ c1) (g1 : c1 ≤ 9223372036854775807) (x2 : UInt64) :
    Calls Try.prog 8 #[.slice A0 l0.length c0, .slice A1 l1.length c1, .int .u64 (x2.toNat : Int)] w fun e w' => e = .returned (.bool true) ∧ Below w.heap.size w w' :=
  foldsLaw_any A0 c0 l0 A1 c1 l1 x2 w b0 b1 (Nat.le_trans e0 g0) (Nat.le_trans e1 g1)
end SeenFolds
end Go.Proofs.Ytgdbknbpnlpdnaa
