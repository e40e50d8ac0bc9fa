/- The library's short functions on rows of marks: Clone, Equal, IsSortedFunc; the reference's Same; spoil, mark. -/
import Derived.Test.YtgdbknbpnlpdnaaSeenB
import Derived.Test.YtgdbknbpnlpdnaaRegion
import Derived.Laws.StructEq
import Derived.Deep.QuietTactic
import Derived.BigQuiet
import Derived.Lib.SliceRun
namespace Go.Proofs.Ytgdbknbpnlpdnaa
set_option linter.unusedVariables false
set_option linter.unusedSimpArgs false
open Go.RowKit

theorem marks_ty : SliceTy Try.prog 25 38 3 24 := SliceTy.mk (z := .agg #[.int .i64 0, .int .u64 0, .int .u64 0]) Try.underlying25 (by kernel_rfl) (by kernel_rfl)
theorem mark_neq (w : World) (a b c a' b' c' : Int) : (binOp .neq 38 (.agg #[.int .i64 a, .int .u64 b, .int .u64 c]) (.agg #[.int .i64 a', .int .u64 b', .int .u64 c'])).run Try.prog w = .ok (.bool (!decide (a = a' ∧ b = b' ∧ c = c'))) w := by
  have u3 := Try.underlying3
  have a3 := Try.isAgg3
  have z3 := Try.sizeOf3
  have u27 := Try.underlying27
  have a27 := Try.isAgg27
  have z27 := Try.sizeOf27
  have hS : Try.prog.underlying 38 = some (.struct (Try.prog.fieldsOf 38)) := by kernel_rfl
  have hp : Try.prog.stoodInHeld 38 = false := by kernel_rfl
  rw [run_neq_struct, show (10000 : Nat) = 9999 + 1 from rfl, run_equalIn_agg w 9999 38 _ _ hS hp]
  simp only [Program.fieldsOf, Try.underlying38]
  go_simp
  by_cases h1 : a = a' <;> by_cases h2 : b = b' <;> by_cases h3 : c = c' <;> simp [h1, h2, h3]
theorem mark_guard : Try.prog.eqGuardType Try.prog.depth 38 = false := by kernel_rfl
theorem Mk.eq_iff (m n : Mk) : m = n ↔ (m.p.toInt = n.p.toInt ∧ (m.s.toNat : Int) = n.s.toNat ∧ (m.o.toNat : Int) = n.o.toNat) := by
  constructor
  · rintro rfl; exact ⟨rfl, rfl, rfl⟩
  · rintro ⟨h1, h2, h3⟩
    cases m
    cases n
    simp only [Mk.mk.injEq]
    exact ⟨Int64.toInt_inj.1 h1, UInt64.toNat_inj.1 (Int.ofNat_inj.1 h2), UInt64.toNat_inj.1 (Int.ofNat_inj.1 h3)⟩
theorem same_more {xs ys : List Mk} {k : Nat} (hx : k < xs.length) (hy : k < ys.length) (h : xs.take k = ys.take k) (he : xs[k] = ys[k]) : xs.take (k + 1) = ys.take (k + 1) := by
  rw [List.take_succ_eq_append_getElem hx, List.take_succ_eq_append_getElem hy, h, he]

def ClonePost (base : Nat) (ms : List Mk) (e : Ending) (w' : World) : Prop := ∃ v, e = .returned v ∧ OwnM w' base v ms
set_option maxHeartbeats 400000 in
theorem clone_any (A : Option Addr) (c : Nat) (ms : List Mk) (w : World) (hA : Marks w A ms) (hn : ms.length ≤ 5864062014634) :
    Calls Try.prog 40 #[.slice A ms.length c] w fun e w' => ClonePost w.heap.size ms e w' ∧ Below w.heap.size w w' := by
  have hen := fun (w : World) (a : Option Addr) (n c n' c' : Nat) => Lib.run_eql_slice_nil (P := Try.prog) w 25 38 a n c n' c' Try.underlying25
  rcases A with _ | ad
  · obtain rfl : ms = [] := by
      rcases Nat.eq_zero_or_pos ms.length with h0 | h0
      · exact List.eq_nil_of_length_eq_zero h0
      · obtain ⟨_, h, _⟩ := hA.2 h0; cases h
    go_enter Try.func40, Try.ntmps40
    go_wp2_with fail
    go_ret
    exact ⟨⟨_, rfl, OwnM.nil_ _ _⟩, Below.refl _ _⟩
  · have hown0 : (w.alloc (.cells #[] 38)).ownsRow w.heap.size 38 3 (.slice (some ⟨w.heap.size, 0, none⟩) 0 0) 0 [] := World.ownsRow_made _ _ _ (Nat.le_refl _) (by simp [maxLen]) rfl
    have hA' := Reads.alloc hA (.cells #[] 38)
    have h1 := Mk.row_one ms
    have H : Hid (Mk.row ms = Mk.row ms) := rfl
    unfold Marks at hA
    generalize hrow : Mk.row ms = r at hA hA' h1
    have HR := Lib.hid hrow
    clear hrow hA
    go_enter Try.func40, Try.ntmps40
    go_wp2_with (first
      | (at_builtin; refine app_list marks_ty rfl (s := .tmp 5) (x := .tmp 6) rfl hown0 rfl hA' rfl h1 (by omega) (by simp) ?_; intro v3 w3 hown3 hg3 _))
    go_ret
    refine ⟨⟨v3, rfl, ?_⟩, (below_new _ _).grown hg3 (by simp) (own_ge hown0)⟩
    unfold OwnM
    rw [HR.out]
    simpa using hown3

set_option maxHeartbeats 400000 in
theorem equal_any (A B : Option Addr) (c d : Nat) (xs ys : List Mk) (w : World) (hA : Marks w A xs) (hB : Marks w B ys) (hn : xs.length ≤ 9223372036854775807) (hm : ys.length ≤ 9223372036854775807) :
    Calls Try.prog 49 #[.slice A xs.length c, .slice B ys.length d] w fun e w' => e = .returned (.bool (decide (xs = ys))) ∧ ∃ q, w' = w.drewN q := by
  by_cases hl : xs.length = ys.length
  · have hne := mark_neq
    have hgd := mark_guard
    have hd : ((xs.length : Int) != (ys.length : Int)) = false := by simp [hl]
    have HL := Lib.hid hl
    clear hl
    go_enter Try.func49, Try.ntmps49
    go_wp2_with fail
    go_loopw [13] (fun i wr => ∃ k q : Nat, k ≤ xs.length ∧ i = .int .i64 k ∧ xs.take k = ys.take k ∧ wr = w.drewN q) (fun i _ => xs.length - (intOf i).toNat)
    case atStart => exact ⟨0, 0, by omega, rfl, rfl, rfl⟩
    case round =>
      obtain ⟨k, q, hk, rfl, htk, rfl⟩ := hrel
      have HT := Lib.hid htk
      clear htk
      by_cases hlt : k < xs.length
      · obtain ⟨b, o, rfl, had, c0, c1, c2⟩ := hA.at_ hlt
        obtain ⟨b', o', rfl, had', d0, d1, d2⟩ := hB.at_ (k := k) (by have := HL.out; omega)
        have hlt' : (k : Int) < ys.length := by have := HL.out; omega
        have HS := Lib.hid (same_more hlt (by omega) HT.out)
        have hlt2 : k < ys.length := by omega
        have HE := Lib.hid (Mk.eq_iff xs[k] ys[k])
        have HNE : Hid (xs[k] ≠ ys[k] → xs ≠ ys) := fun h e => h (by subst e; rfl)
        generalize xs[k] = x at c0 c1 c2 HS HE HNE
        generalize ys[k] = y at d0 d1 d2 HS HE HNE
        generalize x.p.toInt = x1 at c0 HE
        generalize (x.s.toNat : Int) = x2 at c1 HE
        generalize (x.o.toNat : Int) = x3 at c2 HE
        generalize y.p.toInt = y1 at d0 HE
        generalize (y.s.toNat : Int) = y2 at d1 HE
        generalize (y.o.toNat : Int) = y3 at d2 HE
        by_cases hxy : x1 = y1 ∧ x2 = y2 ∧ x3 = y3
        · have HXY := Lib.hid (HE.out.2 hxy)
          obtain ⟨rfl, rfl, rfl⟩ := hxy
          go_wp2_with fail
          go_quiet (fail)
          go_wp2_with fail
          go_roundw
          case rel => exact ⟨k + 1, q + nq, by omega, by go_num, HS.out HXY.out, by first | rfl | rw [World.drewN_drewN]⟩
          case measure => simp [intOf]; omega
        · have HXY := Lib.hid (HNE.out fun h => hxy (HE.out.1 h))
          have HB : Hid ((!decide (x1 = y1) || (!decide (x2 = y2) || !decide (x3 = y3))) = true) := by
            show _ = _
            by_cases h1 : x1 = y1 <;> by_cases h2 : x2 = y2 <;> by_cases h3 : x3 = y3 <;> simp_all
          clear hxy
          go_wp2_with fail
          go_quiet (fail)
          rw [HB.out]
          go_wp2_with fail
          go_ret
          exact ⟨ret_bool (by symm; rw [decide_eq_false_iff_not]; exact HXY.out), q + nq, by first | rfl | rw [World.drewN_drewN]⟩
      · obtain rfl : k = xs.length := by omega
        go_wp2_with fail
        go_ret
        exact ⟨ret_bool (by have := HT.out; rw [HL.out, List.take_length, ← HL.out, List.take_length] at this; simp [this]), q, rfl⟩
  · have hd : ((xs.length : Int) != (ys.length : Int)) = true := by rw [bne_iff_ne]; omega
    have H := Lib.hid hl
    clear hl
    go_enter Try.func49, Try.ntmps49
    go_wp2_with fail
    go_ret
    exact ⟨ret_bool (by symm; rw [decide_eq_false_iff_not]; rintro rfl; exact H.out rfl), 0, rfl⟩
end Go.Proofs.Ytgdbknbpnlpdnaa
