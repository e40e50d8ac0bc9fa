/- slices.Grow of nothing, slices.Concat of two rows of marks. -/
import Derived.Test.YtgdbknbpnlpdnaaFoldA
import Derived.Lib.AppendZeros
namespace Go.Proofs.Ytgdbknbpnlpdnaa
set_option linter.unusedVariables false
set_option linter.unusedSimpArgs false
open Go.RowKit

theorem mark_info : (Try.prog.info? 38).map (fun i => (i.zero, i.size, i.bytes)) = some (some (.agg #[.int .i64 0, .int .u64 0, .int .u64 0]), 3, 24) := by kernel_rfl
set_option maxHeartbeats 1000000 in
theorem grow_any (n : Nat) (w : World) (hn : n ≤ 1000000) :
    Calls Try.prog 63 #[.slice none 0 0, .int .i64 (n : Int)] w fun e w' => ClonePost w.heap.size [] e w' ∧ Below w.heap.size w w' := by
  have d0 : decide ((n : Int) < 0) = false := decide_eq_false (by omega)
  have hw : IntKind.i64.wrap (n : Int) = (n : Int) := by rw [IntKind.wrap_i64]; omega
  rcases Nat.eq_zero_or_pos n with h0 | h0
  · subst h0
    clear d0 hw
    go_enter Try.func63, Try.ntmps63
    go_wp2_with fail
    go_ret
    exact ⟨⟨_, rfl, OwnM.nil_ _ _⟩, Below.refl _ _⟩
  · obtain ⟨i0, hi, hz0, hz1, hz2⟩ := info_parts mark_info
    have happ := Lib.run_append_nil_zeros (P := Try.prog) w 25 3 25 38 i0 (.agg #[.int .i64 0, .int .u64 0, .int .u64 0]) .i64 .i64 Try.underlying25 Try.underlying3 hi hz0 n h0 (by omega) (by omega) (by rw [hz2]; omega)
    generalize hcap : grownCap w n 0 38 = cap2 at happ
    have hcapge : n ≤ cap2 := by rw [← hcap]; exact grownCap_ge w _ 0 38
    have hcaple : cap2 ≤ maxLen := by rw [← hcap]; exact grownCap_le_maxLen w _ 0 38 (by unfold maxLen; omega)
    generalize hZ : (Builtin.zeroCells (Value.agg #[.int .i64 0, .int .u64 0, .int .u64 0]).cells n ++ Builtin.zeroCells (Value.agg #[.int .i64 0, .int .u64 0, .int .u64 0]).cells (cap2 - n)) = Z at happ
    have hZs : Z.size = cap2 * 3 := by rw [← hZ]; simp [size_zeroCells, Value.cells]; omega
    have hO : OwnM ((w.drew).alloc (.cells Z 38)) w.heap.size (.slice (some ⟨w.heap.size, 0, none⟩) 0 cap2) [] :=
      ⟨rfl, .inr ⟨w.heap.size, cap2, Z, rfl, Nat.le_refl _, heap_alloc_new w.drew _, Nat.zero_le _, hcaple, hZs, by simp [Mk.row]⟩⟩
    have HO := Lib.hid hO
    have HB := Lib.hid (show Below w.heap.size w ((w.drew).alloc (.cells Z 38)) from ((Below.refl _ w).drew).alloc (Nat.le_refl _) _)
    have d1 : decide ((0 : Int) < (n : Int)) = true := decide_eq_true (by omega)
    clear hO hZ hcap hZs hi hz0 hz1 hz2
    go_enter Try.func63, Try.ntmps63
    go_wp2_with (at_builtin; refine Lib.wpList_append_run _ rfl _ _ _ _ rfl _ _ rfl rfl _ _ happ ?_)
    go_ret
    exact ⟨⟨_, rfl, HO.out⟩, HB.out⟩
def catM (ms ns : List Mk) (k : Nat) : List Mk := if k = 0 then [] else if k = 1 then ms else ms ++ ns
set_option maxHeartbeats 4000000 in
theorem concat_any (A : Option Addr) (c : Nat) (ms : List Mk) (B : Option Addr) (d : Nat) (ns : List Mk) (g : Nat) (t : TypeId) (w : World) (hg : Blk w g t #[.slice A ms.length c, .slice B ns.length d]) (hA : Marks w A ms) (hB : Marks w B ns) (hn : ms.length ≤ 100000) (hm : ns.length ≤ 100000) :
    Calls Try.prog 52 #[.slice (some ⟨g, 0, none⟩) 2 2] w fun e w' => ClonePost w.heap.size (ms ++ ns) e w' ∧ Below w.heap.size w w' := by
  have g0 : w.cell? ⟨g, 0, none⟩ = some (.slice A ms.length c) := (hg.cell 0).trans rfl
  have g1 : w.cell? ⟨g, 1, none⟩ = some (.slice B ns.length d) := (hg.cell 1).trans rfl
  have HG := Lib.hid hg.lt
  have HM := Lib.hid hA
  have HN := Lib.hid hB
  clear hg hA hB
  go_enter Try.func52, Try.ntmps52
  go_wp2_with fail
  go_loopw [3, 11] (fun s i wr => ∃ k : Nat, k ≤ 2 ∧ i = .int .i64 (k : Int) ∧ s = .int .i64 ((catM ms ns k).length : Int) ∧ wr = w) (fun _ i _ => 2 - (intOf i).toNat)
  case atStart => exact ⟨0, by omega, rfl, rfl, rfl⟩
  case round =>
    obtain ⟨k, hk, rfl, rfl, rfl⟩ := hrel
    obtain rfl | rfl | rfl : k = 0 ∨ k = 1 ∨ k = 2 := by omega
    · have e0 : ((catM ms ns 0).length : Int) = 0 := rfl
      have e1 : IntKind.i64.wrap (ms.length : Int) = (ms.length : Int) := by rw [IntKind.wrap_i64]; omega
      have e2 : decide ((ms.length : Int) < 0) = false := decide_eq_false (by omega)
      rw [e0]
      clear e0
      go_wp2_with fail
      go_roundw
      case rel => exact ⟨1, by omega, by go_num, rfl, trivial⟩
      case measure => simp [intOf]
    · have e0 : ((catM ms ns 1).length : Int) = (ms.length : Int) := rfl
      have e1 : IntKind.i64.wrap ((ms.length : Int) + (ns.length : Int)) = (ms.length : Int) + (ns.length : Int) := by rw [IntKind.wrap_i64]; omega
      have e2 : decide ((ms.length : Int) + (ns.length : Int) < 0) = false := decide_eq_false (by omega)
      rw [e0]
      clear e0
      go_wp2_with fail
      go_roundw
      case rel => exact ⟨2, by omega, by go_num, by show _ = Value.int .i64 (((ms ++ ns).length : Nat) : Int); rw [List.length_append]; rfl, trivial⟩
      case measure => simp [intOf]
    · have e0 : ((catM ms ns 2).length : Int) = ((ms.length + ns.length : Nat) : Int) := by show (((ms ++ ns).length : Nat) : Int) = _; rw [List.length_append]
      rw [e0]
      obtain ⟨n, hn2⟩ : ∃ n, n = ms.length + ns.length := ⟨_, rfl⟩
      have HGR := Lib.hid (grow_any n wr (by omega))
      rw [← hn2]
      have HN2 : Hid (ms.length ≤ 100000 ∧ ns.length ≤ 100000) := ⟨hn, hm⟩
      clear e0 hn2 hn hm
      go_wp2_with fail
      refine HGR.out.mono ?_
      rintro e w1 ⟨⟨v, rfl, ho⟩, hb⟩
      have HO := Lib.hid ho
      have HB := Lib.hid hb
      clear ho hb
      go_wp2_with fail
      clear HGR
      obtain ⟨w0, rfl⟩ : ∃ w0 : World, w0 = wr := ⟨_, rfl⟩
      go_loopw [6, 27] (fun v i wi => ∃ k : Nat, k ≤ 2 ∧ i = .int .i64 (k : Int) ∧ OwnM wi w0.heap.size v (catM ms ns k) ∧ Below w0.heap.size w0 wi) (fun _ i _ => 2 - (intOf i).toNat)
      case atStart => exact ⟨0, by omega, rfl, HO.out, HB.out⟩
      case round =>
        clear HO HB
        obtain ⟨k, hk, rfl, ho, hb⟩ := hrel
        obtain ⟨Av, cv, rfl, hv1, hv2⟩ := ho.form
        have HB := Lib.hid hb
        obtain rfl | rfl | rfl : k = 0 ∨ k = 1 ∨ k = 2 := by omega
        · have x0 := (hb.cell (p := ⟨g, 0, none⟩) HG.out).trans g0
          have hmk := HM.out.below hb
          have hrow := Mk.row_one ms
          have hms := HN2.out
          go_wp2_with (at_builtin; refine app_list marks_ty rfl rfl ho rfl hmk rfl hrow (by have : (catM ms ns 0).length = 0 := rfl; omega) (by have := hb.size; omega) ?_; intro v1 w2 hown1 hg1 _)
          go_roundw
          case rel => exact ⟨1, by omega, by go_num, by
            have h : OwnM _ _ _ ([] ++ ms) := OwnM.app (w' := w2) hown1 rfl rfl
            exact h, HB.out.grown hg1 HB.out.size (own_ge ho)⟩
          case measure => simp [intOf]
        · have x0 := (hb.cell (p := ⟨g, 1, none⟩) HG.out).trans g1
          have hmk := HN.out.below hb
          have hrow := Mk.row_one ns
          have hms := HN2.out
          go_wp2_with (at_builtin; refine app_list marks_ty rfl rfl ho rfl hmk rfl hrow (by have : (catM ms ns 1).length = ms.length := rfl; omega) (by have := hb.size; omega) ?_; intro v1 w2 hown1 hg1 _)
          go_roundw
          case rel => exact ⟨2, by omega, by go_num, by
            have h : OwnM _ _ _ (ms ++ ns) := OwnM.app (w' := w2) hown1 rfl rfl
            exact h, HB.out.grown hg1 HB.out.size (own_ge ho)⟩
          case measure => simp [intOf]
        · have HO := Lib.hid ho
          clear ho
          go_wp2_with fail
          go_ret
          exact ⟨⟨_, rfl, HO.out⟩, HB.out⟩
end Go.Proofs.Ytgdbknbpnlpdnaa
