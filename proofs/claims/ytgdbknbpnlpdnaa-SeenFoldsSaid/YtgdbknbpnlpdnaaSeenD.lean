/- The reference's Same, and seen.Same; spoil, mark; IsSortedFunc, CompactFunc, DeleteFunc at marks. -/
import Derived.Test.YtgdbknbpnlpdnaaSeenC
import Derived.IntWalk
namespace Go.Proofs.Ytgdbknbpnlpdnaa
set_option linter.unusedVariables false
set_option linter.unusedSimpArgs false
open Go.RowKit

set_option maxHeartbeats 400000 in
theorem refsame_any (A B : Option Addr) (c d : Nat) (xs ys : List Mk) (w : World) (hA : Marks w A xs) (hB : Marks w B ys) (hn : xs.length ≤ 9223372036854775807) (hm : ys.length ≤ 9223372036854775807) :
    Calls Try.prog 21 #[.slice A xs.length c, .slice B ys.length d] w fun e w' => e = .returned (.bool (decide (xs = ys))) ∧ ∃ q, w' = w.drewN q := by
  by_cases hl : xs.length = ys.length
  · have hne := mark_neq
    have hgd := mark_guard
    have hd : ((xs.length : Int) != (ys.length : Int)) = false := by simp [hl]
    have HL := Lib.hid hl
    clear hl
    go_enter Try.func21, Try.ntmps21
    go_wp2_with fail
    go_loopw [5] (fun i wr => ∃ k q : Nat, k ≤ xs.length ∧ i = .int .i64 k ∧ xs.take k = ys.take k ∧ wr = w.drewN q) (fun i _ => xs.length - (intOf i).toNat)
    case atStart => exact ⟨0, 0, by omega, rfl, rfl, rfl⟩
    case round =>
      obtain ⟨k, q, hk, rfl, htk, rfl⟩ := hrel
      have HT := Lib.hid htk
      clear htk
      by_cases hlt : k < xs.length
      · obtain ⟨b, o, rfl, had, c0, c1, c2⟩ := hA.at_ hlt
        obtain ⟨b', o', rfl, had', d0, d1, d2⟩ := hB.at_ (k := k) (by have := HL.out; omega)
        have hlt' : (k : Int) < ys.length := by have := HL.out; omega
        have HS := Lib.hid (same_more hlt (by omega) HT.out)
        have hlt2 : k < ys.length := by omega
        have HE := Lib.hid (Mk.eq_iff xs[k] ys[k])
        have HNE : Hid (xs[k] ≠ ys[k] → xs ≠ ys) := fun h e => h (by subst e; rfl)
        generalize xs[k] = x at c0 c1 c2 HS HE HNE
        generalize ys[k] = y at d0 d1 d2 HS HE HNE
        generalize x.p.toInt = x1 at c0 HE
        generalize (x.s.toNat : Int) = x2 at c1 HE
        generalize (x.o.toNat : Int) = x3 at c2 HE
        generalize y.p.toInt = y1 at d0 HE
        generalize (y.s.toNat : Int) = y2 at d1 HE
        generalize (y.o.toNat : Int) = y3 at d2 HE
        by_cases hxy : x1 = y1 ∧ x2 = y2 ∧ x3 = y3
        · have HXY := Lib.hid (HE.out.2 hxy)
          obtain ⟨rfl, rfl, rfl⟩ := hxy
          go_wp2_with fail
          go_quiet (fail)
          go_wp2_with fail
          go_roundw
          case rel => exact ⟨k + 1, q + nq, by omega, by go_num, HS.out HXY.out, by first | rfl | rw [World.drewN_drewN]⟩
          case measure => simp [intOf]; omega
        · have HXY := Lib.hid (HNE.out fun h => hxy (HE.out.1 h))
          have HB : Hid ((!decide (x1 = y1) || (!decide (x2 = y2) || !decide (x3 = y3))) = true) := by
            show _ = _
            by_cases h1 : x1 = y1 <;> by_cases h2 : x2 = y2 <;> by_cases h3 : x3 = y3 <;> simp_all
          clear hxy
          go_wp2_with fail
          go_quiet (fail)
          rw [HB.out]
          go_wp2_with fail
          go_ret
          exact ⟨ret_bool (by symm; rw [decide_eq_false_iff_not]; exact HXY.out), q + nq, by first | rfl | rw [World.drewN_drewN]⟩
      · obtain rfl : k = xs.length := by omega
        go_wp2_with fail
        go_ret
        exact ⟨ret_bool (by have := HT.out; rw [HL.out, List.take_length, ← HL.out, List.take_length] at this; simp [this]), q, rfl⟩
  · have hd : ((xs.length : Int) != (ys.length : Int)) = true := by rw [bne_iff_ne]; omega
    have H := Lib.hid hl
    clear hl
    go_enter Try.func21, Try.ntmps21
    go_wp2_with fail
    go_ret
    exact ⟨ret_bool (by symm; rw [decide_eq_false_iff_not]; rintro rfl; exact H.out rfl), 0, rfl⟩

theorem same_any (A B : Option Addr) (c d : Nat) (xs ys : List Mk) (w : World) (hA : Marks w A xs) (hB : Marks w B ys) (hn : xs.length ≤ 9223372036854775807) (hm : ys.length ≤ 9223372036854775807) :
    Calls Try.prog 26 #[.slice A xs.length c, .slice B ys.length d] w fun e w' => e = .returned (.bool (decide (xs = ys))) ∧ ∃ q, w' = w.drewN q := by
  have hcall := equal_any A B c d xs ys w hA hB hn hm
  generalize decide (xs = ys) = r at hcall ⊢
  clear hA hB
  go_enter Try.func26, Try.ntmps26
  go_wp2_with (go_at_call 49; refine hcall.mono ?_; clear hcall; rintro e w1 ⟨rfl, q, rfl⟩)
  go_ret
  exact ⟨rfl, q, rfl⟩

theorem mark_any (p : Int64) (s o : UInt64) (w : World) : Calls Try.prog 31 #[.int .i64 p.toInt, .int .u64 (s.toNat : Int), .int .u64 (o.toNat : Int)] w fun e w' => e = .returned (Mk.val ⟨p, s, o⟩) ∧ Below w.heap.size w w' := by
  go_enter Try.func31, Try.ntmps31
  go_wp2_with fail
  exact bodyPost_ret (v := Mk.val ⟨p, s, o⟩) (by simp [results, Try.results31, go_sem, Mk.val]) rfl ⟨rfl, below_new _ _⟩

/-- Down the row no difference is below 0. -/
def upP (ms : List Mk) : Prop := ∀ i (h : i + 1 < ms.length), 0 ≤ wrap64 (ms[i + 1].p.toInt - ms[i].p.toInt)
def SortedPost (ms : List Mk) (e : Ending) : Prop := ∃ b, e = .returned (.bool b) ∧ (b = true ↔ upP ms)
set_option maxHeartbeats 400000 in
theorem issorted_any (A : Option Addr) (c : Nat) (ms : List Mk) (w : World) (hA : Marks w A ms) (hn : ms.length ≤ 5864062014634) :
    Calls Try.prog 37 #[.slice A ms.length c, .func (.func 38) #[] #[]] w fun e w' => SortedPost ms e ∧ Below w.heap.size w w' := by
  have eg : ∀ args w, (callFunc 38 args).run Try.prog w = .ok (.enter 38 args) w := enters_of Try.func38 (by kernel_rfl) rfl
  go_enter Try.func37, Try.ntmps37
  go_wp2_with fail
  go_loopw [5] (fun i wr => ∃ k : Nat, k ≤ ms.length ∧ i = .int .i64 ((k : Int) - 1) ∧ Below w.heap.size w wr ∧ ∀ j (h : j + 1 < ms.length), k ≤ j + 1 → 0 ≤ wrap64 (ms[j + 1].p.toInt - ms[j].p.toInt)) (fun i _ => (intOf i).toNat)
  case atStart => exact ⟨ms.length, by omega, rfl, Below.refl _ _, fun j hj hk => absurd hj (by omega)⟩
  case round =>
    obtain ⟨k, hk, rfl, hb, hno⟩ := hrel
    have HNO := Lib.hid hno
    clear hno
    by_cases hlt : 2 ≤ k
    · obtain ⟨j, rfl⟩ : ∃ j, k = j + 2 := ⟨k - 2, by omega⟩
      obtain ⟨b, o, rfl, had, c0, c1, c2⟩ := hA.at_ (k := j + 1) (by omega)
      obtain ⟨b', o', e, _, d0, d1, d2⟩ := hA.at_ (k := j) (by omega)
      injection e with e
      injection e with e1 e2
      subst e1 e2
      replace c0 := (hb.cell (p := ⟨b, o + (j + 1) * 3, none⟩) had).trans c0
      replace c1 := (hb.cell (p := ⟨b, o + (j + 1) * 3 + 1, none⟩) had).trans c1
      replace c2 := (hb.cell (p := ⟨b, o + (j + 1) * 3 + 2, none⟩) had).trans c2
      replace d0 := (hb.cell (p := ⟨b, o + j * 3, none⟩) had).trans d0
      replace d1 := (hb.cell (p := ⟨b, o + j * 3 + 1, none⟩) had).trans d1
      replace d2 := (hb.cell (p := ⟨b, o + j * 3 + 2, none⟩) had).trans d2
      have hj2 : j + 1 < ms.length := by omega
      have HM : Hid (0 ≤ wrap64 (ms[j + 1].p.toInt - ms[j].p.toInt) → ∀ i (h : i + 1 < ms.length), j + 1 ≤ i + 1 → 0 ≤ wrap64 (ms[i + 1].p.toInt - ms[i].p.toInt)) := fun h i hi hji => by
        by_cases e : i = j
        · subst e; exact h
        · exact HNO.out i hi (by omega)
      have HN : Hid (wrap64 (ms[j + 1].p.toInt - ms[j].p.toInt) < 0 → ¬ upP ms) := fun h hu => absurd (hu j hj2) (by omega)
      generalize ms[j + 1] = x at c0 c1 c2 HM HN
      generalize ms[j] = y at d0 d1 d2 HM HN
      rw [show ((j + 2 : Nat) : Int) - 1 = ((j + 1 : Nat) : Int) from by omega]
      have hs1 : IntKind.i64.wrap (j : Int) = (j : Int) := IntWalk.i64_in _ (by omega)
      have hs2 : ((j : Int) + 1).toNat = j + 1 := by omega
      have hs3 : 0 ≤ (j : Int) + 1 := by omega
      have hs4 : (j : Int) + 1 < (ms.length : Int) := by omega
      have hs5 : (j : Int) < (ms.length : Int) := by omega
      go_wp2_with fail
      refine PF.pf_begin (by kernel_rfl) ?_
      refine PF.pf_take0 0 (by kernel_rfl) rfl (fun _ _ _ _ _ h => h) (by kernel_rfl) (fun u => by go_simp; try rfl) ?_
      try simp only [Act.put, pz0, pz1, pz2]
      refine PF.pf_take0 1 (by kernel_rfl) rfl (fun _ _ _ _ _ h => h) (by kernel_rfl) (fun u => by go_simp; try rfl) ?_
      try simp only [Act.put, pz0, pz1, pz2]
      refine PF.pf_take0 2 (by kernel_rfl) rfl (fun _ _ _ _ _ h => h) (by kernel_rfl) (fun u => by go_simp; try rfl) ?_
      try simp only [Act.put, pz0, pz1, pz2]
      refine PF.pf_take0 3 (by kernel_rfl) rfl (fun _ _ _ _ _ h => h) (by kernel_rfl) (fun u => by go_simp; try rfl) ?_
      try simp only [Act.put, pz0, pz1, pz2]
      refine PF.pf_take1 4 (PF.Same (b) _) (by kernel_rfl) rfl (fun _ _ _ _ _ h => h) (by kernel_rfl) (PF.Same.refl _ _) (fun u hu => by have hcu := hu.cell; go_simp; try rfl) ?_
      try simp only [Act.put, pz0, pz1, pz2]
      refine PF.pf_take0 5 (by kernel_rfl) rfl (fun _ _ _ _ _ h => h) (by kernel_rfl) (fun u => by go_simp; try rfl) ?_
      try simp only [Act.put, pz0, pz1, pz2]
      refine PF.pf_take0 6 (by kernel_rfl) rfl (fun _ _ _ _ _ h => h) (by kernel_rfl) (fun u => by go_simp; try rfl) ?_
      try simp only [Act.put, pz0, pz1, pz2]
      refine PF.pf_take0 7 (by kernel_rfl) rfl (fun _ _ _ _ _ h => h) (by kernel_rfl) (fun u => by go_simp; try rfl) ?_
      try simp only [Act.put, pz0, pz1, pz2]
      refine PF.pf_take0 8 (by kernel_rfl) rfl (fun _ _ _ _ _ h => h) (by kernel_rfl) (fun u => by go_simp; try rfl) ?_
      try simp only [Act.put, pz0, pz1, pz2]
      refine PF.pf_take1 9 (PF.Same (b) _) (by kernel_rfl) rfl (fun _ _ _ _ _ h => h) (by kernel_rfl) (PF.Same.refl _ _) (fun u hu => by have hcu := hu.cell; go_simp; try rfl) ?_
      try simp only [Act.put, pz0, pz1, pz2]
      refine PF.pf_exec 10 (by kernel_rfl) rfl (by kernel_rfl) (fun K hK => ?_)
      go_simp
      refine (less_any x y _).mono ?_; rintro e w1 ⟨rfl, hb1⟩
      refine hK _ _ (by repeat (first | exact PF.owes_nil | refine PF.owes_left ?_ | refine PF.owes_no (by decide +kernel) ?_ | refine PF.owes_yes (by first | rfl | assumption | go_simp) ?_)) ?_
      clear hK K
      try simp only [Act.put, pz0, pz1, pz2]
      refine PF.pf_take0 11 (by kernel_rfl) rfl (fun _ _ _ _ _ h => h) (by kernel_rfl) (fun u => by go_simp; try rfl) ?_
      try simp only [Act.put, pz0, pz1, pz2]
      refine PF.pf_done (by kernel_rfl) ?_
      have hbw : Below w.heap.size w w1 := below_call hb.drew hb.size hb1
      generalize wrap64 (x.p.toInt - y.p.toInt) = r at HM HN ⊢
      by_cases hr : r < 0
      · go_wp2_with fail
        go_ret
        exact ⟨⟨false, rfl, by simpa using HN.out hr⟩, hbw⟩
      · go_wp2_with fail
        go_roundw
        case rel => exact ⟨j + 1, by omega, by simp, hbw, HM.out (by omega)⟩
        case measure => simp [intOf]
    · go_wp2_with fail
      go_ret
      exact ⟨⟨true, rfl, by simp only [true_iff]; exact fun i hi => HNO.out i hi (by omega)⟩, hb⟩

theorem spoil_any (A : Option Addr) (n c base : Nat) (ms : List Mk) (hn : n = ms.length) (w : World) (hown : OwnM w base (.slice A n c) ms) (hm : ms.length ≤ 1000000) (hbase : base ≤ w.heap.size) :
    Calls Try.prog 47 #[.slice A n c] w fun e w' => e = .returned (.tuple #[]) ∧ Below base w w' := by
  subst hn
  go_enter Try.func47, Try.ntmps47
  go_wp2_with fail
  go_loopw [2] (fun i wr => ∃ k : Nat, k ≤ ms.length ∧ i = .int .i64 k ∧ Below base w wr ∧ ∃ ms', ms'.length = ms.length ∧ wr.ownsRow base 38 3 (.slice A ms.length c) ms.length (Mk.row ms')) (fun i _ => ms.length - (intOf i).toNat)
  case atStart => exact ⟨0, by omega, rfl, Below.refl _ _, ms, rfl, hown⟩
  case round =>
    obtain ⟨k, hk, rfl, hb, ms', hl, ho⟩ := hrel
    by_cases hlt : k < ms.length
    · obtain ⟨g, c', e, hg, _, _⟩ := own_ptr ho (by omega)
      injection e with e1 _ e2
      subst e1 e2
      have ho2 : OwnM wr base (.slice (some ⟨g, 0, none⟩) ms'.length c) ms' := by unfold OwnM; rw [hl]; exact ho
      have hk' : k < ms'.length := by omega
      obtain ⟨c0, c1, c2, hfr, hgw, _⟩ := ho2.at_ hk'
      generalize ms'[k] = x at c0 c1 c2
      have f0 := hfr (k * 3)
      have f1 := hfr (k * 3 + 1)
      have f2 := hfr (k * 3 + 2)
      obtain ⟨hset, hgr⟩ := ho2.set k ⟨-1, 0, 0⟩
      have HSET := Lib.hid hset
      have HGR := Lib.hid hgr
      have HL := Lib.hid hl
      clear hfr hset hgr hl ho ho2 hown
      go_wp2_with fail
      go_roundw
      case rel => exact ⟨k + 1, by omega, by go_num, hb.grown HGR.out (Nat.le_trans hbase hb.size) (fun j hj => by cases hj; exact hg), ms'.set k ⟨-1, 0, 0⟩, by rw [List.length_set]; exact HL.out, by have := HSET.out; unfold OwnM at this; rw [List.length_set, HL.out] at this; exact this⟩
      case measure => simp [intOf]; omega
    · go_wp2_with fail
      go_end0
      exact ⟨rfl, hb⟩
end Go.Proofs.Ytgdbknbpnlpdnaa
