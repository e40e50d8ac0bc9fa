/- CompactFunc and DeleteFunc at marks, on a row of the call's own. -/
import Derived.Test.YtgdbknbpnlpdnaaSeenD
namespace Go.Proofs.Ytgdbknbpnlpdnaa
set_option linter.unusedVariables false
set_option linter.unusedSimpArgs false
open Go.RowKit

theorem zero_mark : ∀ w, (zeroValue 38).run Try.prog w = .ok (.agg #[.int .i64 0, .int .u64 0, .int .u64 0]) w := Try.zeroValue38
/-- No two neighbours are of one producer. -/
def apartP (ms : List Mk) : Prop := ∀ i (h : i + 1 < ms.length), (ms[i + 1].p.toInt == ms[i].p.toInt) = false
def CompactPost (ms : List Mk) (e : Ending) : Prop := ∃ A n c, e = .returned (.slice A n c) ∧ n ≤ ms.length ∧ (n = ms.length ↔ apartP ms)

set_option maxRecDepth 100000 in
set_option maxHeartbeats 1000000 in
theorem compact_any (A : Option Addr) (n c base : Nat) (ms : List Mk) (hn : n = ms.length) (w : World) (hown : OwnM w base (.slice A n c) ms) (hm : ms.length ≤ 5864062014634) (hbase : base ≤ w.heap.size) :
    Calls Try.prog 39 #[.slice A n c, .func (.func 41) #[] #[]] w fun e w' => CompactPost ms e ∧ Below base w w' := by
  subst hn
  by_cases h2 : ms.length < 2
  · have HAP : Hid (apartP ms) := fun i hi => absurd hi (by omega)
    have hd : decide ((ms.length : Int) < 2) = true := by rw [decide_eq_true_iff]; omega
    go_enter Try.func39, Try.ntmps39
    go_wp2_with fail
    go_ret
    exact ⟨⟨_, _, _, rfl, Nat.le_refl _, by simp only [true_iff]; exact HAP.out⟩, Below.refl _ _⟩
  · obtain ⟨g, c', e, hg, hgw, hc1, hc2⟩ := hown.ptr (by omega)
    injection e with e1 _ e2
    subst e1 e2
    simp only [maxLen] at hc2
    have eg : ∀ args w, (callFunc 41 args).run Try.prog w = .ok (.enter 41 args) w := enters_of Try.func41 (by kernel_rfl) rfl
    have hd : decide ((ms.length : Int) < 2) = false := by rw [decide_eq_false_iff_not]; omega
    go_enter Try.func39, Try.ntmps39
    go_wp2_with fail
    go_loopw [5] (fun i wr => ∃ k : Nat, 1 ≤ k ∧ k ≤ ms.length ∧ i = .int .i64 k ∧ Below base w wr ∧ OwnM wr base (.slice (some ⟨g, 0, none⟩) ms.length c) ms ∧ ∀ j (h : j + 1 < ms.length), j + 1 < k → (ms[j + 1].p.toInt == ms[j].p.toInt) = false) (fun i _ => ms.length - (intOf i).toNat)
    case atStart => exact ⟨1, by omega, by omega, rfl, Below.refl _ _, hown, fun j hj hk => absurd hk (by omega)⟩
    case round =>
      obtain ⟨k, hk1, hk, rfl, hb, ho, hno⟩ := hrel
      have HNO := Lib.hid hno
      clear hno
      by_cases hlt : k < ms.length
      · obtain ⟨j, rfl⟩ : ∃ j, k = j + 1 := ⟨k - 1, by omega⟩
        obtain ⟨c0, c1, c2, _, hgr, _⟩ := ho.at_ (k := j + 1) hlt
        obtain ⟨d0, d1, d2, _, _, _⟩ := ho.at_ (k := j) (by omega)
        have HM : Hid ((ms[j + 1].p.toInt == ms[j].p.toInt) = false → ∀ i (h : i + 1 < ms.length), i + 1 < j + 1 + 1 → (ms[i + 1].p.toInt == ms[i].p.toInt) = false) := fun h i hi hji => by
          by_cases e : i = j
          · subst e; exact h
          · exact HNO.out i hi (by omega)
        have HN : Hid ((ms[j + 1].p.toInt == ms[j].p.toInt) = true → ¬ apartP ms) := fun h hu => by rw [hu j hlt] at h; cases h
        generalize ms[j + 1] = x at c0 c1 c2 HM HN
        generalize ms[j] = y at d0 d1 d2 HM HN
        have hs1 : IntKind.i64.wrap (j : Int) = (j : Int) := IntWalk.i64_in _ (by omega)
        have hs2 : ((j : Int) + 1).toNat = j + 1 := by omega
        have hs3 : 0 ≤ (j : Int) + 1 := by omega
        have hs4 : (j : Int) + 1 < (ms.length : Int) := by omega
        have hs5 : (j : Int) < (ms.length : Int) := by omega
        go_wp2_with fail
        refine PF.pf_begin (by kernel_rfl) ?_
        refine PF.pf_take0 0 (by kernel_rfl) rfl (fun _ _ _ _ _ h => h) (by kernel_rfl) (fun u => by go_simp; try rfl) ?_
        try simp only [Act.put, pz0, pz1, pz2]
        refine PF.pf_take0 1 (by kernel_rfl) rfl (fun _ _ _ _ _ h => h) (by kernel_rfl) (fun u => by go_simp; try rfl) ?_
        try simp only [Act.put, pz0, pz1, pz2]
        refine PF.pf_take0 2 (by kernel_rfl) rfl (fun _ _ _ _ _ h => h) (by kernel_rfl) (fun u => by go_simp; try rfl) ?_
        try simp only [Act.put, pz0, pz1, pz2]
        refine PF.pf_take0 3 (by kernel_rfl) rfl (fun _ _ _ _ _ h => h) (by kernel_rfl) (fun u => by go_simp; try rfl) ?_
        try simp only [Act.put, pz0, pz1, pz2]
        refine PF.pf_take1 4 (PF.Same (g) _) (by kernel_rfl) rfl (fun _ _ _ _ _ h => h) (by kernel_rfl) (PF.Same.refl _ _) (fun u hu => by have hcu := hu.cell; go_simp; try rfl) ?_
        try simp only [Act.put, pz0, pz1, pz2]
        refine PF.pf_take0 5 (by kernel_rfl) rfl (fun _ _ _ _ _ h => h) (by kernel_rfl) (fun u => by go_simp; try rfl) ?_
        try simp only [Act.put, pz0, pz1, pz2]
        refine PF.pf_take0 6 (by kernel_rfl) rfl (fun _ _ _ _ _ h => h) (by kernel_rfl) (fun u => by go_simp; try rfl) ?_
        try simp only [Act.put, pz0, pz1, pz2]
        refine PF.pf_take0 7 (by kernel_rfl) rfl (fun _ _ _ _ _ h => h) (by kernel_rfl) (fun u => by go_simp; try rfl) ?_
        try simp only [Act.put, pz0, pz1, pz2]
        refine PF.pf_take0 8 (by kernel_rfl) rfl (fun _ _ _ _ _ h => h) (by kernel_rfl) (fun u => by go_simp; try rfl) ?_
        try simp only [Act.put, pz0, pz1, pz2]
        refine PF.pf_take1 9 (PF.Same (g) _) (by kernel_rfl) rfl (fun _ _ _ _ _ h => h) (by kernel_rfl) (PF.Same.refl _ _) (fun u hu => by have hcu := hu.cell; go_simp; try rfl) ?_
        try simp only [Act.put, pz0, pz1, pz2]
        refine PF.pf_exec 10 (by kernel_rfl) rfl (by kernel_rfl) (fun K hK => ?_)
        go_simp
        refine (alike_any x y _).mono ?_; rintro e w1 ⟨rfl, hb1⟩
        refine hK _ _ (by repeat (first | exact PF.owes_nil | refine PF.owes_left ?_ | refine PF.owes_no (by decide +kernel) ?_ | refine PF.owes_yes (by first | rfl | assumption | go_simp) ?_)) ?_
        clear hK K
        try simp only [Act.put, pz0, pz1, pz2]
        refine PF.pf_done (by kernel_rfl) ?_
        clear c0 c1 c2 d0 d1 d2
        have hbw : Below base w w1 := hb.drew.trans (hb1.mono (Nat.le_trans hbase hb.size))
        have ho1 : OwnM w1 base (.slice (some ⟨g, 0, none⟩) ms.length c) ms := OwnM.call (w := wr.drew) ho hb1
        generalize (x.p.toInt == y.p.toInt) = r at HM HN ⊢
        cases r with
        | false =>
          go_wp2_with fail
          go_roundw
          case rel => exact ⟨j + 1 + 1, by omega, by omega, by go_num, hbw, ho1, HM.out rfl⟩
          case measure => simp [intOf]; omega
        | true =>
          have HAP := Lib.hid (HN.out rfl)
          clear HM HN HNO hs1 hs2
          have hcj : ¬ c = j + 1 := by omega
          go_wp2_with fail
          go_loopw [5, 7] (fun i q wr => ∃ a b : Nat, j + 1 ≤ a ∧ 1 ≤ b ∧ a ≤ j + b ∧ b ≤ ms.length - (j + 1) ∧ i = .int .i64 a ∧ q = .int .i64 b ∧ Below base w wr ∧ ∃ ms', ms'.length = ms.length ∧ OwnM wr base (.slice (some ⟨g, 0, none⟩) ms'.length c) ms') (fun _ q _ => ms.length - (intOf q).toNat)
          case atStart => exact ⟨j + 1, 1, by omega, by omega, by omega, by omega, by go_num, rfl, hbw, ms, rfl, ho1⟩
          case round =>
            rename_i wo
            obtain ⟨a, b, ha1, hb1', hab, hbn, rfl, rfl, hb2, ms', hl, ho2⟩ := hrel
            clear ho ho1 hbw hb1 hb hgw hown
            by_cases hlt2 : b < ms.length - (j + 1)
            · obtain ⟨q, rfl⟩ : ∃ q, b = q + 1 := ⟨b - 1, by omega⟩
              have hk1 : j + 1 + (q + 1) < ms'.length := by omega
              have hk2 : j + 1 + q < ms'.length := by omega
              have hk3 : a < ms'.length := by omega
              obtain ⟨c0, c1, c2, _, hgr2, _⟩ := ho2.at_ hk1
              obtain ⟨d0, d1, d2, _, _, _⟩ := ho2.at_ hk2
              generalize hx : ms'[j + 1 + (q + 1)] = x2 at c0 c1 c2
              generalize ms'[j + 1 + q] = y2 at d0 d1 d2
              rw [show (j + 1 + (q + 1)) * 3 = (j + 1) * 3 + (q + 1) * 3 from by omega] at c0 c1 c2
              rw [show (j + 1 + q) * 3 = (j + 1) * 3 + q * 3 from by omega] at d0 d1 d2
              have HX := Lib.hid hx
              clear hx
              have hs1 : IntKind.i64.wrap (q : Int) = (q : Int) := IntWalk.i64_in _ (by omega)
              have hs2 : ((q : Int) + 1).toNat = q + 1 := by omega
              have hs6 : 0 ≤ (q : Int) + 1 := by omega
              have hs7 : (q : Int) + 1 < ((ms.length - (j + 1) : Nat) : Int) := by omega
              have hs8 : (q : Int) < ((ms.length - (j + 1) : Nat) : Int) := by omega
              go_wp2_with fail
              refine PF.pf_begin (by kernel_rfl) ?_
              refine PF.pf_take0 0 (by kernel_rfl) rfl (fun _ _ _ _ _ h => h) (by kernel_rfl) (fun u => by go_simp; try rfl) ?_
              try simp only [Act.put, pz0, pz1, pz2]
              refine PF.pf_take0 1 (by kernel_rfl) rfl (fun _ _ _ _ _ h => h) (by kernel_rfl) (fun u => by go_simp; try rfl) ?_
              try simp only [Act.put, pz0, pz1, pz2]
              refine PF.pf_take0 2 (by kernel_rfl) rfl (fun _ _ _ _ _ h => h) (by kernel_rfl) (fun u => by go_simp; try rfl) ?_
              try simp only [Act.put, pz0, pz1, pz2]
              refine PF.pf_take0 3 (by kernel_rfl) rfl (fun _ _ _ _ _ h => h) (by kernel_rfl) (fun u => by go_simp; try rfl) ?_
              try simp only [Act.put, pz0, pz1, pz2]
              refine PF.pf_take1 4 (PF.Same (g) _) (by kernel_rfl) rfl (fun _ _ _ _ _ h => h) (by kernel_rfl) (PF.Same.refl _ _) (fun u hu => by have hcu := hu.cell; go_simp; try rfl) ?_
              try simp only [Act.put, pz0, pz1, pz2]
              refine PF.pf_take0 5 (by kernel_rfl) rfl (fun _ _ _ _ _ h => h) (by kernel_rfl) (fun u => by go_simp; try rfl) ?_
              try simp only [Act.put, pz0, pz1, pz2]
              refine PF.pf_take0 6 (by kernel_rfl) rfl (fun _ _ _ _ _ h => h) (by kernel_rfl) (fun u => by go_simp; try rfl) ?_
              try simp only [Act.put, pz0, pz1, pz2]
              refine PF.pf_take0 7 (by kernel_rfl) rfl (fun _ _ _ _ _ h => h) (by kernel_rfl) (fun u => by go_simp; try rfl) ?_
              try simp only [Act.put, pz0, pz1, pz2]
              refine PF.pf_take0 8 (by kernel_rfl) rfl (fun _ _ _ _ _ h => h) (by kernel_rfl) (fun u => by go_simp; try rfl) ?_
              try simp only [Act.put, pz0, pz1, pz2]
              refine PF.pf_take1 9 (PF.Same (g) _) (by kernel_rfl) rfl (fun _ _ _ _ _ h => h) (by kernel_rfl) (PF.Same.refl _ _) (fun u hu => by have hcu := hu.cell; go_simp; try rfl) ?_
              try simp only [Act.put, pz0, pz1, pz2]
              refine PF.pf_exec 10 (by kernel_rfl) rfl (by kernel_rfl) (fun K hK => ?_)
              go_simp
              refine (alike_any x2 y2 _).mono ?_; rintro e w2 ⟨rfl, hb3⟩
              refine hK _ _ (by repeat (first | exact PF.owes_nil | refine PF.owes_left ?_ | refine PF.owes_no (by decide +kernel) ?_ | refine PF.owes_yes (by first | rfl | assumption | go_simp) ?_)) ?_
              clear hK K
              try simp only [Act.put, pz0, pz1, pz2]
              refine PF.pf_take0 11 (by kernel_rfl) rfl (fun _ _ _ _ _ h => h) (by kernel_rfl) (fun u => by go_simp; try rfl) ?_
              try simp only [Act.put, pz0, pz1, pz2]
              refine PF.pf_done (by kernel_rfl) ?_
              clear c0 c1 c2 d0 d1 d2
              have hbw : Below base w w2 := hb2.drew.trans (hb3.mono (Nat.le_trans hbase hb2.size))
              have ho3 : OwnM w2 base (.slice (some ⟨g, 0, none⟩) ms'.length c) ms' := OwnM.call (w := wr.drew) ho2 hb3
              clear hb2 hb3 ho2
              generalize (x2.p.toInt == y2.p.toInt) = r
              clear hs1 hs2
              cases r with
              | true =>
                go_wp2_with fail
                go_roundw
                case rel => exact ⟨a, q + 1 + 1, by omega, by omega, by omega, by omega, rfl, by go_num, hbw, ms', hl, ho3⟩
                case measure => simp [intOf]; omega
              | false =>
                obtain ⟨c0, c1, c2, hfr, hgr3, _⟩ := ho3.at_ hk1
                obtain ⟨d0, d1, d2, _, _, _⟩ := ho3.at_ hk3
                rw [HX.out] at c0 c1 c2
                rw [show (j + 1 + (q + 1)) * 3 = (j + 1) * 3 + (q + 1) * 3 from by omega] at c0 c1 c2
                generalize ms'[a] = z at d0 d1 d2
                have f0 := hfr (a * 3)
                have f1 := hfr (a * 3 + 1)
                have f2 := hfr (a * 3 + 2)
                have HSET := Lib.hid (ho3.set a x2)
                have HL := Lib.hid hl
                have hs9 : (a : Int) < (ms.length : Int) := by omega
                clear hfr hl ho3
                go_wp2_with fail
                go_roundw
                case rel => exact ⟨a + 1, q + 1 + 1, by omega, by omega, by omega, by omega, by go_num, by go_num, hbw.grown HSET.out.2 (Nat.le_trans hbase hbw.size) (fun j hj => by cases hj; exact hg), ms'.set a x2, by rw [List.length_set]; exact HL.out, by have := HSET.out.1; rw [List.length_set]; exact this⟩
                case measure => simp [intOf]; omega
            · have hca : ¬ c = a := by omega
              rw [hl] at ho2
              have ho3 : wr.ownsRow base 38 3 (.slice (some ⟨g, 0, none⟩) ms.length c) ms.length (Mk.row ms') := by unfold OwnM at ho2; rw [hl] at ho2; exact ho2
              have HL := Lib.hid hl
              clear hl ho2
              obtain ⟨w3, hcl, ho4, hg4⟩ := own_clear (P := Try.prog) (size := 3) (i := a) Try.underlying25 zero_mark rfl (by decide) (by decide) ho3 (by omega) (c - a) 0
              have hb4 : Below base w w3 := hb2.grown hg4 (Nat.le_trans hbase hb2.size) (fun j hj => by cases hj; exact hg)
              go_wp2_with fail
              go_ret
              exact ⟨⟨_, _, _, rfl, by omega, by constructor; (intro h; omega); (intro h; exact absurd h HAP.out)⟩, hb4⟩
      · obtain rfl : k = ms.length := by omega
        go_wp2_with fail
        go_ret
        exact ⟨⟨_, _, _, rfl, Nat.le_refl _, by simp only [true_iff]; exact fun i hi => HNO.out i hi (by omega)⟩, hb⟩
end Go.Proofs.Ytgdbknbpnlpdnaa
