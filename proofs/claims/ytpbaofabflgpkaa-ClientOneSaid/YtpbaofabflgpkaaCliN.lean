/- slices.Compact of numbers, slices.ContainsFunc of numbers that may not be. -/
import Derived.Test.YtpbaofabflgpkaaCliW
namespace Go.Proofs.Ytpbaofabflgpkaa
set_option linter.unusedVariables false
set_option linter.unusedSimpArgs false
open Go.RowKit

/-- No two neighbours are alike. -/
def apartI (xs : List Int) : Prop := ∀ i (h : i + 1 < xs.length), (xs[i + 1] == xs[i]) = false
def CompactPostI (xs : List Int) (e : Ending) : Prop := ∃ A n c, e = .returned (.slice A n c) ∧ n ≤ xs.length ∧ (n = xs.length ↔ apartI xs)
def OwnI (w : World) (base : Nat) (v : Value) (xs : List Int) : Prop := w.ownsRow base 3 1 v xs.length (xs.map iv)
section
variable {w w' : World} {base : Nat} {v : Value} {xs : List Int}
theorem OwnI.ptr (h : OwnI w base v xs) (hn : 0 < xs.length) : ∃ g c, v = .slice (some ⟨g, 0, none⟩) xs.length c ∧ base ≤ g ∧ g < w.heap.size ∧ xs.length ≤ c ∧ c ≤ maxLen := by
  obtain ⟨g, c, rfl, h1, h2, h3⟩ := own_ptr h hn
  exact ⟨g, c, rfl, h1, (h.lt g rfl).2, h2, h3⟩
theorem OwnI.at_ {g c : Nat} (h : OwnI w base (.slice (some ⟨g, 0, none⟩) xs.length c) xs) {k : Nat} (hk : k < xs.length) :
    w.cell? ⟨g, k, none⟩ = some (.int .i64 xs[k]) ∧ (∀ j, w.frozen? ⟨g, j, none⟩ = false) ∧ g < w.heap.size ∧ base ≤ g :=
  ⟨(World.ownsRow.cellAt h _ (by omega)).trans (by rw [List.getElem?_map, List.getElem?_eq_getElem hk]; rfl), fun j => World.ownsRow.frozenAt h j, (World.ownsRow.lt h g rfl).2, (World.ownsRow.lt h g rfl).1⟩
theorem OwnI.set {g c : Nat} (h : OwnI w base (.slice (some ⟨g, 0, none⟩) xs.length c) xs) (j : Nat) (m : Int) :
    OwnI (w.setCell ⟨g, j, none⟩ (.int .i64 m)) base (.slice (some ⟨g, 0, none⟩) xs.length c) (xs.set j m) ∧ w.grownBy (w.setCell ⟨g, j, none⟩ (.int .i64 m)) (some g) := by
  obtain ⟨h1, g1⟩ := World.ownsRow.stored h j (.int .i64 m)
  refine ⟨?_, g1⟩
  unfold OwnI
  rw [List.length_set, List.map_set]
  exact h1
theorem OwnI.call (h : OwnI w base v xs) (hb : Below w.heap.size w w') : OwnI w' base v xs := own_call h hb
end
theorem zero_int (w : World) : (zeroValue 3).run Try.prog w = .ok (.int .i64 0) w := Try.zeroValue3 w
set_option maxRecDepth 100000 in
set_option maxHeartbeats 2000000 in
theorem icompact_any (A : Option Addr) (n c base : Nat) (ms : List Int) (hn : n = ms.length) (w : World) (hown : OwnI w base (.slice A n c) ms) (hm : ms.length ≤ 5864062014634) (hbase : base ≤ w.heap.size) :
    Calls Try.prog 21 #[.slice A n c] w fun e w' => CompactPostI ms e ∧ Below base w w' := by
  subst hn
  by_cases h2 : ms.length < 2
  · have HAP : Hid (apartI ms) := fun i hi => absurd hi (by omega)
    have hd : decide ((ms.length : Int) < 2) = true := by rw [decide_eq_true_iff]; omega
    go_enter Try.func21, Try.ntmps21
    go_wp2_with fail
    go_ret
    exact ⟨⟨_, _, _, rfl, Nat.le_refl _, by simp only [true_iff]; exact HAP.out⟩, Below.refl _ _⟩
  · obtain ⟨g, c', e, hg, hgw, hc1, hc2⟩ := hown.ptr (by omega)
    injection e with e1 _ e2
    subst e1 e2
    simp only [maxLen] at hc2
    have hd : decide ((ms.length : Int) < 2) = false := by rw [decide_eq_false_iff_not]; omega
    go_enter Try.func21, Try.ntmps21
    go_wp2_with fail
    go_loopw [3] (fun i wr => ∃ k : Nat, 1 ≤ k ∧ k ≤ ms.length ∧ i = .int .i64 k ∧ Below base w wr ∧ OwnI wr base (.slice (some ⟨g, 0, none⟩) ms.length c) ms ∧ ∀ j (h : j + 1 < ms.length), j + 1 < k → (ms[j + 1] == ms[j]) = false) (fun i _ => ms.length - (intOf i).toNat)
    case atStart => exact ⟨1, by omega, by omega, rfl, Below.refl _ _, hown, fun j hj hk => absurd hk (by omega)⟩
    case round =>
      obtain ⟨k, hk1, hk, rfl, hb, ho, hno⟩ := hrel
      have HNO := Lib.hid hno
      clear hno
      by_cases hlt : k < ms.length
      · obtain ⟨j, rfl⟩ : ∃ j, k = j + 1 := ⟨k - 1, by omega⟩
        obtain ⟨c0, _, hgr, _⟩ := ho.at_ (k := j + 1) hlt
        obtain ⟨d0, _, _, _⟩ := ho.at_ (k := j) (by omega)
        have HM : Hid ((ms[j + 1] == ms[j]) = false → ∀ i (h : i + 1 < ms.length), i + 1 < j + 1 + 1 → (ms[i + 1] == ms[i]) = false) := fun h i hi hji => by
          by_cases e : i = j
          · subst e; exact h
          · exact HNO.out i hi (by omega)
        have HN : Hid ((ms[j + 1] == ms[j]) = true → ¬ apartI ms) := fun h hu => by rw [hu j hlt] at h; cases h
        generalize ms[j + 1] = x at c0 HM HN
        generalize ms[j] = y at d0 HM HN
        have hs1 : IntKind.i64.wrap (j : Int) = (j : Int) := IntWalk.i64_in _ (by omega)
        have hs2 : ((j : Int) + 1).toNat = j + 1 := by omega
        have hs3 : 0 ≤ (j : Int) + 1 := by omega
        have hs4 : (j : Int) + 1 < (ms.length : Int) := by omega
        have hs5 : (j : Int) < (ms.length : Int) := by omega
        have hbw : Below base w wr.drew := hb.drew
        have ho1 : OwnI wr.drew base (.slice (some ⟨g, 0, none⟩) ms.length c) ms := ho
        cases hr : (x == y) with
        | false =>
          go_wp2_with fail
          refine PF.pf_begin (by kernel_rfl) ?_
          refine PF.pf_take0 0 (by kernel_rfl) rfl (fun _ _ _ _ _ h => h) (by kernel_rfl) (fun u => by go_simp; try rfl) ?_
          try simp only [Act.put, pz0, pz1, pz2]
          refine PF.pf_take0 1 (by kernel_rfl) rfl (fun _ _ _ _ _ h => h) (by kernel_rfl) (fun u => by go_simp; try rfl) ?_
          try simp only [Act.put, pz0, pz1, pz2]
          refine PF.pf_take0 2 (by kernel_rfl) rfl (fun _ _ _ _ _ h => h) (by kernel_rfl) (fun u => by go_simp; try rfl) ?_
          try simp only [Act.put, pz0, pz1, pz2]
          refine PF.pf_take1 3 (PF.Same (g) _) (by kernel_rfl) rfl (fun _ _ _ _ _ h => h) (by kernel_rfl) (PF.Same.refl _ _) (fun u hu => by have hcu := hu.cell; go_simp; try rfl) ?_
          try simp only [Act.put, pz0, pz1, pz2]
          refine PF.pf_take0 4 (by kernel_rfl) rfl (fun _ _ _ _ _ h => h) (by kernel_rfl) (fun u => by go_simp; try rfl) ?_
          try simp only [Act.put, pz0, pz1, pz2]
          refine PF.pf_take0 5 (by kernel_rfl) rfl (fun _ _ _ _ _ h => h) (by kernel_rfl) (fun u => by go_simp; try rfl) ?_
          try simp only [Act.put, pz0, pz1, pz2]
          refine PF.pf_take0 6 (by kernel_rfl) rfl (fun _ _ _ _ _ h => h) (by kernel_rfl) (fun u => by go_simp; try rfl) ?_
          try simp only [Act.put, pz0, pz1, pz2]
          refine PF.pf_take0 7 (by kernel_rfl) rfl (fun _ _ _ _ _ h => h) (by kernel_rfl) (fun u => by go_simp; try rfl) ?_
          try simp only [Act.put, pz0, pz1, pz2]
          refine PF.pf_take1 8 (PF.Same (g) _) (by kernel_rfl) rfl (fun _ _ _ _ _ h => h) (by kernel_rfl) (PF.Same.refl _ _) (fun u hu => by have hcu := hu.cell; go_simp; try rfl) ?_
          try simp only [Act.put, pz0, pz1, pz2]
          refine PF.pf_take0 9 (by kernel_rfl) rfl (fun _ _ _ _ _ h => h) (by kernel_rfl) (fun u => by go_simp; try rfl) ?_
          try simp only [Act.put, pz0, pz1, pz2]
          refine PF.pf_done (by kernel_rfl) ?_
          clear c0 d0
          go_wp2_with fail
          go_roundw
          case rel => exact ⟨j + 1 + 1, by omega, by omega, by go_num, hbw, ho1, HM.out hr⟩
          case measure => simp [intOf]; omega
        | true =>
          have HAP := Lib.hid (HN.out hr)
          clear HM HN HNO
          have hcj : ¬ c = j + 1 := by omega
          go_wp2_with fail
          refine PF.pf_begin (by kernel_rfl) ?_
          refine PF.pf_take0 0 (by kernel_rfl) rfl (fun _ _ _ _ _ h => h) (by kernel_rfl) (fun u => by go_simp; try rfl) ?_
          try simp only [Act.put, pz0, pz1, pz2]
          refine PF.pf_take0 1 (by kernel_rfl) rfl (fun _ _ _ _ _ h => h) (by kernel_rfl) (fun u => by go_simp; try rfl) ?_
          try simp only [Act.put, pz0, pz1, pz2]
          refine PF.pf_take0 2 (by kernel_rfl) rfl (fun _ _ _ _ _ h => h) (by kernel_rfl) (fun u => by go_simp; try rfl) ?_
          try simp only [Act.put, pz0, pz1, pz2]
          refine PF.pf_take1 3 (PF.Same (g) _) (by kernel_rfl) rfl (fun _ _ _ _ _ h => h) (by kernel_rfl) (PF.Same.refl _ _) (fun u hu => by have hcu := hu.cell; go_simp; try rfl) ?_
          try simp only [Act.put, pz0, pz1, pz2]
          refine PF.pf_take0 4 (by kernel_rfl) rfl (fun _ _ _ _ _ h => h) (by kernel_rfl) (fun u => by go_simp; try rfl) ?_
          try simp only [Act.put, pz0, pz1, pz2]
          refine PF.pf_take0 5 (by kernel_rfl) rfl (fun _ _ _ _ _ h => h) (by kernel_rfl) (fun u => by go_simp; try rfl) ?_
          try simp only [Act.put, pz0, pz1, pz2]
          refine PF.pf_take0 6 (by kernel_rfl) rfl (fun _ _ _ _ _ h => h) (by kernel_rfl) (fun u => by go_simp; try rfl) ?_
          try simp only [Act.put, pz0, pz1, pz2]
          refine PF.pf_take0 7 (by kernel_rfl) rfl (fun _ _ _ _ _ h => h) (by kernel_rfl) (fun u => by go_simp; try rfl) ?_
          try simp only [Act.put, pz0, pz1, pz2]
          refine PF.pf_take1 8 (PF.Same (g) _) (by kernel_rfl) rfl (fun _ _ _ _ _ h => h) (by kernel_rfl) (PF.Same.refl _ _) (fun u hu => by have hcu := hu.cell; go_simp; try rfl) ?_
          try simp only [Act.put, pz0, pz1, pz2]
          refine PF.pf_take0 9 (by kernel_rfl) rfl (fun _ _ _ _ _ h => h) (by kernel_rfl) (fun u => by go_simp; try rfl) ?_
          try simp only [Act.put, pz0, pz1, pz2]
          refine PF.pf_done (by kernel_rfl) ?_
          clear c0 d0 hs1 hs2
          go_wp2_with fail
          go_loopw [3, 5] (fun i q wr => ∃ a b : Nat, j + 1 ≤ a ∧ 1 ≤ b ∧ a ≤ j + b ∧ b ≤ ms.length - (j + 1) ∧ i = .int .i64 a ∧ q = .int .i64 b ∧ Below base w wr ∧ ∃ ms', ms'.length = ms.length ∧ OwnI wr base (.slice (some ⟨g, 0, none⟩) ms'.length c) ms') (fun _ q _ => ms.length - (intOf q).toNat)
          case atStart => exact ⟨j + 1, 1, by omega, by omega, by omega, by omega, by go_num, rfl, hbw, ms, rfl, ho1⟩
          case round =>
            rename_i wo
            obtain ⟨a, b, ha1, hb1', hab, hbn, rfl, rfl, hb2, ms', hl, ho2⟩ := hrel
            clear ho ho1 hbw hb hgw hown hr
            by_cases hlt2 : b < ms.length - (j + 1)
            · obtain ⟨q, rfl⟩ : ∃ q, b = q + 1 := ⟨b - 1, by omega⟩
              have hk1 : j + 1 + (q + 1) < ms'.length := by omega
              have hk2 : j + 1 + q < ms'.length := by omega
              have hk3 : a < ms'.length := by omega
              obtain ⟨c0, hfr, hgr2, _⟩ := ho2.at_ hk1
              obtain ⟨d0, _, _, _⟩ := ho2.at_ hk2
              obtain ⟨z0, _, _, _⟩ := ho2.at_ hk3
              have f0 := hfr a
              generalize ms'[j + 1 + (q + 1)] = x2 at c0
              generalize ms'[j + 1 + q] = y2 at d0
              generalize ms'[a] = z2 at z0
              have hs1 : IntKind.i64.wrap (q : Int) = (q : Int) := IntWalk.i64_in _ (by omega)
              have hs2 : ((q : Int) + 1).toNat = q + 1 := by omega
              have hs6 : 0 ≤ (q : Int) + 1 := by omega
              have hs7 : (q : Int) + 1 < ((ms.length - (j + 1) : Nat) : Int) := by omega
              have hs8 : (q : Int) < ((ms.length - (j + 1) : Nat) : Int) := by omega
              have hbw : Below base w wr.drew := hb2.drew
              have ho3 : OwnI wr.drew base (.slice (some ⟨g, 0, none⟩) ms'.length c) ms' := ho2
              cases hr2 : (x2 == y2) with
              | true =>
                go_wp2_with fail
                refine PF.pf_begin (by kernel_rfl) ?_
                refine PF.pf_take0 0 (by kernel_rfl) rfl (fun _ _ _ _ _ h => h) (by kernel_rfl) (fun u => by go_simp; try rfl) ?_
                try simp only [Act.put, pz0, pz1, pz2]
                refine PF.pf_take0 1 (by kernel_rfl) rfl (fun _ _ _ _ _ h => h) (by kernel_rfl) (fun u => by go_simp; try rfl) ?_
                try simp only [Act.put, pz0, pz1, pz2]
                refine PF.pf_take0 2 (by kernel_rfl) rfl (fun _ _ _ _ _ h => h) (by kernel_rfl) (fun u => by go_simp; try rfl) ?_
                try simp only [Act.put, pz0, pz1, pz2]
                refine PF.pf_take1 3 (PF.Same (g) _) (by kernel_rfl) rfl (fun _ _ _ _ _ h => h) (by kernel_rfl) (PF.Same.refl _ _) (fun u hu => by have hcu := hu.cell; go_simp; try rfl) ?_
                try simp only [Act.put, pz0, pz1, pz2]
                refine PF.pf_take0 4 (by kernel_rfl) rfl (fun _ _ _ _ _ h => h) (by kernel_rfl) (fun u => by go_simp; try rfl) ?_
                try simp only [Act.put, pz0, pz1, pz2]
                refine PF.pf_take0 5 (by kernel_rfl) rfl (fun _ _ _ _ _ h => h) (by kernel_rfl) (fun u => by go_simp; try rfl) ?_
                try simp only [Act.put, pz0, pz1, pz2]
                refine PF.pf_take0 6 (by kernel_rfl) rfl (fun _ _ _ _ _ h => h) (by kernel_rfl) (fun u => by go_simp; try rfl) ?_
                try simp only [Act.put, pz0, pz1, pz2]
                refine PF.pf_take0 7 (by kernel_rfl) rfl (fun _ _ _ _ _ h => h) (by kernel_rfl) (fun u => by go_simp; try rfl) ?_
                try simp only [Act.put, pz0, pz1, pz2]
                refine PF.pf_take1 8 (PF.Same (g) _) (by kernel_rfl) rfl (fun _ _ _ _ _ h => h) (by kernel_rfl) (PF.Same.refl _ _) (fun u hu => by have hcu := hu.cell; go_simp; try rfl) ?_
                try simp only [Act.put, pz0, pz1, pz2]
                refine PF.pf_take0 9 (by kernel_rfl) rfl (fun _ _ _ _ _ h => h) (by kernel_rfl) (fun u => by go_simp; try rfl) ?_
                try simp only [Act.put, pz0, pz1, pz2]
                refine PF.pf_done (by kernel_rfl) ?_
                clear c0 d0 z0 hs1 hs2
                go_wp2_with fail
                go_roundw
                case rel => exact ⟨a, q + 1 + 1, by omega, by omega, by omega, by omega, rfl, by go_num, hbw, ms', hl, ho3⟩
                case measure => simp [intOf]; omega
              | false =>
                have HSET := Lib.hid (ho3.set a x2)
                have HL := Lib.hid hl
                have hs9 : (a : Int) < (ms.length : Int) := by omega
                clear ho3 ho2 hfr hl
                go_wp2_with fail
                refine PF.pf_begin (by kernel_rfl) ?_
                refine PF.pf_take0 0 (by kernel_rfl) rfl (fun _ _ _ _ _ h => h) (by kernel_rfl) (fun u => by go_simp; try rfl) ?_
                try simp only [Act.put, pz0, pz1, pz2]
                refine PF.pf_take0 1 (by kernel_rfl) rfl (fun _ _ _ _ _ h => h) (by kernel_rfl) (fun u => by go_simp; try rfl) ?_
                try simp only [Act.put, pz0, pz1, pz2]
                refine PF.pf_take0 2 (by kernel_rfl) rfl (fun _ _ _ _ _ h => h) (by kernel_rfl) (fun u => by go_simp; try rfl) ?_
                try simp only [Act.put, pz0, pz1, pz2]
                refine PF.pf_take1 3 (PF.Same (g) _) (by kernel_rfl) rfl (fun _ _ _ _ _ h => h) (by kernel_rfl) (PF.Same.refl _ _) (fun u hu => by have hcu := hu.cell; go_simp; try rfl) ?_
                try simp only [Act.put, pz0, pz1, pz2]
                refine PF.pf_take0 4 (by kernel_rfl) rfl (fun _ _ _ _ _ h => h) (by kernel_rfl) (fun u => by go_simp; try rfl) ?_
                try simp only [Act.put, pz0, pz1, pz2]
                refine PF.pf_take0 5 (by kernel_rfl) rfl (fun _ _ _ _ _ h => h) (by kernel_rfl) (fun u => by go_simp; try rfl) ?_
                try simp only [Act.put, pz0, pz1, pz2]
                refine PF.pf_take0 6 (by kernel_rfl) rfl (fun _ _ _ _ _ h => h) (by kernel_rfl) (fun u => by go_simp; try rfl) ?_
                try simp only [Act.put, pz0, pz1, pz2]
                refine PF.pf_take0 7 (by kernel_rfl) rfl (fun _ _ _ _ _ h => h) (by kernel_rfl) (fun u => by go_simp; try rfl) ?_
                try simp only [Act.put, pz0, pz1, pz2]
                refine PF.pf_take1 8 (PF.Same (g) _) (by kernel_rfl) rfl (fun _ _ _ _ _ h => h) (by kernel_rfl) (PF.Same.refl _ _) (fun u hu => by have hcu := hu.cell; go_simp; try rfl) ?_
                try simp only [Act.put, pz0, pz1, pz2]
                refine PF.pf_take0 9 (by kernel_rfl) rfl (fun _ _ _ _ _ h => h) (by kernel_rfl) (fun u => by go_simp; try rfl) ?_
                try simp only [Act.put, pz0, pz1, pz2]
                refine PF.pf_done (by kernel_rfl) ?_
                clear d0 hs1 hs2
                have c1 : wr.drew.cell? ⟨g, j + 1 + (q + 1), none⟩ = some (.int .i64 x2) := c0
                have z1 : wr.drew.cell? ⟨g, a, none⟩ = some (.int .i64 z2) := z0
                have f1 : wr.drew.frozen? ⟨g, a, none⟩ = false := f0
                clear c0 z0 f0
                go_wp2_with fail
                go_roundw
                case rel => exact ⟨a + 1, q + 1 + 1, by omega, by omega, by omega, by omega, by go_num, by go_num, hbw.grown HSET.out.2 (Nat.le_trans hbase hbw.size) (fun j hj => by cases hj; exact hg), ms'.set a x2, by rw [List.length_set]; exact HL.out, by have := HSET.out.1; rw [List.length_set]; exact this⟩
                case measure => simp [intOf]; omega
            · have hca : ¬ c = a := by omega
              rw [hl] at ho2
              have ho3 : wr.ownsRow base 3 1 (.slice (some ⟨g, 0, none⟩) ms.length c) ms.length (ms'.map iv) := by unfold OwnI at ho2; rw [hl] at ho2; exact ho2
              have HL := Lib.hid hl
              clear hl ho2
              obtain ⟨w3, hcl, ho4, hg4⟩ := own_clear (P := Try.prog) (size := 1) (i := a) Try.underlying23 zero_int rfl (by decide) (by decide) ho3 (by omega) (c - a) 0
              have hb4 : Below base w w3 := hb2.grown hg4 (Nat.le_trans hbase hb2.size) (fun j hj => by cases hj; exact hg)
              rw [Nat.mul_one] at hcl
              go_wp2_with fail
              go_ret
              exact ⟨⟨_, _, _, rfl, by omega, by constructor; (intro h; omega); (intro h; exact absurd h HAP.out)⟩, hb4⟩
      · obtain rfl : k = ms.length := by omega
        go_wp2_with fail
        go_ret
        exact ⟨⟨_, _, _, rfl, Nat.le_refl _, by simp only [true_iff]; exact fun i hi => HNO.out i hi (by omega)⟩, hb⟩
/-- May a broker not be? -/
def oddB (b : Int) : Bool := decide (b < 1) || decide (15 < b)
set_option maxHeartbeats 400000 in
theorem odd1_any (b : Int) (w : World) : Calls Try.prog 17 #[.int .i64 b] w fun e w' => e = .returned (.bool (oddB b)) ∧ w' = w := by
  unfold oddB
  by_cases h1 : b < 1
  · rw [decide_eq_true h1]
    have d1 : decide (b < 1) = true := decide_eq_true h1
    clear h1
    go_enter Try.func17, Try.ntmps17
    go_wp2_with fail
    go_ret
    exact ⟨rfl, rfl⟩
  · rw [decide_eq_false h1]
    have d1 : decide (b < 1) = false := decide_eq_false h1
    clear h1
    go_enter Try.func17, Try.ntmps17
    go_wp2_with fail
    go_ret
    exact ⟨rfl, rfl⟩
theorem any_hit {xs : List Int} {k : Nat} (hk : k < xs.length) (h : oddB xs[k] = true) : xs.any oddB = true := List.any_eq_true.2 ⟨_, List.getElem_mem hk, h⟩
theorem any_miss {xs : List Int} (h : ∀ j (hj : j < xs.length), oddB xs[j] = false) : xs.any oddB = false := by
  rw [List.any_eq_false]
  intro x hx
  obtain ⟨i, hi, rfl⟩ := List.getElem_of_mem hx
  rw [h i hi]
  decide
/-- The place that is answered. -/
def OddPost (xs : List Int) (e : Ending) : Prop := ∃ z : Int, e = .returned (.int .i64 z) ∧ (xs.any oddB = true ↔ 0 ≤ z)
set_option maxHeartbeats 400000 in
theorem oddidx_any {K : Nat → Prop} {w : World} {v : Value} {xs : List Int} (h : SlI K w v xs) (hn : xs.length ≤ 9223372036854775807) :
    Calls Try.prog 33 #[v, .func (.func 17) #[] #[]] w fun e w' => OddPost xs e ∧ w' = w := by
  obtain ⟨A, c, rfl, hr, _⟩ := h
  have eg : ∀ args w, (callFunc 17 args).run Try.prog w = .ok (.enter 17 args) w := enters_of Try.func17 (by kernel_rfl) rfl
  go_enter Try.func33, Try.ntmps33
  go_wp2_with fail
  go_loopw [8] (fun i wr => ∃ k : Nat, k ≤ xs.length ∧ i = .int .i64 k ∧ wr = w ∧ ∀ j (_ : j < xs.length), j < k → oddB xs[j] = false) (fun i _ => xs.length - (intOf i).toNat)
  case atStart => exact ⟨0, by omega, rfl, rfl, fun j _ hj => absurd hj (Nat.not_lt_zero _)⟩
  case round =>
    obtain ⟨k, hk, rfl, rfl, hno⟩ := hrel
    have HNO := Lib.hid hno
    clear hno
    by_cases hlt : k < xs.length
    · obtain ⟨b, o, rfl, hbl, hcl⟩ := Reads.flat hr (by omega) (by decide)
      have c0 : wr.cell? ⟨b, o + k, none⟩ = some (.int .i64 xs[k]) := hcl k _ (by rw [List.getElem?_map, List.getElem?_eq_getElem hlt]; rfl)
      clear hcl
      have hcall := odd1_any xs[k] wr
      cases ho : oddB xs[k]
      · have HO := Lib.hid ho
        rw [ho] at hcall
        generalize xs[k] = x at c0 hcall
        clear ho
        go_wp2_with fail
        refine hcall.mono ?_
        rintro e w1 ⟨rfl, rfl⟩
        go_wp2_with fail
        go_roundw
        case rel => exact ⟨k + 1, by omega, by go_num, trivial, fun j hj hjk => by
          by_cases e : j = k
          · subst e; exact HO.out
          · exact HNO.out j hj (by omega)⟩
        case measure => simp [intOf]; omega
      · have HO := Lib.hid (any_hit hlt ho)
        rw [ho] at hcall
        generalize xs[k] = x at c0 hcall
        clear ho
        go_wp2_with fail
        refine hcall.mono ?_
        rintro e w1 ⟨rfl, rfl⟩
        go_wp2_with fail
        go_ret
        exact ⟨⟨_, rfl, by rw [HO.out]; simp⟩, rfl⟩
    · obtain rfl : k = xs.length := by omega
      go_wp2_with fail
      go_ret
      exact ⟨⟨_, rfl, by rw [any_miss fun j hj => HNO.out j hj hj]; simp⟩, rfl⟩
set_option maxHeartbeats 400000 in
theorem odd_any {K : Nat → Prop} {w : World} {v : Value} {xs : List Int} (h : SlI K w v xs) (hn : xs.length ≤ 9223372036854775807) :
    Calls Try.prog 16 #[v, .func (.func 17) #[] #[]] w fun e w' => e = .returned (.bool (xs.any oddB)) ∧ w' = w := by
  have hI := oddidx_any h hn
  obtain ⟨A, c, rfl, _⟩ := h
  go_enter Try.func16, Try.ntmps16
  go_wp2_with fail
  refine hI.mono ?_
  rintro e w1 ⟨⟨z, rfl, hz⟩, rfl⟩
  have HZ := Lib.hid hz
  clear hz hI
  go_wp2_with fail
  go_ret
  refine ⟨ret_bool ?_, rfl⟩
  have h := HZ.out
  cases hb : xs.any oddB
  · rw [hb] at h
    simp at h
    rw [decide_eq_false (by omega)]
  · rw [hb] at h
    simp at h
    rw [decide_eq_true (by omega)]
end Go.Proofs.Ytpbaofabflgpkaa
