/- The walk of SeenJoins. -/
import Derived.Test.YtgdbknbpnlpdnaaSeenT
import Derived.Test.YtgdbknbpnlpdnaaSeenU
namespace Go.Proofs.Ytgdbknbpnlpdnaa
open Go.RowKit

theorem joinS_may {a b : List Mk} (ha : mayB a = true) (hb : mayB b = true) : joinS a b = some (goesS a b) := by unfold joinS; rw [ha, hb]; rfl
/-- What is asked of each of the three rows. -/
def RowOk (x : List Mk) (k : Nat) (L : List Mk) : Prop := ∀ m ∈ L, ∃ y, lastM x m.p = some y ∧ m.s.toNat ≤ y.s.toNat ∧ (k = 0 → y.s = m.s → y = m)

set_option maxRecDepth 100000 in
set_option maxHeartbeats 4000000 in
theorem joinsLaw_any (A : Option Addr) (ca : Nat) (a : List Mk) (B : Option Addr) (cb : Nat) (b : List Mk) (C : Option Addr) (cc : Nat) (c : List Mk) (w : World) (hA : Marks w A a) (hB : Marks w B b) (hC : Marks w C c)
    (hn1 : a.length ≤ 5864062014634) (hn2 : b.length ≤ 5864062014634) (hn3 : c.length ≤ 5864062014634) (pa : mayB a = true) (pb : mayB b = true) (pc : mayB c = true) :
    Calls Try.prog 7 #[.slice A a.length ca, .slice B b.length cb, .slice C c.length cc] w fun e w' => e = .returned (.bool true) ∧ Below w.heap.size w w' := by
  have ha := mayB_P.1 pa
  have hb := mayB_P.1 pb
  have hc := mayB_P.1 pc
  have la := ha.1
  have lb := hb.1
  have lc := hc.1
  go_enter Try.func7, Try.ntmps7
  go_wp2_with fail
  refine (seenmay_any A ca a w hA hn1).mono ?_
  rintro e w1 ⟨rfl, hb1⟩
  rw [pa]
  go_wp2_with fail
  refine (seenmay_any B cb b w1 (hB.below hb1) hn2).mono ?_
  rintro e w2 ⟨rfl, hb2⟩
  rw [pb]
  have k2 := below_call hb1 hb1.size hb2
  go_wp2_with fail
  refine (seenmay_any C cc c w2 (hC.below k2) hn3).mono ?_
  rintro e w3 ⟨rfl, hb3⟩
  rw [pc]
  have k3 := below_call k2 k2.size hb3
  clear hb1 hb2 hb3 k2
  go_wp2_with fail
  have h1 := join_any A ca a B cb b w3 (hA.below k3) (hB.below k3) (by omega) (by omega)
  rw [joinS_may pa pb] at h1
  have l4 := out_le (goesS a b) fun L hL => goesS_le pa hb.2.1 hL
  have HAB : Hid (∀ ab, goesS a b = some ab → MayP ab) := fun ab h => goesS_mayP ha hb.2.1 h
  obtain ⟨gab, hgab⟩ : ∃ g, g = goesS a b := ⟨_, rfl⟩
  rw [← hgab] at h1 l4
  have H1 := Lib.hid hgab
  refine h1.mono ?_
  clear h1 hgab
  rintro e w4 ⟨hp, hb4⟩
  obtain ⟨A4, c4, rfl, hown4⟩ := hp.form
  have k4 := below_call k3 k3.size hb4
  clear hp
  go_wp2_with fail
  have h1 := join_any B cb b C cc c w4 (hB.below k4) (hC.below k4) (by omega) (by omega)
  rw [joinS_may pb pc] at h1
  have l5 := out_le (goesS b c) fun L hL => goesS_le pb hc.2.1 hL
  obtain ⟨gbc, hgbc⟩ : ∃ g, g = goesS b c := ⟨_, rfl⟩
  rw [← hgbc] at h1 l5
  have H2 := Lib.hid hgbc
  refine h1.mono ?_
  clear h1 hgbc
  rintro e w5 ⟨hp, hb5⟩
  obtain ⟨A5, c5, rfl, hown5⟩ := hp.form
  have k5 := below_call k4 k4.size hb5
  have hM4 := hown4.marks.below hb5
  have hM5 := hown5.marks
  clear hp hown4 hown5 hb4 hb5
  cases gab with
  | none =>
    rw [show outOf (some (none : Option (List Mk))) = (3, []) from rfl]
    clear hM4 hM5 H2 l5
    generalize outOf (some gbc) = ob
    obtain ⟨ob1, ob2⟩ := ob
    simp only
    go_wp2_with fail
    refine (awake_any _).mono ?_
    rintro e w6 ⟨rfl, hb6⟩
    go_wp2_with fail
    go_ret
    exact ⟨rfl, below_call k5 k5.size hb6⟩
  | some ab =>
    cases gbc with
    | none =>
      simp only [outOf]
      go_wp2_with fail
      refine (awake_any _).mono ?_
      rintro e w6 ⟨rfl, hb6⟩
      go_wp2_with fail
      go_ret
      exact ⟨rfl, below_call k5 k5.size hb6⟩
    | some bc =>
      simp only [outOf] at hM4 hM5 l4 l5 ⊢
      have pab := HAB.out ab H1.out.symm
      have pbc := goesS_mayP hb hc.2.1 H2.out.symm
      have HJ := Lib.hid (join_three ha hb hc H1.out.symm H2.out.symm)
      have HT : Hid (∀ x, goesS ab c = some x → (RowOk x 0 a ∧ RowOk x 1 b ∧ RowOk x 2 c)) := fun x hx => by
        obtain ⟨t1, t2⟩ := three_marks ha hb hc H1.out.symm hx
        refine ⟨fun m hm => ?_, fun m hm => ?_, fun m hm => ?_⟩
        · obtain ⟨y, hy, hs⟩ := t1 m (.inl hm)
          exact ⟨y, hy, hs, fun _ h => t2 m hm y hy h⟩
        · obtain ⟨y, hy, hs⟩ := t1 m (.inr (.inl hm))
          exact ⟨y, hy, hs, fun h => absurd h (by omega)⟩
        · obtain ⟨y, hy, hs⟩ := t1 m (.inr (.inr hm))
          exact ⟨y, hy, hs, fun h => absurd h (by omega)⟩
      have lle := out_le (goesS ab c) fun L hL => goesS_le (mayB_P.2 pab) hc.2.1 hL
      go_wp2_with fail
      have h1 := join_any A4 c4 ab C cc c w5 hM4 (hC.below k5) (by omega) (by omega)
      rw [joinS_may (mayB_P.2 pab) pc] at h1
      have h2 := fun W h => join_any A ca a A5 c5 bc W (hA.below (h : Below w.heap.size w W)) 
      clear H1 H2 HAB
      have HX : Hid (∀ W, Below w.heap.size w W → Marks W A5 bc → Calls Try.prog 19 #[.slice A a.length ca, .slice A5 bc.length c5] W fun e w' => OutPost W.heap.size (some (goesS ab c)) e w' ∧ Below W.heap.size W w') := fun W h hM => by
        have h3 := join_any A ca a A5 c5 bc W (hA.below h) hM (by omega) (by omega)
        rw [joinS_may pa (mayB_P.2 pbc), ← HJ.out] at h3
        exact h3
      clear h2 HJ
      generalize goesS ab c = gx at h1 HX HT lle
      refine h1.mono ?_
      clear h1
      rintro e w6 ⟨hp, hb6⟩
      obtain ⟨A6, c6, rfl, hown6⟩ := hp.form
      have k6 := below_call k5 k5.size hb6
      have hM5' := hM5.below hb6
      clear hp
      go_wp2_with fail
      refine (HX.out w6 k6 hM5').mono ?_
      rintro e w7 ⟨hp, hb7⟩
      obtain ⟨A7, c7, rfl, hown7⟩ := hp.form
      have k7 := below_call k6 k6.size hb7
      have hM6 := hown6.marks.below hb7
      have hM7 := hown7.marks
      clear hp hown6 hown7 hM4 hM5 hM5' HX hb6 hb7 k3 k4 k5 k6
      cases gx with
      | none =>
        simp only [outOf]
        go_wp2_with fail
        go_loopw [16] (fun i wr => i = .int .i64 0 ∧ Below w.heap.size w wr) (fun _ _ => 0)
        case atStart => exact ⟨rfl, k7.alloc k7.size _⟩
        case round =>
          obtain ⟨rfl, hbr⟩ := hrel
          go_wp2_with fail
          refine (awake_any _).mono ?_
          rintro e w8 ⟨rfl, hb8⟩
          go_wp2_with fail
          go_ret
          exact ⟨rfl, below_call hbr hbr.size hb8⟩
      | some x =>
        simp only [outOf] at hM6 hM7 lle ⊢
        obtain ⟨r0, r1, r2⟩ := HT.out x rfl
        clear HT
        go_wp2_with fail
        have hs := same_b A6 A7 c6 c7 x x w7 hM6 hM7 (by omega) (by omega)
        rw [self_true] at hs
        refine hs.mono ?_
        clear hs
        rintro e w8 ⟨rfl, hb8⟩
        have k8 := below_call k7 k7.size hb8
        have hM8 := hM6.below hb8
        clear hM6 hM7 hb8 k7
        obtain ⟨w9, hw9e⟩ : ∃ w9 : World, w9 = w8.alloc (.cells #[.slice A a.length ca, .slice B b.length cb, .slice C c.length cc] 25) := ⟨_, rfl⟩
        have k9 : Below w.heap.size w w9 := by rw [hw9e]; exact k8.alloc k8.size _
        have kk9 : Below w9.heap.size w9 w9 := Below.refl _ _
        have hM9 : Marks w9 A6 x := by rw [hw9e]; exact hM8.below (below_new _ _)
        have hbk : Blk w9 w8.heap.size 25 #[.slice A a.length ca, .slice B b.length cb, .slice C c.length cc] := by rw [hw9e]; exact Blk.new _ _ _
        have HW9 := Lib.hid hw9e
        clear hw9e hM8 k8
        -- the three rows, by their number
        obtain ⟨RA, hRA⟩ : ∃ RA : Nat → Option Addr, RA = fun k => if k = 0 then A else if k = 1 then B else C := ⟨_, rfl⟩
        obtain ⟨RL, hRL⟩ : ∃ RL : Nat → List Mk, RL = fun k => if k = 0 then a else if k = 1 then b else c := ⟨_, rfl⟩
        obtain ⟨RC, hRC⟩ : ∃ RC : Nat → Nat, RC = fun k => if k = 0 then ca else if k = 1 then cb else cc := ⟨_, rfl⟩
        have hcell : Hid (∀ k, k < 3 → w9.cell? ⟨w8.heap.size, k, none⟩ = some (.slice (RA k) (RL k).length (RC k))) := fun k hk => by
          rw [hRA, hRL, hRC]
          match k, hk with
          | 0, _ => exact hbk.cell 0
          | 1, _ => exact hbk.cell 1
          | 2, _ => exact hbk.cell 2
        have hmarks : Hid (∀ k, k < 3 → Marks w9 (RA k) (RL k)) := fun k hk => by
          rw [hRA, hRL]
          match k, hk with
          | 0, _ => exact hA.below k9
          | 1, _ => exact hB.below k9
          | 2, _ => exact hC.below k9
        have hrow : Hid (∀ k, k < 3 → RowOk x k (RL k)) := fun k hk => by
          rw [hRL]
          match k, hk with
          | 0, _ => exact r0
          | 1, _ => exact r1
          | 2, _ => exact r2
        have hlen : Hid (∀ k, k < 3 → (RL k).length ≤ 1000000) := fun k hk => by
          show _ ≤ _
          rw [hRL]
          match k, hk with
          | 0, _ => exact Nat.le_trans la (by decide)
          | 1, _ => exact Nat.le_trans lb (by decide)
          | 2, _ => exact Nat.le_trans lc (by decide)
        have hgl : w8.heap.size < w9.heap.size := hbk.lt
        clear hRA hRL hRC hbk hA hB hC r0 r1 r2 ha hb hc pa pb pc pab pbc
        go_wp2_with fail
        rw [← HW9.out]
        go_loopw [16] (fun i wr => ∃ k : Nat, k ≤ 3 ∧ i = .int .i64 k ∧ Below w9.heap.size w9 wr) (fun i _ => 3 - (intOf i).toNat)
        case atStart => exact ⟨0, by omega, rfl, Below.refl _ _⟩
        case round =>
          obtain ⟨k, hk, rfl, hbr⟩ := hrel
          by_cases hk3 : k < 3
          · have C := Lib.hid (hcell.out k hk3)
            have MM := Lib.hid (hmarks.out k hk3)
            have RR := Lib.hid (hrow.out k hk3)
            have LL := hlen.out k hk3
            have hz : Hid (k = 0 → ((k : Int) == 0) = true) := fun h => by simp [h]
            have hnz : Hid (k ≠ 0 → ((k : Int) == 0) = false) := fun h => by rw [beq_eq_false_iff_ne]; omega
            generalize RA k = Ak at C MM
            generalize RC k = ck at C
            generalize RL k = Lk at C MM RR LL
            have hki : (k : Int) < 3 := by omega
            go_wp2_with fail
            go_loopw [17] (fun j wr => ∃ q : Nat, q ≤ Lk.length ∧ j = .int .i64 q ∧ Below w9.heap.size w9 wr) (fun j _ => Lk.length - (intOf j).toNat)
            case atStart => exact ⟨0, by omega, rfl, hbr⟩
            case round =>
              clear hbr
              obtain ⟨q, hq, rfl, hbr⟩ := hrel
              have g0 := (hbr.cell (p := ⟨w8.heap.size, k, none⟩) hgl).trans C.out
              by_cases hlt : q < Lk.length
              · obtain ⟨bb, oo, rfl, had, d0', d1', d2'⟩ := MM.out.at_ hlt
                have d0 := (hbr.cell (p := ⟨bb, oo + q * 3, none⟩) had).trans d0'
                have D0 := Lib.hid d0'
                have D1 := Lib.hid d1'
                have D2 := Lib.hid d2'
                clear d0' d1' d2'
                obtain ⟨y, hy, hys, hy0⟩ := RR.out _ (List.getElem_mem hlt)
                have HY := Lib.hid hy
                have HY0 := Lib.hid hy0
                clear hy hy0
                generalize Lk[q] = m at d0 D0 D1 D2 HY HY0 hys
                have hql : (q : Int) < (Lk.length : Int) := by omega
                have hlast := last_any A6 c6 x m.p wr (hM9.below hbr) (by omega)
                rw [HY.out, lastV_some'] at hlast
                have HL := Lib.hid hlast
                clear hlast
                go_wp2_with fail
                refine HL.out.mono ?_
                rintro e w10 ⟨rfl, hb10⟩
                have k10 := below_step hbr hb10 (Nat.le_refl _)
                clear g0 d0
                obtain ⟨w11, hw11e⟩ : ∃ w11 : World, w11 = w10.alloc (.cells #[.int .i64 y.p.toInt, .int .u64 (y.s.toNat : Int), .int .u64 (y.o.toNat : Int)] 38) := ⟨_, rfl⟩
                have k11 : Below w9.heap.size w9 w11 := by rw [hw11e]; exact k10.alloc k10.size _
                have b11 : Blk w11 w10.heap.size 38 #[.int .i64 y.p.toInt, .int .u64 (y.s.toNat : Int), .int .u64 (y.o.toNat : Int)] := by rw [hw11e]; exact Blk.new _ _ _
                have HW11 := Lib.hid hw11e
                clear hw11e
                have g0 := (k11.cell (p := ⟨w8.heap.size, k, none⟩) hgl).trans C.out
                have d0 := (k11.cell (p := ⟨bb, oo + q * 3, none⟩) had).trans D0.out
                have d1 := (k11.cell (p := ⟨bb, oo + q * 3 + 1, none⟩) had).trans D1.out
                have d2 := (k11.cell (p := ⟨bb, oo + q * 3 + 2, none⟩) had).trans D2.out
                have y0 : w11.cell? ⟨w10.heap.size, 0, none⟩ = some (.int .i64 y.p.toInt) := b11.cell 0
                have y1 : w11.cell? ⟨w10.heap.size, 1, none⟩ = some (.int .u64 (y.s.toNat : Int)) := b11.cell 1
                have y2 : w11.cell? ⟨w10.heap.size, 2, none⟩ = some (.int .u64 (y.o.toNat : Int)) := b11.cell 2
                go_wp2_with fail
                rw [← HW11.out]
                have hne := mark_neq
                have hgd := mark_guard
                have hd1 : decide (y.s.toNat < m.s.toNat) = false := by rw [decide_eq_false_iff_not]; omega
                have hd2 : decide ((y.s.toNat : Int) < (m.s.toNat : Int)) = false := by rw [decide_eq_false_iff_not]; omega
                by_cases hs : y.s.toNat = m.s.toNat
                · have he1 : (y.s.toNat == m.s.toNat) = true := by simp [hs]
                  have he2 : ((y.s.toNat : Int) == (m.s.toNat : Int)) = true := by simp [hs]
                  by_cases hk0 : k = 0
                  · have hym := HY0.out hk0 (UInt64.toNat_inj.1 hs)
                    have hkz := hz.out hk0
                    clear hk0 hs
                    subst hym
                    refine PF.pf_begin (by kernel_rfl) ?_
                    refine PF.pf_take0 0 (by kernel_rfl) rfl (fun _ _ _ _ _ h => h) (by kernel_rfl) (fun u => by go_simp; try rfl) ?_
                    try simp only [Act.put, List.setIfInBounds_toArray, List.set_cons_zero, List.set_cons_succ]
                    refine PF.pf_take0 1 (by kernel_rfl) rfl (fun _ _ _ _ _ h => h) (by kernel_rfl) (fun u => by go_simp; try rfl) ?_
                    try simp only [Act.put, List.setIfInBounds_toArray, List.set_cons_zero, List.set_cons_succ]
                    refine PF.pf_take0 2 (by kernel_rfl) rfl (fun _ _ _ _ _ h => h) (by kernel_rfl) (fun u => by go_simp; try rfl) ?_
                    try simp only [Act.put, List.setIfInBounds_toArray, List.set_cons_zero, List.set_cons_succ]
                    refine PF.pf_take0 3 (by kernel_rfl) rfl (fun _ _ _ _ _ h => h) (by kernel_rfl) (fun u => by go_simp; try rfl) ?_
                    try simp only [Act.put, List.setIfInBounds_toArray, List.set_cons_zero, List.set_cons_succ]
                    refine PF.pf_take1 4 (PF.Same (w10.heap.size) _) (by kernel_rfl) rfl (fun _ _ _ _ _ h => h) (by kernel_rfl) (PF.Same.refl _ _) (fun u hu => by have hcu := hu.cell; go_simp; try rfl) ?_
                    try simp only [Act.put, List.setIfInBounds_toArray, List.set_cons_zero, List.set_cons_succ]
                    refine PF.pf_take0 5 (by kernel_rfl) rfl (fun _ _ _ _ _ h => h) (by kernel_rfl) (fun u => by go_simp; try rfl) ?_
                    try simp only [Act.put, List.setIfInBounds_toArray, List.set_cons_zero, List.set_cons_succ]
                    refine PF.pf_take0 6 (by kernel_rfl) rfl (fun _ _ _ _ _ h => h) (by kernel_rfl) (fun u => by go_simp; try rfl) ?_
                    try simp only [Act.put, List.setIfInBounds_toArray, List.set_cons_zero, List.set_cons_succ]
                    refine PF.pf_take0 7 (by kernel_rfl) rfl (fun _ _ _ _ _ h => h) (by kernel_rfl) (fun u => by go_simp; try rfl) ?_
                    try simp only [Act.put, List.setIfInBounds_toArray, List.set_cons_zero, List.set_cons_succ]
                    refine PF.pf_take1 8 (PF.Same (w8.heap.size) _) (by kernel_rfl) rfl (fun _ _ _ _ _ h => h) (by kernel_rfl) (PF.Same.refl _ _) (fun u hu => by have hcu := hu.cell; go_simp; try rfl) ?_
                    try simp only [Act.put, List.setIfInBounds_toArray, List.set_cons_zero, List.set_cons_succ]
                    refine PF.pf_take0 9 (by kernel_rfl) rfl (fun _ _ _ _ _ h => h) (by kernel_rfl) (fun u => by go_simp; try rfl) ?_
                    try simp only [Act.put, List.setIfInBounds_toArray, List.set_cons_zero, List.set_cons_succ]
                    refine PF.pf_take0 10 (by kernel_rfl) rfl (fun _ _ _ _ _ h => h) (by kernel_rfl) (fun u => by go_simp; try rfl) ?_
                    try simp only [Act.put, List.setIfInBounds_toArray, List.set_cons_zero, List.set_cons_succ]
                    refine PF.pf_take0 11 (by kernel_rfl) rfl (fun _ _ _ _ _ h => h) (by kernel_rfl) (fun u => by go_simp; try rfl) ?_
                    try simp only [Act.put, List.setIfInBounds_toArray, List.set_cons_zero, List.set_cons_succ]
                    refine PF.pf_take1 12 (PF.Same (bb) _) (by kernel_rfl) rfl (fun _ _ _ _ _ h => h) (by kernel_rfl) (PF.Same.refl _ _) (fun u hu => by have hcu := hu.cell; go_simp; try rfl) ?_
                    try simp only [Act.put, List.setIfInBounds_toArray, List.set_cons_zero, List.set_cons_succ]
                    refine PF.pf_take0 13 (by kernel_rfl) rfl (fun _ _ _ _ _ h => h) (by kernel_rfl) (fun u => by go_simp; try rfl) ?_
                    try simp only [Act.put, List.setIfInBounds_toArray, List.set_cons_zero, List.set_cons_succ]
                    refine PF.pf_take0 14 (by kernel_rfl) rfl (fun _ _ _ _ _ h => h) (by kernel_rfl) (fun u => by go_simp; try rfl) ?_
                    try simp only [Act.put, List.setIfInBounds_toArray, List.set_cons_zero, List.set_cons_succ]
                    refine PF.pf_take0 15 (by kernel_rfl) rfl (fun _ _ _ _ _ h => h) (by kernel_rfl) (fun u => by go_simp; try rfl) ?_
                    try simp only [Act.put, List.setIfInBounds_toArray, List.set_cons_zero, List.set_cons_succ]
                    refine PF.pf_take0 16 (by kernel_rfl) rfl (fun _ _ _ _ _ h => h) (by kernel_rfl) (fun u => by go_simp; try rfl) ?_
                    try simp only [Act.put, List.setIfInBounds_toArray, List.set_cons_zero, List.set_cons_succ]
                    refine PF.pf_take1 17 (PF.Same (w10.heap.size) _) (by kernel_rfl) rfl (fun _ _ _ _ _ h => h) (by kernel_rfl) (PF.Same.refl _ _) (fun u hu => by have hcu := hu.cell; go_simp; try rfl) ?_
                    try simp only [Act.put, List.setIfInBounds_toArray, List.set_cons_zero, List.set_cons_succ]
                    refine PF.pf_take0 18 (by kernel_rfl) rfl (fun _ _ _ _ _ h => h) (by kernel_rfl) (fun u => by go_simp; try rfl) ?_
                    try simp only [Act.put, List.setIfInBounds_toArray, List.set_cons_zero, List.set_cons_succ]
                    refine PF.pf_take0 19 (by kernel_rfl) rfl (fun _ _ _ _ _ h => h) (by kernel_rfl) (fun u => by go_simp; try rfl) ?_
                    try simp only [Act.put, List.setIfInBounds_toArray, List.set_cons_zero, List.set_cons_succ]
                    refine PF.pf_take0 20 (by kernel_rfl) rfl (fun _ _ _ _ _ h => h) (by kernel_rfl) (fun u => by go_simp; try rfl) ?_
                    try simp only [Act.put, List.setIfInBounds_toArray, List.set_cons_zero, List.set_cons_succ]
                    refine PF.pf_take1 21 (PF.Same (w8.heap.size) _) (by kernel_rfl) rfl (fun _ _ _ _ _ h => h) (by kernel_rfl) (PF.Same.refl _ _) (fun u hu => by have hcu := hu.cell; go_simp; try rfl) ?_
                    try simp only [Act.put, List.setIfInBounds_toArray, List.set_cons_zero, List.set_cons_succ]
                    refine PF.pf_take0 22 (by kernel_rfl) rfl (fun _ _ _ _ _ h => h) (by kernel_rfl) (fun u => by go_simp; try rfl) ?_
                    try simp only [Act.put, List.setIfInBounds_toArray, List.set_cons_zero, List.set_cons_succ]
                    refine PF.pf_take0 23 (by kernel_rfl) rfl (fun _ _ _ _ _ h => h) (by kernel_rfl) (fun u => by go_simp; try rfl) ?_
                    try simp only [Act.put, List.setIfInBounds_toArray, List.set_cons_zero, List.set_cons_succ]
                    refine PF.pf_take0 24 (by kernel_rfl) rfl (fun _ _ _ _ _ h => h) (by kernel_rfl) (fun u => by go_simp; try rfl) ?_
                    try simp only [Act.put, List.setIfInBounds_toArray, List.set_cons_zero, List.set_cons_succ]
                    refine PF.pf_take1 25 (PF.Same (bb) _) (by kernel_rfl) rfl (fun _ _ _ _ _ h => h) (by kernel_rfl) (PF.Same.refl _ _) (fun u hu => by have hcu := hu.cell; go_simp; try rfl) ?_
                    try simp only [Act.put, List.setIfInBounds_toArray, List.set_cons_zero, List.set_cons_succ]
                    refine PF.pf_take0 26 (by kernel_rfl) rfl (fun _ _ _ _ _ h => h) (by kernel_rfl) (fun u => by go_simp; try rfl) ?_
                    try simp only [Act.put, List.setIfInBounds_toArray, List.set_cons_zero, List.set_cons_succ]
                    refine PF.pf_take0 27 (by kernel_rfl) rfl (fun _ _ _ _ _ h => h) (by kernel_rfl) (fun u => by go_simp; try rfl) ?_
                    try simp only [Act.put, List.setIfInBounds_toArray, List.set_cons_zero, List.set_cons_succ]
                    refine PF.pf_take0 28 (by kernel_rfl) rfl (fun _ _ _ _ _ h => h) (by kernel_rfl) (fun u => by go_simp; try rfl) ?_
                    try simp only [Act.put, List.setIfInBounds_toArray, List.set_cons_zero, List.set_cons_succ]
                    refine PF.pf_take0 29 (by kernel_rfl) rfl (fun _ _ _ _ _ h => h) (by kernel_rfl) (fun u => by go_simp; try rfl) ?_
                    try simp only [Act.put, List.setIfInBounds_toArray, List.set_cons_zero, List.set_cons_succ]
                    refine PF.pf_take0 30 (by kernel_rfl) rfl (fun _ _ _ _ _ h => h) (by kernel_rfl) (fun u => by go_simp; try rfl) ?_
                    try simp only [Act.put, List.setIfInBounds_toArray, List.set_cons_zero, List.set_cons_succ]
                    refine PF.pf_take0 31 (by kernel_rfl) rfl (fun _ _ _ _ _ h => h) (by kernel_rfl) (fun u => by go_simp; try rfl) ?_
                    try simp only [Act.put, List.setIfInBounds_toArray, List.set_cons_zero, List.set_cons_succ]
                    refine PF.pf_take1 32 (PF.Same (w10.heap.size) _) (by kernel_rfl) rfl (fun _ _ _ _ _ h => h) (by kernel_rfl) (PF.Same.refl _ _) (fun u hu => by have hcu := hu.cell; go_simp; try rfl) ?_
                    try simp only [Act.put, List.setIfInBounds_toArray, List.set_cons_zero, List.set_cons_succ]
                    refine PF.pf_take0 33 (by kernel_rfl) rfl (fun _ _ _ _ _ h => h) (by kernel_rfl) (fun u => by go_simp; try rfl) ?_
                    try simp only [Act.put, List.setIfInBounds_toArray, List.set_cons_zero, List.set_cons_succ]
                    refine PF.pf_take0 34 (by kernel_rfl) rfl (fun _ _ _ _ _ h => h) (by kernel_rfl) (fun u => by go_simp; try rfl) ?_
                    try simp only [Act.put, List.setIfInBounds_toArray, List.set_cons_zero, List.set_cons_succ]
                    refine PF.pf_take0 35 (by kernel_rfl) rfl (fun _ _ _ _ _ h => h) (by kernel_rfl) (fun u => by go_simp; try rfl) ?_
                    try simp only [Act.put, List.setIfInBounds_toArray, List.set_cons_zero, List.set_cons_succ]
                    refine PF.pf_take1 36 (PF.Same (w8.heap.size) _) (by kernel_rfl) rfl (fun _ _ _ _ _ h => h) (by kernel_rfl) (PF.Same.refl _ _) (fun u hu => by have hcu := hu.cell; go_simp; try rfl) ?_
                    try simp only [Act.put, List.setIfInBounds_toArray, List.set_cons_zero, List.set_cons_succ]
                    refine PF.pf_take0 37 (by kernel_rfl) rfl (fun _ _ _ _ _ h => h) (by kernel_rfl) (fun u => by go_simp; try rfl) ?_
                    try simp only [Act.put, List.setIfInBounds_toArray, List.set_cons_zero, List.set_cons_succ]
                    refine PF.pf_take0 38 (by kernel_rfl) rfl (fun _ _ _ _ _ h => h) (by kernel_rfl) (fun u => by go_simp; try rfl) ?_
                    try simp only [Act.put, List.setIfInBounds_toArray, List.set_cons_zero, List.set_cons_succ]
                    refine PF.pf_take1 39 (PF.Same (bb) _) (by kernel_rfl) rfl (fun _ _ _ _ _ h => h) (by kernel_rfl) (PF.Same.refl _ _) (fun u hu => by have hcu := hu.cell; go_simp; try rfl) ?_
                    try simp only [Act.put, List.setIfInBounds_toArray, List.set_cons_zero, List.set_cons_succ]
                    refine PF.pf_take0 40 (by kernel_rfl) rfl (fun _ _ _ _ _ h => h) (by kernel_rfl) (fun u => by go_simp; try rfl) ?_
                    try simp only [Act.put, List.setIfInBounds_toArray, List.set_cons_zero, List.set_cons_succ]
                    refine PF.pf_take0 41 (by kernel_rfl) rfl (fun _ _ _ _ _ h => h) (by kernel_rfl) (fun u => by go_simp; try rfl) ?_
                    try simp only [Act.put, List.setIfInBounds_toArray, List.set_cons_zero, List.set_cons_succ]
                    refine PF.pf_take0 42 (by kernel_rfl) rfl (fun _ _ _ _ _ h => h) (by kernel_rfl) (fun u => by go_simp; try rfl) ?_
                    try simp only [Act.put, List.setIfInBounds_toArray, List.set_cons_zero, List.set_cons_succ]
                    refine PF.pf_done (by kernel_rfl) ?_
                    go_wp2_with fail
                    go_roundw
                    case rel => exact ⟨q + 1, by omega, by go_num, k11.drew⟩
                    case measure => simp [intOf]; omega
                  · have hkz := hnz.out hk0
                    clear hk0 hs
                    refine PF.pf_begin (by kernel_rfl) ?_
                    refine PF.pf_take0 0 (by kernel_rfl) rfl (fun _ _ _ _ _ h => h) (by kernel_rfl) (fun u => by go_simp; try rfl) ?_
                    try simp only [Act.put, List.setIfInBounds_toArray, List.set_cons_zero, List.set_cons_succ]
                    refine PF.pf_take0 1 (by kernel_rfl) rfl (fun _ _ _ _ _ h => h) (by kernel_rfl) (fun u => by go_simp; try rfl) ?_
                    try simp only [Act.put, List.setIfInBounds_toArray, List.set_cons_zero, List.set_cons_succ]
                    refine PF.pf_take0 2 (by kernel_rfl) rfl (fun _ _ _ _ _ h => h) (by kernel_rfl) (fun u => by go_simp; try rfl) ?_
                    try simp only [Act.put, List.setIfInBounds_toArray, List.set_cons_zero, List.set_cons_succ]
                    refine PF.pf_take0 3 (by kernel_rfl) rfl (fun _ _ _ _ _ h => h) (by kernel_rfl) (fun u => by go_simp; try rfl) ?_
                    try simp only [Act.put, List.setIfInBounds_toArray, List.set_cons_zero, List.set_cons_succ]
                    refine PF.pf_take1 4 (PF.Same (w10.heap.size) _) (by kernel_rfl) rfl (fun _ _ _ _ _ h => h) (by kernel_rfl) (PF.Same.refl _ _) (fun u hu => by have hcu := hu.cell; go_simp; try rfl) ?_
                    try simp only [Act.put, List.setIfInBounds_toArray, List.set_cons_zero, List.set_cons_succ]
                    refine PF.pf_take0 5 (by kernel_rfl) rfl (fun _ _ _ _ _ h => h) (by kernel_rfl) (fun u => by go_simp; try rfl) ?_
                    try simp only [Act.put, List.setIfInBounds_toArray, List.set_cons_zero, List.set_cons_succ]
                    refine PF.pf_take0 6 (by kernel_rfl) rfl (fun _ _ _ _ _ h => h) (by kernel_rfl) (fun u => by go_simp; try rfl) ?_
                    try simp only [Act.put, List.setIfInBounds_toArray, List.set_cons_zero, List.set_cons_succ]
                    refine PF.pf_take0 7 (by kernel_rfl) rfl (fun _ _ _ _ _ h => h) (by kernel_rfl) (fun u => by go_simp; try rfl) ?_
                    try simp only [Act.put, List.setIfInBounds_toArray, List.set_cons_zero, List.set_cons_succ]
                    refine PF.pf_take1 8 (PF.Same (w8.heap.size) _) (by kernel_rfl) rfl (fun _ _ _ _ _ h => h) (by kernel_rfl) (PF.Same.refl _ _) (fun u hu => by have hcu := hu.cell; go_simp; try rfl) ?_
                    try simp only [Act.put, List.setIfInBounds_toArray, List.set_cons_zero, List.set_cons_succ]
                    refine PF.pf_take0 9 (by kernel_rfl) rfl (fun _ _ _ _ _ h => h) (by kernel_rfl) (fun u => by go_simp; try rfl) ?_
                    try simp only [Act.put, List.setIfInBounds_toArray, List.set_cons_zero, List.set_cons_succ]
                    refine PF.pf_take0 10 (by kernel_rfl) rfl (fun _ _ _ _ _ h => h) (by kernel_rfl) (fun u => by go_simp; try rfl) ?_
                    try simp only [Act.put, List.setIfInBounds_toArray, List.set_cons_zero, List.set_cons_succ]
                    refine PF.pf_take0 11 (by kernel_rfl) rfl (fun _ _ _ _ _ h => h) (by kernel_rfl) (fun u => by go_simp; try rfl) ?_
                    try simp only [Act.put, List.setIfInBounds_toArray, List.set_cons_zero, List.set_cons_succ]
                    refine PF.pf_take1 12 (PF.Same (bb) _) (by kernel_rfl) rfl (fun _ _ _ _ _ h => h) (by kernel_rfl) (PF.Same.refl _ _) (fun u hu => by have hcu := hu.cell; go_simp; try rfl) ?_
                    try simp only [Act.put, List.setIfInBounds_toArray, List.set_cons_zero, List.set_cons_succ]
                    refine PF.pf_take0 13 (by kernel_rfl) rfl (fun _ _ _ _ _ h => h) (by kernel_rfl) (fun u => by go_simp; try rfl) ?_
                    try simp only [Act.put, List.setIfInBounds_toArray, List.set_cons_zero, List.set_cons_succ]
                    refine PF.pf_take0 14 (by kernel_rfl) rfl (fun _ _ _ _ _ h => h) (by kernel_rfl) (fun u => by go_simp; try rfl) ?_
                    try simp only [Act.put, List.setIfInBounds_toArray, List.set_cons_zero, List.set_cons_succ]
                    refine PF.pf_take0 15 (by kernel_rfl) rfl (fun _ _ _ _ _ h => h) (by kernel_rfl) (fun u => by go_simp; try rfl) ?_
                    try simp only [Act.put, List.setIfInBounds_toArray, List.set_cons_zero, List.set_cons_succ]
                    refine PF.pf_take0 16 (by kernel_rfl) rfl (fun _ _ _ _ _ h => h) (by kernel_rfl) (fun u => by go_simp; try rfl) ?_
                    try simp only [Act.put, List.setIfInBounds_toArray, List.set_cons_zero, List.set_cons_succ]
                    refine PF.pf_take1 17 (PF.Same (w10.heap.size) _) (by kernel_rfl) rfl (fun _ _ _ _ _ h => h) (by kernel_rfl) (PF.Same.refl _ _) (fun u hu => by have hcu := hu.cell; go_simp; try rfl) ?_
                    try simp only [Act.put, List.setIfInBounds_toArray, List.set_cons_zero, List.set_cons_succ]
                    refine PF.pf_take0 18 (by kernel_rfl) rfl (fun _ _ _ _ _ h => h) (by kernel_rfl) (fun u => by go_simp; try rfl) ?_
                    try simp only [Act.put, List.setIfInBounds_toArray, List.set_cons_zero, List.set_cons_succ]
                    refine PF.pf_take0 19 (by kernel_rfl) rfl (fun _ _ _ _ _ h => h) (by kernel_rfl) (fun u => by go_simp; try rfl) ?_
                    try simp only [Act.put, List.setIfInBounds_toArray, List.set_cons_zero, List.set_cons_succ]
                    refine PF.pf_take0 20 (by kernel_rfl) rfl (fun _ _ _ _ _ h => h) (by kernel_rfl) (fun u => by go_simp; try rfl) ?_
                    try simp only [Act.put, List.setIfInBounds_toArray, List.set_cons_zero, List.set_cons_succ]
                    refine PF.pf_take1 21 (PF.Same (w8.heap.size) _) (by kernel_rfl) rfl (fun _ _ _ _ _ h => h) (by kernel_rfl) (PF.Same.refl _ _) (fun u hu => by have hcu := hu.cell; go_simp; try rfl) ?_
                    try simp only [Act.put, List.setIfInBounds_toArray, List.set_cons_zero, List.set_cons_succ]
                    refine PF.pf_take0 22 (by kernel_rfl) rfl (fun _ _ _ _ _ h => h) (by kernel_rfl) (fun u => by go_simp; try rfl) ?_
                    try simp only [Act.put, List.setIfInBounds_toArray, List.set_cons_zero, List.set_cons_succ]
                    refine PF.pf_take0 23 (by kernel_rfl) rfl (fun _ _ _ _ _ h => h) (by kernel_rfl) (fun u => by go_simp; try rfl) ?_
                    try simp only [Act.put, List.setIfInBounds_toArray, List.set_cons_zero, List.set_cons_succ]
                    refine PF.pf_take0 24 (by kernel_rfl) rfl (fun _ _ _ _ _ h => h) (by kernel_rfl) (fun u => by go_simp; try rfl) ?_
                    try simp only [Act.put, List.setIfInBounds_toArray, List.set_cons_zero, List.set_cons_succ]
                    refine PF.pf_take1 25 (PF.Same (bb) _) (by kernel_rfl) rfl (fun _ _ _ _ _ h => h) (by kernel_rfl) (PF.Same.refl _ _) (fun u hu => by have hcu := hu.cell; go_simp; try rfl) ?_
                    try simp only [Act.put, List.setIfInBounds_toArray, List.set_cons_zero, List.set_cons_succ]
                    refine PF.pf_take0 26 (by kernel_rfl) rfl (fun _ _ _ _ _ h => h) (by kernel_rfl) (fun u => by go_simp; try rfl) ?_
                    try simp only [Act.put, List.setIfInBounds_toArray, List.set_cons_zero, List.set_cons_succ]
                    refine PF.pf_take0 27 (by kernel_rfl) rfl (fun _ _ _ _ _ h => h) (by kernel_rfl) (fun u => by go_simp; try rfl) ?_
                    try simp only [Act.put, List.setIfInBounds_toArray, List.set_cons_zero, List.set_cons_succ]
                    refine PF.pf_take0 28 (by kernel_rfl) rfl (fun _ _ _ _ _ h => h) (by kernel_rfl) (fun u => by go_simp; try rfl) ?_
                    try simp only [Act.put, List.setIfInBounds_toArray, List.set_cons_zero, List.set_cons_succ]
                    refine PF.pf_take0 29 (by kernel_rfl) rfl (fun _ _ _ _ _ h => h) (by kernel_rfl) (fun u => by go_simp; try rfl) ?_
                    try simp only [Act.put, List.setIfInBounds_toArray, List.set_cons_zero, List.set_cons_succ]
                    refine PF.pf_take0 30 (by kernel_rfl) rfl (fun _ _ _ _ _ h => h) (by kernel_rfl) (fun u => by go_simp; try rfl) ?_
                    try simp only [Act.put, List.setIfInBounds_toArray, List.set_cons_zero, List.set_cons_succ]
                    refine PF.pf_take0 31 (by kernel_rfl) rfl (fun _ _ _ _ _ h => h) (by kernel_rfl) (fun u => by go_simp; try rfl) ?_
                    try simp only [Act.put, List.setIfInBounds_toArray, List.set_cons_zero, List.set_cons_succ]
                    refine PF.pf_skip0 32 (by kernel_rfl) rfl (fun _ _ _ _ _ h => h) (by kernel_rfl) ?_
                    try simp only [Act.put, List.setIfInBounds_toArray, List.set_cons_zero, List.set_cons_succ]
                    refine PF.pf_skip0 33 (by kernel_rfl) rfl (fun _ _ _ _ _ h => h) (by kernel_rfl) ?_
                    try simp only [Act.put, List.setIfInBounds_toArray, List.set_cons_zero, List.set_cons_succ]
                    refine PF.pf_skip0 34 (by kernel_rfl) rfl (fun _ _ _ _ _ h => h) (by kernel_rfl) ?_
                    try simp only [Act.put, List.setIfInBounds_toArray, List.set_cons_zero, List.set_cons_succ]
                    refine PF.pf_skip0 35 (by kernel_rfl) rfl (fun _ _ _ _ _ h => h) (by kernel_rfl) ?_
                    try simp only [Act.put, List.setIfInBounds_toArray, List.set_cons_zero, List.set_cons_succ]
                    refine PF.pf_skip0 36 (by kernel_rfl) rfl (fun _ _ _ _ _ h => h) (by kernel_rfl) ?_
                    try simp only [Act.put, List.setIfInBounds_toArray, List.set_cons_zero, List.set_cons_succ]
                    refine PF.pf_skip0 37 (by kernel_rfl) rfl (fun _ _ _ _ _ h => h) (by kernel_rfl) ?_
                    try simp only [Act.put, List.setIfInBounds_toArray, List.set_cons_zero, List.set_cons_succ]
                    refine PF.pf_skip0 38 (by kernel_rfl) rfl (fun _ _ _ _ _ h => h) (by kernel_rfl) ?_
                    try simp only [Act.put, List.setIfInBounds_toArray, List.set_cons_zero, List.set_cons_succ]
                    refine PF.pf_skip0 39 (by kernel_rfl) rfl (fun _ _ _ _ _ h => h) (by kernel_rfl) ?_
                    try simp only [Act.put, List.setIfInBounds_toArray, List.set_cons_zero, List.set_cons_succ]
                    refine PF.pf_skip0 40 (by kernel_rfl) rfl (fun _ _ _ _ _ h => h) (by kernel_rfl) ?_
                    try simp only [Act.put, List.setIfInBounds_toArray, List.set_cons_zero, List.set_cons_succ]
                    refine PF.pf_take0 41 (by kernel_rfl) rfl (fun _ _ _ _ _ h => h) (by kernel_rfl) (fun u => by go_simp; try rfl) ?_
                    try simp only [Act.put, List.setIfInBounds_toArray, List.set_cons_zero, List.set_cons_succ]
                    refine PF.pf_take0 42 (by kernel_rfl) rfl (fun _ _ _ _ _ h => h) (by kernel_rfl) (fun u => by go_simp; try rfl) ?_
                    try simp only [Act.put, List.setIfInBounds_toArray, List.set_cons_zero, List.set_cons_succ]
                    refine PF.pf_done (by kernel_rfl) ?_
                    go_wp2_with fail
                    go_roundw
                    case rel => exact ⟨q + 1, by omega, by go_num, k11.drew⟩
                    case measure => simp [intOf]; omega
                · have he1 : (y.s.toNat == m.s.toNat) = false := by simpa using hs
                  have he2 : ((y.s.toNat : Int) == (m.s.toNat : Int)) = false := by rw [beq_eq_false_iff_ne]; omega
                  clear hs
                  refine PF.pf_begin (by kernel_rfl) ?_
                  refine PF.pf_take0 0 (by kernel_rfl) rfl (fun _ _ _ _ _ h => h) (by kernel_rfl) (fun u => by go_simp; try rfl) ?_
                  try simp only [Act.put, List.setIfInBounds_toArray, List.set_cons_zero, List.set_cons_succ]
                  refine PF.pf_take0 1 (by kernel_rfl) rfl (fun _ _ _ _ _ h => h) (by kernel_rfl) (fun u => by go_simp; try rfl) ?_
                  try simp only [Act.put, List.setIfInBounds_toArray, List.set_cons_zero, List.set_cons_succ]
                  refine PF.pf_take0 2 (by kernel_rfl) rfl (fun _ _ _ _ _ h => h) (by kernel_rfl) (fun u => by go_simp; try rfl) ?_
                  try simp only [Act.put, List.setIfInBounds_toArray, List.set_cons_zero, List.set_cons_succ]
                  refine PF.pf_take0 3 (by kernel_rfl) rfl (fun _ _ _ _ _ h => h) (by kernel_rfl) (fun u => by go_simp; try rfl) ?_
                  try simp only [Act.put, List.setIfInBounds_toArray, List.set_cons_zero, List.set_cons_succ]
                  refine PF.pf_take1 4 (PF.Same (w10.heap.size) _) (by kernel_rfl) rfl (fun _ _ _ _ _ h => h) (by kernel_rfl) (PF.Same.refl _ _) (fun u hu => by have hcu := hu.cell; go_simp; try rfl) ?_
                  try simp only [Act.put, List.setIfInBounds_toArray, List.set_cons_zero, List.set_cons_succ]
                  refine PF.pf_take0 5 (by kernel_rfl) rfl (fun _ _ _ _ _ h => h) (by kernel_rfl) (fun u => by go_simp; try rfl) ?_
                  try simp only [Act.put, List.setIfInBounds_toArray, List.set_cons_zero, List.set_cons_succ]
                  refine PF.pf_take0 6 (by kernel_rfl) rfl (fun _ _ _ _ _ h => h) (by kernel_rfl) (fun u => by go_simp; try rfl) ?_
                  try simp only [Act.put, List.setIfInBounds_toArray, List.set_cons_zero, List.set_cons_succ]
                  refine PF.pf_take0 7 (by kernel_rfl) rfl (fun _ _ _ _ _ h => h) (by kernel_rfl) (fun u => by go_simp; try rfl) ?_
                  try simp only [Act.put, List.setIfInBounds_toArray, List.set_cons_zero, List.set_cons_succ]
                  refine PF.pf_take1 8 (PF.Same (w8.heap.size) _) (by kernel_rfl) rfl (fun _ _ _ _ _ h => h) (by kernel_rfl) (PF.Same.refl _ _) (fun u hu => by have hcu := hu.cell; go_simp; try rfl) ?_
                  try simp only [Act.put, List.setIfInBounds_toArray, List.set_cons_zero, List.set_cons_succ]
                  refine PF.pf_take0 9 (by kernel_rfl) rfl (fun _ _ _ _ _ h => h) (by kernel_rfl) (fun u => by go_simp; try rfl) ?_
                  try simp only [Act.put, List.setIfInBounds_toArray, List.set_cons_zero, List.set_cons_succ]
                  refine PF.pf_take0 10 (by kernel_rfl) rfl (fun _ _ _ _ _ h => h) (by kernel_rfl) (fun u => by go_simp; try rfl) ?_
                  try simp only [Act.put, List.setIfInBounds_toArray, List.set_cons_zero, List.set_cons_succ]
                  refine PF.pf_take0 11 (by kernel_rfl) rfl (fun _ _ _ _ _ h => h) (by kernel_rfl) (fun u => by go_simp; try rfl) ?_
                  try simp only [Act.put, List.setIfInBounds_toArray, List.set_cons_zero, List.set_cons_succ]
                  refine PF.pf_take1 12 (PF.Same (bb) _) (by kernel_rfl) rfl (fun _ _ _ _ _ h => h) (by kernel_rfl) (PF.Same.refl _ _) (fun u hu => by have hcu := hu.cell; go_simp; try rfl) ?_
                  try simp only [Act.put, List.setIfInBounds_toArray, List.set_cons_zero, List.set_cons_succ]
                  refine PF.pf_take0 13 (by kernel_rfl) rfl (fun _ _ _ _ _ h => h) (by kernel_rfl) (fun u => by go_simp; try rfl) ?_
                  try simp only [Act.put, List.setIfInBounds_toArray, List.set_cons_zero, List.set_cons_succ]
                  refine PF.pf_take0 14 (by kernel_rfl) rfl (fun _ _ _ _ _ h => h) (by kernel_rfl) (fun u => by go_simp; try rfl) ?_
                  try simp only [Act.put, List.setIfInBounds_toArray, List.set_cons_zero, List.set_cons_succ]
                  refine PF.pf_take0 15 (by kernel_rfl) rfl (fun _ _ _ _ _ h => h) (by kernel_rfl) (fun u => by go_simp; try rfl) ?_
                  try simp only [Act.put, List.setIfInBounds_toArray, List.set_cons_zero, List.set_cons_succ]
                  refine PF.pf_take0 16 (by kernel_rfl) rfl (fun _ _ _ _ _ h => h) (by kernel_rfl) (fun u => by go_simp; try rfl) ?_
                  try simp only [Act.put, List.setIfInBounds_toArray, List.set_cons_zero, List.set_cons_succ]
                  refine PF.pf_take1 17 (PF.Same (w10.heap.size) _) (by kernel_rfl) rfl (fun _ _ _ _ _ h => h) (by kernel_rfl) (PF.Same.refl _ _) (fun u hu => by have hcu := hu.cell; go_simp; try rfl) ?_
                  try simp only [Act.put, List.setIfInBounds_toArray, List.set_cons_zero, List.set_cons_succ]
                  refine PF.pf_take0 18 (by kernel_rfl) rfl (fun _ _ _ _ _ h => h) (by kernel_rfl) (fun u => by go_simp; try rfl) ?_
                  try simp only [Act.put, List.setIfInBounds_toArray, List.set_cons_zero, List.set_cons_succ]
                  refine PF.pf_take0 19 (by kernel_rfl) rfl (fun _ _ _ _ _ h => h) (by kernel_rfl) (fun u => by go_simp; try rfl) ?_
                  try simp only [Act.put, List.setIfInBounds_toArray, List.set_cons_zero, List.set_cons_succ]
                  refine PF.pf_take0 20 (by kernel_rfl) rfl (fun _ _ _ _ _ h => h) (by kernel_rfl) (fun u => by go_simp; try rfl) ?_
                  try simp only [Act.put, List.setIfInBounds_toArray, List.set_cons_zero, List.set_cons_succ]
                  refine PF.pf_take1 21 (PF.Same (w8.heap.size) _) (by kernel_rfl) rfl (fun _ _ _ _ _ h => h) (by kernel_rfl) (PF.Same.refl _ _) (fun u hu => by have hcu := hu.cell; go_simp; try rfl) ?_
                  try simp only [Act.put, List.setIfInBounds_toArray, List.set_cons_zero, List.set_cons_succ]
                  refine PF.pf_take0 22 (by kernel_rfl) rfl (fun _ _ _ _ _ h => h) (by kernel_rfl) (fun u => by go_simp; try rfl) ?_
                  try simp only [Act.put, List.setIfInBounds_toArray, List.set_cons_zero, List.set_cons_succ]
                  refine PF.pf_take0 23 (by kernel_rfl) rfl (fun _ _ _ _ _ h => h) (by kernel_rfl) (fun u => by go_simp; try rfl) ?_
                  try simp only [Act.put, List.setIfInBounds_toArray, List.set_cons_zero, List.set_cons_succ]
                  refine PF.pf_take0 24 (by kernel_rfl) rfl (fun _ _ _ _ _ h => h) (by kernel_rfl) (fun u => by go_simp; try rfl) ?_
                  try simp only [Act.put, List.setIfInBounds_toArray, List.set_cons_zero, List.set_cons_succ]
                  refine PF.pf_take1 25 (PF.Same (bb) _) (by kernel_rfl) rfl (fun _ _ _ _ _ h => h) (by kernel_rfl) (PF.Same.refl _ _) (fun u hu => by have hcu := hu.cell; go_simp; try rfl) ?_
                  try simp only [Act.put, List.setIfInBounds_toArray, List.set_cons_zero, List.set_cons_succ]
                  refine PF.pf_take0 26 (by kernel_rfl) rfl (fun _ _ _ _ _ h => h) (by kernel_rfl) (fun u => by go_simp; try rfl) ?_
                  try simp only [Act.put, List.setIfInBounds_toArray, List.set_cons_zero, List.set_cons_succ]
                  refine PF.pf_take0 27 (by kernel_rfl) rfl (fun _ _ _ _ _ h => h) (by kernel_rfl) (fun u => by go_simp; try rfl) ?_
                  try simp only [Act.put, List.setIfInBounds_toArray, List.set_cons_zero, List.set_cons_succ]
                  refine PF.pf_skip0 28 (by kernel_rfl) rfl (fun _ _ _ _ _ h => h) (by kernel_rfl) ?_
                  try simp only [Act.put, List.setIfInBounds_toArray, List.set_cons_zero, List.set_cons_succ]
                  refine PF.pf_skip0 29 (by kernel_rfl) rfl (fun _ _ _ _ _ h => h) (by kernel_rfl) ?_
                  try simp only [Act.put, List.setIfInBounds_toArray, List.set_cons_zero, List.set_cons_succ]
                  refine PF.pf_take0 30 (by kernel_rfl) rfl (fun _ _ _ _ _ h => h) (by kernel_rfl) (fun u => by go_simp; try rfl) ?_
                  try simp only [Act.put, List.setIfInBounds_toArray, List.set_cons_zero, List.set_cons_succ]
                  refine PF.pf_take0 31 (by kernel_rfl) rfl (fun _ _ _ _ _ h => h) (by kernel_rfl) (fun u => by go_simp; try rfl) ?_
                  try simp only [Act.put, List.setIfInBounds_toArray, List.set_cons_zero, List.set_cons_succ]
                  refine PF.pf_skip0 32 (by kernel_rfl) rfl (fun _ _ _ _ _ h => h) (by kernel_rfl) ?_
                  try simp only [Act.put, List.setIfInBounds_toArray, List.set_cons_zero, List.set_cons_succ]
                  refine PF.pf_skip0 33 (by kernel_rfl) rfl (fun _ _ _ _ _ h => h) (by kernel_rfl) ?_
                  try simp only [Act.put, List.setIfInBounds_toArray, List.set_cons_zero, List.set_cons_succ]
                  refine PF.pf_skip0 34 (by kernel_rfl) rfl (fun _ _ _ _ _ h => h) (by kernel_rfl) ?_
                  try simp only [Act.put, List.setIfInBounds_toArray, List.set_cons_zero, List.set_cons_succ]
                  refine PF.pf_skip0 35 (by kernel_rfl) rfl (fun _ _ _ _ _ h => h) (by kernel_rfl) ?_
                  try simp only [Act.put, List.setIfInBounds_toArray, List.set_cons_zero, List.set_cons_succ]
                  refine PF.pf_skip0 36 (by kernel_rfl) rfl (fun _ _ _ _ _ h => h) (by kernel_rfl) ?_
                  try simp only [Act.put, List.setIfInBounds_toArray, List.set_cons_zero, List.set_cons_succ]
                  refine PF.pf_skip0 37 (by kernel_rfl) rfl (fun _ _ _ _ _ h => h) (by kernel_rfl) ?_
                  try simp only [Act.put, List.setIfInBounds_toArray, List.set_cons_zero, List.set_cons_succ]
                  refine PF.pf_skip0 38 (by kernel_rfl) rfl (fun _ _ _ _ _ h => h) (by kernel_rfl) ?_
                  try simp only [Act.put, List.setIfInBounds_toArray, List.set_cons_zero, List.set_cons_succ]
                  refine PF.pf_skip0 39 (by kernel_rfl) rfl (fun _ _ _ _ _ h => h) (by kernel_rfl) ?_
                  try simp only [Act.put, List.setIfInBounds_toArray, List.set_cons_zero, List.set_cons_succ]
                  refine PF.pf_skip0 40 (by kernel_rfl) rfl (fun _ _ _ _ _ h => h) (by kernel_rfl) ?_
                  try simp only [Act.put, List.setIfInBounds_toArray, List.set_cons_zero, List.set_cons_succ]
                  refine PF.pf_take0 41 (by kernel_rfl) rfl (fun _ _ _ _ _ h => h) (by kernel_rfl) (fun u => by go_simp; try rfl) ?_
                  try simp only [Act.put, List.setIfInBounds_toArray, List.set_cons_zero, List.set_cons_succ]
                  refine PF.pf_take0 42 (by kernel_rfl) rfl (fun _ _ _ _ _ h => h) (by kernel_rfl) (fun u => by go_simp; try rfl) ?_
                  try simp only [Act.put, List.setIfInBounds_toArray, List.set_cons_zero, List.set_cons_succ]
                  refine PF.pf_done (by kernel_rfl) ?_
                  go_wp2_with fail
                  go_roundw
                  case rel => exact ⟨q + 1, by omega, by go_num, k11.drew⟩
                  case measure => simp [intOf]; omega
              · go_wp2_with fail
                go_roundw
                case rel => exact ⟨k + 1, by omega, by go_num, hbr⟩
                case measure => simp [intOf]; omega
          · go_wp2_with fail
            refine (awake_any _).mono ?_
            rintro e w10 ⟨rfl, hb10⟩
            go_wp2_with fail
            go_ret
            exact ⟨rfl, k9.trans ((below_step hbr hb10 (Nat.le_refl _)).mono k9.size)⟩

set_option maxRecDepth 100000 in
set_option maxHeartbeats 2000000 in
/-- Where one of the three may not be. -/
theorem joinsLaw_no (A : Option Addr) (ca : Nat) (a : List Mk) (B : Option Addr) (cb : Nat) (b : List Mk) (C : Option Addr) (cc : Nat) (c : List Mk) (w : World) (hA : Marks w A a) (hB : Marks w B b) (hC : Marks w C c)
    (hn1 : a.length ≤ 5864062014634) (hn2 : b.length ≤ 5864062014634) (hn3 : c.length ≤ 5864062014634) (hno : (mayB a && (mayB b && mayB c)) = false) :
    Calls Try.prog 7 #[.slice A a.length ca, .slice B b.length cb, .slice C c.length cc] w fun e w' => e = .returned (.bool true) ∧ Below w.heap.size w w' := by
  have HA := Lib.hid (seenmay_any A ca a w hA hn1)
  cases pa : mayB a with
  | false =>
    rw [pa] at HA
    clear pa hno hA hB hC
    go_enter Try.func7, Try.ntmps7
    go_wp2_with fail
    refine HA.out.mono ?_
    rintro e w1 ⟨rfl, hb1⟩
    go_wp2_with fail
    refine (awake_any _).mono ?_
    rintro e w2 ⟨rfl, hb2⟩
    go_wp2_with fail
    go_ret
    exact ⟨rfl, below_call hb1 hb1.size hb2⟩
  | true =>
    rw [pa] at HA
    cases pb : mayB b with
    | false =>
      have HPB := Lib.hid pb
      clear pa hno pb hA hC
      go_enter Try.func7, Try.ntmps7
      go_wp2_with fail
      refine HA.out.mono ?_
      rintro e w1 ⟨rfl, hb1⟩
      go_wp2_with fail
      refine (seenmay_any B cb b w1 (hB.below hb1) hn2).mono ?_
      rintro e w2 ⟨rfl, hb2⟩
      rw [HPB.out]
      have k2 := below_call hb1 hb1.size hb2
      go_wp2_with fail
      refine (awake_any _).mono ?_
      rintro e w3 ⟨rfl, hb3⟩
      go_wp2_with fail
      go_ret
      exact ⟨rfl, below_call k2 k2.size hb3⟩
    | true =>
      have pc : mayB c = false := by rw [pa, pb] at hno; simpa using hno
      have HPB := Lib.hid pb
      have HPC := Lib.hid pc
      clear pa hno pb pc hA
      go_enter Try.func7, Try.ntmps7
      go_wp2_with fail
      refine HA.out.mono ?_
      rintro e w1 ⟨rfl, hb1⟩
      go_wp2_with fail
      refine (seenmay_any B cb b w1 (hB.below hb1) hn2).mono ?_
      rintro e w2 ⟨rfl, hb2⟩
      rw [HPB.out]
      have k2 := below_call hb1 hb1.size hb2
      go_wp2_with fail
      refine (seenmay_any C cc c w2 (hC.below k2) hn3).mono ?_
      rintro e w3 ⟨rfl, hb3⟩
      rw [HPC.out]
      have k3 := below_call k2 k2.size hb3
      go_wp2_with fail
      refine (awake_any _).mono ?_
      rintro e w4 ⟨rfl, hb4⟩
      go_wp2_with fail
      go_ret
      exact ⟨rfl, below_call k3 k3.size hb4⟩

namespace SeenJoins
theorem walk {w : World} (A : Option Addr) (a : List Mk) (ca : Nat) (hA : Marks w A a) (_ : a.length ≤ ca) (_ : ca ≤ 9223372036854775807) (s1 : a.length ≤ 5864062014634) (B : Option Addr) (b : List Mk) (cb : Nat) (hB : Marks w B b) (_ : b.length ≤ cb) (_ : cb ≤ 9223372036854775807) (s2 : b.length ≤ 5864062014634)
    (C : Option Addr) (c : List Mk) (cc : Nat) (hC : Marks w C c) (_ : c.length ≤ cc) (_ : cc ≤ 9223372036854775807) (s3 : c.length ≤ 5864062014634) :
    Calls Try.prog 7 #[.slice A a.length ca, .slice B b.length cb, .slice C c.length cc] w fun e w' => e = .returned (.bool true) ∧ Below w.heap.size w w' := by
  cases h : mayB a && (mayB b && mayB c) with
  | false => exact joinsLaw_no A ca a B cb b C cc c w hA hB hC s1 s2 s3 h
  | true =>
    rw [Bool.and_eq_true, Bool.and_eq_true] at h
    exact joinsLaw_any A ca a B cb b C cc c w hA hB hC s1 s2 s3 h.1 h.2.1 h.2.2
end SeenJoins
end Go.Proofs.Ytgdbknbpnlpdnaa
