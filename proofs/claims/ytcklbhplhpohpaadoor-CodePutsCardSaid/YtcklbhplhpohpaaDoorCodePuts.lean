/- CodePuts, walked. -/
import Derived.Test.YtcklbhplhpohpaaDoorTrio
import Derived.Test.YtcklbhplhpohpaaDoorCodeU
namespace Go.Proofs.YtcklbhplhpohpaaDoor
open Go.RowKit

/-- The part with bytes of its own. -/
def Pt.own (p : Pt) (A : Option Addr) (c : Nat) : Pt := { p with A := A, c := c }
theorem Pt.own_put (p : Pt) (A : Option Addr) (c : Nat) : (p.own A c).put = p.put := rfl
set_option maxRecDepth 100000 in
set_option maxHeartbeats 8000000 in
theorem puts_any (A : Option Addr) (c : Nat) (l : List Pt) (hl : l.length ≤ 9223372036854775807) (w : World) (hA : Pts w A l) :
    Calls Tryd.prog 3 #[.slice A l.length c] w fun e w' => e = .returned (.bool true) ∧ Below w.heap.size w w' := by
  have HA := Lib.hid hA
  have HG1 := Lib.hid (great_any A c l hl w hA)
  have HW := fun w => Lib.hid (awake_any w)
  clear hA
  go_enter Tryd.func3, Tryd.ntmps3
  go_wp2_with fail
  refine HG1.out.mono ?_
  rintro e w1 ⟨g, rfl, hb1, rfl⟩
  cases g with
  | true =>
    go_wp2_with fail
    refine (HW _).out.mono ?_
    rintro e w1 ⟨rfl, hb⟩
    have HB := Lib.hid hb
    clear hb
    go_wp2_with fail
    go_ret
    exact ⟨rfl, HB.out⟩
  | false =>
  have HL := Lib.hid (hb1 rfl)
  have HF := Lib.hid (Fit.of_bulk HL.out)
  have hl2 := (bulk_le HL.out).1
  clear hb1 HG1
  go_wp2_with fail
  refine (newwriter_any w).mono ?_
  rintro e w1 ⟨rfl, hw1, ew1⟩
  have hs1 : w1.heap.size = w.heap.size + 1 := by rw [ew1]; simp
  have HB1 : Hid (Below w.heap.size w w1) := by rw [ew1]; exact below_new _ _
  have hw2 : Wr (w1.alloc (.cells #[.slice none 0 0, .int .i64 0, .int .i8 0] 33)) w1.heap.size none [] := Buf.new _ _ _
  obtain ⟨B, hBe⟩ : ∃ B, B = w.heap.size := ⟨_, rfl⟩
  obtain ⟨b2, hb2e⟩ : ∃ b, b = w1.heap.size := ⟨_, rfl⟩
  have HT0 : Hid (Trio (fun _ => False) B B b2 (w1.alloc (.cells #[.slice none 0 0, .int .i64 0, .int .i8 0] 33)) [] [] [] none none (.slice none 0 0)) := by
    rw [hBe, hb2e]
    exact { h1 := hw1.below (below_new _ _), h2 := hw2, hv := World.ownsRow_nil _ _ _ _, b12 := by omega, r1 := by simp, r2 := by simp, r12 := by simp, v1 := by simp [Value.ownBlock], v2 := by simp [Value.ownBlock], v3 := by simp [Value.ownBlock],
            f1 := id, f2 := id, fr1 := by simp, fr2 := by simp, fv := by simp [Value.ownBlock], B1 := Nat.le_refl _, B2 := by omega, Br1 := by simp, Br2 := by simp }
  have HBe := Lib.hid hBe
  have HB2 : Hid (Below B w (w1.alloc (.cells #[.slice none 0 0, .int .i64 0, .int .i8 0] 33))) := by rw [hBe]; exact HB1.out.alloc (by omega) _
  have hs2 : B ≤ w1.heap.size := by omega
  rw [← hBe]
  clear ew1 hw1 hw2 HB1 hBe hs1
  go_wp2_with fail
  rw [← hb2e]
  clear hb2e
  go_loopw [6, 7] (fun v i wr => ∃ k : Nat, k ≤ l.length ∧ i = .int .i64 k ∧ (∃ row1 row2, Trio (fun _ => False) B B b2 wr (putAll (l.take k)) (putAll (l.take k)) (putAll (l.take k)) row1 row2 v) ∧ Below B w wr ∧ B ≤ wr.heap.size) (fun _ i _ => l.length - (intOf i).toNat)
  case atStart => exact ⟨0, Nat.zero_le _, rfl, ⟨_, _, HT0.out⟩, HB2.out, by simp; omega⟩
  case round =>
    clear HT0 HB2 hs2
    obtain ⟨k, hk, rfl, ⟨row1, row2, hT⟩, hB, hBs⟩ := hrel
    obtain ⟨wo, rfl⟩ : ∃ wo : World, wo = wr := ⟨_, rfl⟩
    have HT := Lib.hid hT
    have HB := Lib.hid hB
    have hfl := HF.out.len k
    obtain ⟨AV, cv, rfl, _, _⟩ := own_slice hT.hv
    clear hT hB
    have hP0 : ∀ W, Below B w W → Pts W A l := fun W h => HA.out.below (by have := HBe.out; rw [this] at h; exact h)
    have HP0 := Lib.hid hP0
    clear hP0
    by_cases hlt : k < l.length
    · have hPw := HP0.out wo HB.out
      obtain ⟨b, o, hAe, hbl, c0, c1, c2, c3⟩ := hPw.at_ hlt
      have hone := HF.out.one hlt
      have hpo := Lib.hid (HA.out.drop_val hlt)
      have hpr := hPw.drop_val hlt
      have HSN := Lib.hid (putAll_snoc hlt)
      have HCELL : Hid (∀ W, Below B w W → W.cell? ⟨b, o + k * 4, none⟩ = some (.int .i64 l[k].s.toInt) ∧ W.cell? ⟨b, o + k * 4 + 1, none⟩ = some (.int .i64 l[k].m.toInt) ∧ W.cell? ⟨b, o + k * 4 + 2, none⟩ = some (.int .u64 (l[k].x.toNat : Int)) ∧ W.cell? ⟨b, o + k * 4 + 3, none⟩ = some (.slice l[k].A l[k].b.length l[k].c)) := fun W h => by
        obtain ⟨b', o', e', _, d0, d1, d2, d3⟩ := (HP0.out W h).at_ hlt
        rw [hAe] at e'
        injection e' with e'
        injection e' with e1 e2
        subst e1 e2
        exact ⟨d0, d1, d2, d3⟩
      have HOKW : Hid (∀ W, Below B w W → l[k].ok W) := fun W h => (HP0.out W h).drop_val hlt
      subst hAe
      clear hPw
      generalize l[k] = p at c0 c1 c2 c3 hone hpo hpr HSN HCELL HOKW
      generalize putAll (l.take k) = L at HT hfl HSN
      -- bytes of its own
      have hown0 : (wo.alloc (.cells #[] 5)).ownsRow wo.heap.size 5 1 (.slice (some ⟨wo.heap.size, 0, none⟩) 0 0) 0 [] := World.ownsRow_made _ _ _ (Nat.le_refl _) (by simp [maxLen]) rfl
      have hr0 : Reads (wo.alloc (.cells #[] 5)) 1 p.A p.b.length (p.b.map bv) := Reads.alloc hpr.1 _
      go_wp2_with (at_builtin; refine app_list bytes_ty rfl (s := .tmp 24) (x := .tmp 29) rfl hown0 rfl hr0 rfl (bv_one p.b) (by omega) (by simp) ?_; intro v3 w3 hown3 hg3 hv3; refine Hid.out ?_)
      simp only [Nat.zero_add, List.nil_append] at hown3
      have hbw3 : Below wo.heap.size wo w3 := (below_new wo _).grown hg3 (by simp) (own_ge hown0)
      have HB3 := Lib.hid (below_call HB.out hBs hbw3)
      have hs3 : wo.heap.size < w3.heap.size := by have := hg3.size; simp at this; omega
      obtain ⟨A3, c3', rfl, hc3, hc3'⟩ := own_slice hown3
      have HO3 := Lib.hid hown3
      have hA3 := row_at_head hown3
      have HT3 : Hid (Trio (fun g => A3.map (·.block) = some g) B B b2 w3 L L L row1 row2 (.slice AV L.length cv)) := (HT.out.turn (fun g hg h => by
        cases A3 with
        | none => cases h
        | some ad =>
          have h : ad.block = g := by simpa using h
          have := (hA3 ad rfl).2.2.1
          omega)).below hbw3
      have hpown : (p.own A3 c3').ok w3 := ⟨own_bytes hown3, hc3, by show c3' ≤ 9223372036854775807; simpa [maxLen] using hc3'⟩
      have HPOWN := Lib.hid hpown
      have hAlt : ∀ ad, A3 = some ad → ad.block < w3.heap.size := fun ad e => (hA3 ad e).2.2.2
      have HALT := Lib.hid hAlt
      have HA3B : Hid (∀ ad, A3 = some ad → B ≤ ad.block) := fun ad e => by have := (hA3 ad e).2.2.1; omega
      obtain ⟨d0, d1, d2, d3⟩ := HCELL.out w3 HB3.out
      have hput := put_any B row1 L (p.own A3 c3') w3.drew (HT3.out.h1.below (below_drewN (Below.refl _ _) 1)) (HPOWN.out.below (below_drewN (Below.refl _ _) 1)) (fun _ ad e => ⟨fun h => HT3.out.f1 (by show A3.map (·.block) = some B; rw [show A3 = some ad from e, ← h]; rfl), fun h => HT3.out.fr1 ad.block h.symm (by show A3.map (·.block) = some ad.block; rw [show A3 = some ad from e]; rfl)⟩) (by show L.length + p.b.length + 10 ≤ _; omega)
      rw [Pt.own_put] at hput
      have HPUT := Lib.hid hput
      clear hown0 hr0 hown3 hg3 hv3 hbw3 hA3 hpown hAlt hput hpr c0 c1 c2 c3
      refine Lib.hid ?_
      go_wp2_with fail
      refine PF.pf_begin (by kernel_rfl) ?_
      refine PF.pf_take0 0 (by kernel_rfl) rfl (fun _ _ _ _ _ h => h) (by kernel_rfl) (fun u => by go_simp; try rfl) ?_
      try simp only [Act.put, List.setIfInBounds_toArray, List.set_cons_zero, List.set_cons_succ]
      refine PF.pf_take0 1 (by kernel_rfl) rfl (fun _ _ _ _ _ h => h) (by kernel_rfl) (fun u => by go_simp; try rfl) ?_
      try simp only [Act.put, List.setIfInBounds_toArray, List.set_cons_zero, List.set_cons_succ]
      refine PF.pf_take0 2 (by kernel_rfl) rfl (fun _ _ _ _ _ h => h) (by kernel_rfl) (fun u => by go_simp; try rfl) ?_
      try simp only [Act.put, List.setIfInBounds_toArray, List.set_cons_zero, List.set_cons_succ]
      refine PF.pf_take0 3 (by kernel_rfl) rfl (fun _ _ _ _ _ h => h) (by kernel_rfl) (fun u => by go_simp; try rfl) ?_
      try simp only [Act.put, List.setIfInBounds_toArray, List.set_cons_zero, List.set_cons_succ]
      refine PF.pf_take0 4 (by kernel_rfl) rfl (fun _ _ _ _ _ h => h) (by kernel_rfl) (fun u => by go_simp; try rfl) ?_
      try simp only [Act.put, List.setIfInBounds_toArray, List.set_cons_zero, List.set_cons_succ]
      refine PF.pf_take1 5 (PF.Same (b) _) (by kernel_rfl) rfl (fun _ _ _ _ _ h => h) (by kernel_rfl) (PF.Same.refl _ _) (fun u hu => by have hcu := hu.cell; go_simp; try rfl) ?_
      try simp only [Act.put, List.setIfInBounds_toArray, List.set_cons_zero, List.set_cons_succ]
      refine PF.pf_take0 6 (by kernel_rfl) rfl (fun _ _ _ _ _ h => h) (by kernel_rfl) (fun u => by go_simp; try rfl) ?_
      try simp only [Act.put, List.setIfInBounds_toArray, List.set_cons_zero, List.set_cons_succ]
      refine PF.pf_take0 7 (by kernel_rfl) rfl (fun _ _ _ _ _ h => h) (by kernel_rfl) (fun u => by go_simp; try rfl) ?_
      try simp only [Act.put, List.setIfInBounds_toArray, List.set_cons_zero, List.set_cons_succ]
      refine PF.pf_take0 8 (by kernel_rfl) rfl (fun _ _ _ _ _ h => h) (by kernel_rfl) (fun u => by go_simp; try rfl) ?_
      try simp only [Act.put, List.setIfInBounds_toArray, List.set_cons_zero, List.set_cons_succ]
      refine PF.pf_take0 9 (by kernel_rfl) rfl (fun _ _ _ _ _ h => h) (by kernel_rfl) (fun u => by go_simp; try rfl) ?_
      try simp only [Act.put, List.setIfInBounds_toArray, List.set_cons_zero, List.set_cons_succ]
      refine PF.pf_take1 10 (PF.Same (b) _) (by kernel_rfl) rfl (fun _ _ _ _ _ h => h) (by kernel_rfl) (PF.Same.refl _ _) (fun u hu => by have hcu := hu.cell; go_simp; try rfl) ?_
      try simp only [Act.put, List.setIfInBounds_toArray, List.set_cons_zero, List.set_cons_succ]
      refine PF.pf_take0 11 (by kernel_rfl) rfl (fun _ _ _ _ _ h => h) (by kernel_rfl) (fun u => by go_simp; try rfl) ?_
      try simp only [Act.put, List.setIfInBounds_toArray, List.set_cons_zero, List.set_cons_succ]
      refine PF.pf_take0 12 (by kernel_rfl) rfl (fun _ _ _ _ _ h => h) (by kernel_rfl) (fun u => by go_simp; try rfl) ?_
      try simp only [Act.put, List.setIfInBounds_toArray, List.set_cons_zero, List.set_cons_succ]
      refine PF.pf_take0 13 (by kernel_rfl) rfl (fun _ _ _ _ _ h => h) (by kernel_rfl) (fun u => by go_simp; try rfl) ?_
      try simp only [Act.put, List.setIfInBounds_toArray, List.set_cons_zero, List.set_cons_succ]
      refine PF.pf_take0 14 (by kernel_rfl) rfl (fun _ _ _ _ _ h => h) (by kernel_rfl) (fun u => by go_simp; try rfl) ?_
      try simp only [Act.put, List.setIfInBounds_toArray, List.set_cons_zero, List.set_cons_succ]
      refine PF.pf_take1 15 (PF.Same (b) _) (by kernel_rfl) rfl (fun _ _ _ _ _ h => h) (by kernel_rfl) (PF.Same.refl _ _) (fun u hu => by have hcu := hu.cell; go_simp; try rfl) ?_
      try simp only [Act.put, List.setIfInBounds_toArray, List.set_cons_zero, List.set_cons_succ]
      refine PF.pf_take0 16 (by kernel_rfl) rfl (fun _ _ _ _ _ h => h) (by kernel_rfl) (fun u => by go_simp; try rfl) ?_
      try simp only [Act.put, List.setIfInBounds_toArray, List.set_cons_zero, List.set_cons_succ]
      refine PF.pf_take0 17 (by kernel_rfl) rfl (fun _ _ _ _ _ h => h) (by kernel_rfl) (fun u => by go_simp; try rfl) ?_
      try simp only [Act.put, List.setIfInBounds_toArray, List.set_cons_zero, List.set_cons_succ]
      refine PF.pf_exec 18 (by kernel_rfl) rfl (by kernel_rfl) (fun K hK => ?_)
      go_simp
      refine HPUT.out.mono ?_
      rintro e w4 ⟨rfl, hw4⟩
      refine hK _ _ (by repeat (first | exact PF.owes_nil | refine PF.owes_left ?_ | refine PF.owes_no (by decide +kernel) ?_ | refine PF.owes_yes (by first | rfl | assumption | go_simp) ?_)) ?_
      clear hK K
      try simp only [Act.put, List.setIfInBounds_toArray, List.set_cons_zero, List.set_cons_succ]
      refine PF.pf_done (by kernel_rfl) ?_
      have HB4 := Lib.hid (HT3.out.keeps1 (hw4.ahead (below_drewN (Below.refl _ _) 1) HT3.out.h1.row_lt) HB3.out (by omega))
      have HT4 := Lib.hid ((HT3.out.below (below_drewN (Below.refl _ _) 1)).one hw4 (fun g hg h => by
        cases A3 with
        | none => cases h
        | some ad =>
          have h : ad.block = g := by simpa using h
          have := HALT.out ad rfl
          have : w3.heap.size ≤ g := hg
          omega) (by show B ≤ w3.heap.size; omega))
      have HO4 : Hid (w4.ownsRow wo.heap.size 5 1 (.slice A3 p.b.length c3') p.b.length (p.b.map bv)) := by
        obtain ⟨_, _, _, m4⟩ := hw4
        refine own_mod (w := w3.drew) HO3.out m4 fun g hg h => ?_
        have hg' : A3.map (·.block) = some g := by
          cases A3 with
          | none => simp [Value.ownBlock] at hg
          | some ad => simpa [Value.ownBlock] using hg
        rcases h with h | h
        · exact HT3.out.f1 (h ▸ hg')
        · exact HT3.out.fr1 g h.symm hg'
      have hs4 : w3.heap.size ≤ w4.heap.size := by obtain ⟨_, _, _, m4⟩ := hw4; exact m4.size
      clear hw4 HPUT d0 d1 d2 d3
      have hb63 : p.b.length ≤ 160000 := hone
      go_wp2_with fail
      go_loopw [9] (fun i wq => ∃ j : Nat, j ≤ p.b.length ∧ i = .int .i64 j ∧ (∃ q : List UInt8, wq.ownsRow wo.heap.size 5 1 (.slice A3 p.b.length c3') p.b.length (q.map bv)) ∧ Mod (fun g => A3.map (·.block) = some g) w4 wq) (fun i _ => p.b.length - (intOf i).toNat)
      case atStart => exact ⟨0, Nat.zero_le _, rfl, ⟨_, HO4.out⟩, Mod.refl _ _⟩
      case round =>
        clear HO4
        obtain ⟨j, hj, rfl, ⟨q, hq⟩, hm⟩ := hrel
        by_cases hlj : j < p.b.length
        · obtain ⟨g, c9, e9, hg9, hc9, hc9'⟩ := own_ptr hq (by omega)
          injection e9 with e9 _ e8
          subst e9 e8
          have q0 := own_at hq hlj
          have qf : wr.frozen? ⟨g, j, none⟩ = false := hq.frozenAt j
          have hs := own_set hq j (q.getD j 0 + 1)
          have hinc := w_inc (q.getD j 0)
          have HM := Lib.hid hm
          generalize q.getD j 0 = d at q0 hs hinc
          rw [← hinc] at hs
          have HS := Lib.hid hs
          clear hq hs hm hinc
          have hd := d.toNat_lt
          go_wp2_with fail
          go_roundw
          case rel => exact ⟨j + 1, by omega, by go_num, ⟨_, HS.out⟩, HM.out.set (p := ⟨g, j, none⟩) (fun _ => rfl) _⟩
          case measure => simp [intOf]; omega
        · have HM := Lib.hid hm
          have hjn : j = p.b.length := by omega
          clear hq hm
          subst hjn
          obtain ⟨row1', hT4⟩ := HT4.out
          have HF5 : Hid (∀ g, A3.map (·.block) = some g → B ≤ g) := fun g hg => by
            cases A3 with
            | none => cases hg
            | some ad =>
              have h : ad.block = g := by simpa using hg
              have := HA3B.out ad rfl
              omega
          have HT5 : Hid (Trio (fun _ => False) B B b2 wr (L ++ p.put) L L row1' row2 (.slice AV L.length cv)) := (hT4.mod HM.out fun k _ h => h).turn fun _ _ h => h
          have HB5 : Hid (Below B w wr) := Below.mod HB4.out HM.out (by omega) fun k hk => HF5.out k hk
          have hs5 : B ≤ wr.heap.size := by have := HM.out.size; omega
          obtain ⟨d0, d1, d2, d3⟩ := HCELL.out wr HB5.out
          have hput2 := put_any b2 row2 L p wr HT5.out.h2 (HOKW.out wr HB5.out) (fun h0 ad e => by
            obtain ⟨g, o, e2, hg, _⟩ := Bytes.flat hpo.out.1 h0
            rw [e] at e2
            injection e2 with e2
            subst e2
            have h1 := HT5.out.B2
            have h2 := HBe.out
            refine ⟨by simp only; omega, fun h => ?_⟩
            have := HT5.out.Br2 _ h.symm
            simp only at this
            omega) (by omega)
          unfold Pt.val at hput2
          have HPUT2 := Lib.hid hput2
          clear hput2 hT4 HM
          go_wp2_with fail
          refine HPUT2.out.mono ?_
          rintro e w6 ⟨rfl, hw6⟩
          obtain ⟨row2', hT6⟩ := HT5.out.swap.one hw6 (fun _ _ h => h) hs5
          have HB6 := Lib.hid (HT5.out.swap.keeps1 hw6 HB5.out hs5)
          have HT6 := Lib.hid hT6.swap
          have hs6 : B ≤ w6.heap.size := by obtain ⟨_, _, _, m⟩ := hw6; exact Nat.le_trans hs5 m.size
          clear hw6 hT6 HPUT2 d0 d1 d2 d3 HT5 HB5
          obtain ⟨d0, d1, d2, d3⟩ := HCELL.out w6 HB6.out
          have hnil := putnil_any p w6 (HOKW.out w6 HB6.out) (by omega)
          unfold Pt.val at hnil
          have HNIL := Lib.hid hnil
          clear hnil
          go_wp2_with fail
          refine HNIL.out.mono ?_
          rintro e w7 ⟨rfl, hb7⟩
          have HT7 := Lib.hid (HT6.out.below hb7)
          have HB7 := Lib.hid (below_call HB6.out hs6 hb7)
          have hs7 : B ≤ w7.heap.size := Nat.le_trans hs6 hb7.size
          clear hb7 HNIL d0 d1 d2 d3 HT6 HB6
          obtain ⟨d0, d1, d2, d3⟩ := HCELL.out w7 HB7.out
          have hbys := pbytes_any p w7 (HOKW.out w7 HB7.out) (by omega)
          unfold Pt.val at hbys
          have HBYS := Lib.hid hbys
          have hpl := p.len_put (by omega)
          clear hbys
          go_wp2_with fail
          refine HBYS.out.mono ?_
          rintro e w8 ⟨A8, c8, rfl, hB8, hb8⟩
          have HT8 := Lib.hid (HT7.out.below hb8)
          have HB8 := Lib.hid (below_call HB7.out hs7 hb8)
          have hs8 : B ≤ w8.heap.size := Nat.le_trans hs7 hb8.size
          clear hb8 HBYS d0 d1 d2 d3 HT7 HB7
          go_wp2_with (at_builtin; refine app_list bytes_ty rfl (s := .tmp 74) (x := .tmp 79) rfl HT8.out.hv rfl hB8 rfl (bv_one p.put) (by omega) hs8 ?_; intro v9 w9 hown9 hg9 hv9; refine Hid.out ?_)
          have hown9' : w9.ownsRow B 5 1 v9 (L ++ p.put).length ((L ++ p.put).map bv) := by
            rw [List.length_append, List.map_append]
            exact hown9
          have HT9 := Lib.hid (HT8.out.want hown9' hg9 hv9 (fun _ _ h => h))
          have HB9 := Lib.hid (own_below HB8.out hg9 hs8 (own_ge HT8.out.hv))
          have hs9 : B ≤ w9.heap.size := Nat.le_trans hs8 hg9.size
          obtain ⟨A9, c9, rfl, _, _⟩ := own_slice hown9
          have HLEN := Lib.hid (wlen_any B row1' (L ++ p.put) w9 HT9.out.h1)
          clear hown9 hown9' hg9 hv9 hB8 HT8 HB8
          refine Lib.hid ?_
          go_wp2_with fail
          refine HLEN.out.mono ?_
          rintro e w10 ⟨rfl, q10, hq10⟩
          have hb10 : Below w9.heap.size w9 w10 := by rw [hq10]; exact below_drewN (Below.refl _ _) q10
          have HT10 := Lib.hid (HT9.out.below hb10)
          have HB10 := Lib.hid (below_call HB9.out hs9 hb10)
          have hs10 : B ≤ w10.heap.size := Nat.le_trans hs9 hb10.size
          clear hq10 hb10 HLEN
          go_wp2_with fail
          go_roundw
          case rel =>
            refine ⟨k + 1, by omega, by go_num, ⟨row1', row2', ?_⟩, HB10.out, hs10⟩
            rw [HSN.out]
            exact HT10.out
          case measure => simp [intOf]; omega
    · obtain rfl : k = l.length := by omega
      rw [List.take_length] at HT hfl ⊢
      generalize hPe : putAll l = P at HT hfl ⊢
      have HW1 := Lib.hid (wbytes_any B row1 P wo HT.out.h1 (by omega))
      clear hPe HF
      go_wp2_with fail
      refine HW1.out.mono ?_
      rintro e w1' ⟨⟨A1, c1, rfl, ho1⟩, hb1⟩
      have HO1 := Lib.hid ho1
      have HB1 := Lib.hid (below_call HB.out hBs hb1)
      have hs1 : B ≤ w1'.heap.size := Nat.le_trans hBs hb1.size
      have hA1 := row_at_head ho1
      have HT1 : Hid (Trio (fun g => A1.map (·.block) = some g) B B b2 w1' P P P row1 row2 (.slice AV P.length cv)) := (HT.out.turn (fun g hg h => by
        cases A1 with
        | none => cases h
        | some ad =>
          have h : ad.block = g := by simpa using h
          have := (hA1 ad rfl).2.2.1
          omega)).below hb1
      have HA1B : Hid (∀ g, A1.map (·.block) = some g → B ≤ g) := fun g hg => by
        cases A1 with
        | none => cases hg
        | some ad =>
          have h : ad.block = g := by simpa using hg
          have := (hA1 ad rfl).2.2.1
          omega
      clear ho1 hb1 hA1 HW1 HT HB
      go_wp2_with fail
      go_loopw [11] (fun i wq => ∃ j : Nat, j ≤ P.length ∧ i = .int .i64 j ∧ (∃ q : List UInt8, wq.ownsRow wo.heap.size 5 1 (.slice A1 P.length c1) P.length (q.map bv) ∧ ∀ m, j ≤ m → q.getD m 0 = P.getD m 0) ∧ Mod (fun g => A1.map (·.block) = some g) w1' wq) (fun i _ => P.length - (intOf i).toNat)
      case atStart => exact ⟨0, Nat.zero_le _, rfl, ⟨P, HO1.out, fun _ _ => rfl⟩, Mod.refl _ _⟩
      case round =>
        clear HO1
        obtain ⟨j, hj, rfl, ⟨q, hq, heq⟩, hm⟩ := hrel
        have HT2 := Lib.hid (HT1.out.mod hm fun k _ h => h)
        by_cases hlj : j < P.length
        · obtain ⟨g, c9, e9, hg9, hc9, hc9'⟩ := own_ptr hq (by omega)
          injection e9 with e9 _ e8
          subst e9 e8
          obtain ⟨gv, c7, e7, hg7, hc7, hc7'⟩ := own_ptr HT2.out.hv (by omega)
          injection e7 with e7 _ e6
          subst e7 e6
          have q0 := own_at hq hlj
          have p0 := own_at HT2.out.hv hlj
          rw [heq j (Nat.le_refl _)] at q0
          have qf : wr.frozen? ⟨g, j, none⟩ = false := hq.frozenAt j
          have hs := own_set hq j (P.getD j 0 + 1)
          have hinc := w_inc (P.getD j 0)
          have HM := Lib.hid hm
          have HEQ : Hid (∀ d m, j + 1 ≤ m → (q.set j d).getD m 0 = P.getD m 0) := fun d m hm => by
            rw [List.getD_eq_getElem?_getD, List.getElem?_set_ne (by omega), ← List.getD_eq_getElem?_getD]
            exact heq m (by omega)
          generalize P.getD j 0 = d at q0 p0 hs hinc
          rw [← hinc] at hs
          have HS := Lib.hid hs
          clear hq hs hm hinc heq
          have hd := d.toNat_lt
          have hd1 : (j : Int) < P.length := by omega
          go_wp2_with fail
          refine PF.pf_begin (by kernel_rfl) ?_
          refine PF.pf_take0 0 (by kernel_rfl) rfl (fun _ _ _ _ _ h => h) (by kernel_rfl) (fun u => by go_simp; try rfl) ?_
          try simp only [Act.put, List.setIfInBounds_toArray, List.set_cons_zero, List.set_cons_succ]
          refine PF.pf_take0 1 (by kernel_rfl) rfl (fun _ _ _ _ _ h => h) (by kernel_rfl) (fun u => by go_simp; try rfl) ?_
          try simp only [Act.put, List.setIfInBounds_toArray, List.set_cons_zero, List.set_cons_succ]
          refine PF.pf_take0 2 (by kernel_rfl) rfl (fun _ _ _ _ _ h => h) (by kernel_rfl) (fun u => by go_simp; try rfl) ?_
          try simp only [Act.put, List.setIfInBounds_toArray, List.set_cons_zero, List.set_cons_succ]
          refine PF.pf_take1 3 (PF.Same (g) _) (by kernel_rfl) rfl (fun _ _ _ _ _ h => h) (by kernel_rfl) (PF.Same.refl _ _) (fun u hu => by have hcu := hu.cell; go_simp; try rfl) ?_
          try simp only [Act.put, List.setIfInBounds_toArray, List.set_cons_zero, List.set_cons_succ]
          refine PF.pf_take0 4 (by kernel_rfl) rfl (fun _ _ _ _ _ h => h) (by kernel_rfl) (fun u => by go_simp; try rfl) ?_
          try simp only [Act.put, List.setIfInBounds_toArray, List.set_cons_zero, List.set_cons_succ]
          refine PF.pf_take0 5 (by kernel_rfl) rfl (fun _ _ _ _ _ h => h) (by kernel_rfl) (fun u => by go_simp; try rfl) ?_
          try simp only [Act.put, List.setIfInBounds_toArray, List.set_cons_zero, List.set_cons_succ]
          refine PF.pf_take0 6 (by kernel_rfl) rfl (fun _ _ _ _ _ h => h) (by kernel_rfl) (fun u => by go_simp; try rfl) ?_
          try simp only [Act.put, List.setIfInBounds_toArray, List.set_cons_zero, List.set_cons_succ]
          refine PF.pf_take1 7 (PF.Same (gv) _) (by kernel_rfl) rfl (fun _ _ _ _ _ h => h) (by kernel_rfl) (PF.Same.refl _ _) (fun u hu => by have hcu := hu.cell; go_simp; try rfl) ?_
          try simp only [Act.put, List.setIfInBounds_toArray, List.set_cons_zero, List.set_cons_succ]
          refine PF.pf_take0 8 (by kernel_rfl) rfl (fun _ _ _ _ _ h => h) (by kernel_rfl) (fun u => by go_simp; try rfl) ?_
          try simp only [Act.put, List.setIfInBounds_toArray, List.set_cons_zero, List.set_cons_succ]
          refine PF.pf_done (by kernel_rfl) ?_
          go_wp2_with fail
          go_roundw
          case rel => exact ⟨j + 1, by omega, by go_num, ⟨_, HS.out.drew, fun m hm => HEQ.out _ m hm⟩, (HM.out.set (p := ⟨g, j, none⟩) (fun _ => rfl) _).drew⟩
          case measure => simp [intOf]; omega
        · have HM := Lib.hid hm
          have hjn : j = P.length := by omega
          clear hq hm
          subst hjn
          have HT3 : Hid (Trio (fun _ => False) B B b2 wr.drew P P P row1 row2 (.slice AV P.length cv)) := ((HT2.out.turn (F' := fun _ => False) fun _ _ h => h).below (below_drewN (Below.refl _ _) 1))
          have HB3 : Hid (Below B w wr.drew) := (Below.mod HB1.out HM.out hs1 fun k hk => HA1B.out k hk).drew
          have hs3 : B ≤ wr.drew.heap.size := by
            have h1 : w1'.heap.size ≤ wr.heap.size := HM.out.size
            show B ≤ wr.heap.size
            omega
          have HV3 : Hid (Bytes wr.drew AV P) := own_bytes HT3.out.hv
          have HW3 := Lib.hid (wbytes_any B row1 P wr.drew HT3.out.h1 (by omega))
          clear HM HT2 HT1
          go_wp2_with fail
          refine PF.pf_begin (by kernel_rfl) ?_
          refine PF.pf_take0 0 (by kernel_rfl) rfl (fun _ _ _ _ _ h => h) (by kernel_rfl) (fun u => by go_simp; try rfl) ?_
          try simp only [Act.put, List.setIfInBounds_toArray, List.set_cons_zero, List.set_cons_succ]
          refine PF.pf_take0 1 (by kernel_rfl) rfl (fun _ _ _ _ _ h => h) (by kernel_rfl) (fun u => by go_simp; try rfl) ?_
          try simp only [Act.put, List.setIfInBounds_toArray, List.set_cons_zero, List.set_cons_succ]
          refine PF.pf_take0 2 (by kernel_rfl) rfl (fun _ _ _ _ _ h => h) (by kernel_rfl) (fun u => by go_simp; try rfl) ?_
          try simp only [Act.put, List.setIfInBounds_toArray, List.set_cons_zero, List.set_cons_succ]
          refine PF.pf_take0 3 (by kernel_rfl) rfl (fun _ _ _ _ _ h => h) (by kernel_rfl) (fun u => by go_simp; try rfl) ?_
          try simp only [Act.put, List.setIfInBounds_toArray, List.set_cons_zero, List.set_cons_succ]
          refine PF.pf_take0 4 (by kernel_rfl) rfl (fun _ _ _ _ _ h => h) (by kernel_rfl) (fun u => by go_simp; try rfl) ?_
          try simp only [Act.put, List.setIfInBounds_toArray, List.set_cons_zero, List.set_cons_succ]
          refine PF.pf_take0 5 (by kernel_rfl) rfl (fun _ _ _ _ _ h => h) (by kernel_rfl) (fun u => by go_simp; try rfl) ?_
          try simp only [Act.put, List.setIfInBounds_toArray, List.set_cons_zero, List.set_cons_succ]
          refine PF.pf_take0 6 (by kernel_rfl) rfl (fun _ _ _ _ _ h => h) (by kernel_rfl) (fun u => by go_simp; try rfl) ?_
          try simp only [Act.put, List.setIfInBounds_toArray, List.set_cons_zero, List.set_cons_succ]
          refine PF.pf_take0 9 (by kernel_rfl) rfl (fun _ _ _ _ _ h => h) (by kernel_rfl) (fun u => by go_simp; try rfl) ?_
          try simp only [Act.put, List.setIfInBounds_toArray, List.set_cons_zero, List.set_cons_succ]
          refine PF.pf_take1 10 (fun u => Bytes u AV P) (by kernel_rfl) rfl (fun _ _ _ _ _ h => h) (by kernel_rfl) (HV3.out) (fun u hu => by (have hcv := conv_str (P := Tryd.prog) (w := u) (n := P.length) (c := cv) Tryd.underlying27 Tryd.underlying5 Tryd.underlying9 hu rfl; go_simp; rfl)) ?_
          try simp only [Act.put, List.setIfInBounds_toArray, List.set_cons_zero, List.set_cons_succ]
          refine PF.pf_exec 7 (by kernel_rfl) rfl (by kernel_rfl) (fun K hK => ?_)
          go_simp
          refine HW3.out.mono ?_
          rintro e w20 ⟨⟨A20, c20, rfl, ho20⟩, hb20⟩
          have HT20 := Lib.hid (HT3.out.below hb20)
          have HB20 := Lib.hid (below_call HB3.out hs3 hb20)
          have hs20 : B ≤ w20.heap.size := Nat.le_trans hs3 hb20.size
          have HV20 : Hid (Bytes w20 AV P) := own_bytes HT20.out.hv
          have hcv20 := conv_str (P := Tryd.prog) (w := w20) (n := P.length) (c := c20) Tryd.underlying27 Tryd.underlying5 Tryd.underlying9 (own_bytes ho20) rfl
          have HW20 := Lib.hid (wbytes_any b2 row2 P w20 HT20.out.h2 (by omega))
          refine hK _ _ (by repeat (first | exact PF.owes_nil | refine PF.owes_left ?_ | refine PF.owes_no (by decide +kernel) ?_ | refine PF.owes_yes (by exact HV20.out) ?_)) ?_
          clear hK K
          try simp only [Act.put, List.setIfInBounds_toArray, List.set_cons_zero, List.set_cons_succ]
          refine PF.pf_take1 8 (fun u => (convert 27 9 (.slice A20 P.length c20)).run Tryd.prog u = .ok (.string ⟨P.toArray⟩) u) (by kernel_rfl) rfl (fun _ _ _ _ _ h => h) (by kernel_rfl) (hcv20) (fun u hu => by (go_simp; rfl)) ?_
          try simp only [Act.put, List.setIfInBounds_toArray, List.set_cons_zero, List.set_cons_succ]
          refine PF.pf_take0 11 (by kernel_rfl) rfl (fun _ _ _ _ _ h => h) (by kernel_rfl) (fun u => by go_simp; try rfl) ?_
          try simp only [Act.put, List.setIfInBounds_toArray, List.set_cons_zero, List.set_cons_succ]
          refine PF.pf_take0 12 (by kernel_rfl) rfl (fun _ _ _ _ _ h => h) (by kernel_rfl) (fun u => by go_simp; try rfl) ?_
          try simp only [Act.put, List.setIfInBounds_toArray, List.set_cons_zero, List.set_cons_succ]
          refine PF.pf_take0 13 (by kernel_rfl) rfl (fun _ _ _ _ _ h => h) (by kernel_rfl) (fun u => by go_simp; try rfl) ?_
          try simp only [Act.put, List.setIfInBounds_toArray, List.set_cons_zero, List.set_cons_succ]
          refine PF.pf_take0 14 (by kernel_rfl) rfl (fun _ _ _ _ _ h => h) (by kernel_rfl) (fun u => by go_simp; try rfl) ?_
          try simp only [Act.put, List.setIfInBounds_toArray, List.set_cons_zero, List.set_cons_succ]
          refine PF.pf_take0 17 (by kernel_rfl) rfl (fun _ _ _ _ _ h => h) (by kernel_rfl) (fun u => by go_simp; try rfl) ?_
          try simp only [Act.put, List.setIfInBounds_toArray, List.set_cons_zero, List.set_cons_succ]
          refine PF.pf_take1 18 (fun u => Bytes u AV P) (by kernel_rfl) rfl (fun _ _ _ _ _ h => h) (by kernel_rfl) (HV20.out) (fun u hu => by (have hcv := conv_str (P := Tryd.prog) (w := u) (n := P.length) (c := cv) Tryd.underlying27 Tryd.underlying5 Tryd.underlying9 hu rfl; go_simp; rfl)) ?_
          try simp only [Act.put, List.setIfInBounds_toArray, List.set_cons_zero, List.set_cons_succ]
          refine PF.pf_exec 15 (by kernel_rfl) rfl (by kernel_rfl) (fun K hK => ?_)
          go_simp
          refine HW20.out.mono ?_
          rintro e w21 ⟨⟨A21, c21, rfl, ho21⟩, hb21⟩
          have HB21 := Lib.hid (below_call HB20.out hs20 hb21)
          have HV21 := Lib.hid (HV20.out.below hb21)
          have hcv21 := conv_str (P := Tryd.prog) (w := w21) (n := P.length) (c := c21) Tryd.underlying27 Tryd.underlying5 Tryd.underlying9 (own_bytes ho21) rfl
          refine hK _ _ (by repeat (first | exact PF.owes_nil | refine PF.owes_left ?_ | refine PF.owes_no (by decide +kernel) ?_ | refine PF.owes_yes (by exact HV21.out) ?_)) ?_
          clear hK K
          try simp only [Act.put, List.setIfInBounds_toArray, List.set_cons_zero, List.set_cons_succ]
          refine PF.pf_take1 16 (fun u => (convert 27 9 (.slice A21 P.length c21)).run Tryd.prog u = .ok (.string ⟨P.toArray⟩) u) (by kernel_rfl) rfl (fun _ _ _ _ _ h => h) (by kernel_rfl) (hcv21) (fun u hu => by (go_simp; rfl)) ?_
          try simp only [Act.put, List.setIfInBounds_toArray, List.set_cons_zero, List.set_cons_succ]
          refine PF.pf_take0 19 (by kernel_rfl) rfl (fun _ _ _ _ _ h => h) (by kernel_rfl) (fun u => by go_simp; try rfl) ?_
          try simp only [Act.put, List.setIfInBounds_toArray, List.set_cons_zero, List.set_cons_succ]
          refine PF.pf_take0 20 (by kernel_rfl) rfl (fun _ _ _ _ _ h => h) (by kernel_rfl) (fun u => by go_simp; try rfl) ?_
          try simp only [Act.put, List.setIfInBounds_toArray, List.set_cons_zero, List.set_cons_succ]
          refine PF.pf_take0 21 (by kernel_rfl) rfl (fun _ _ _ _ _ h => h) (by kernel_rfl) (fun u => by go_simp; try rfl) ?_
          try simp only [Act.put, List.setIfInBounds_toArray, List.set_cons_zero, List.set_cons_succ]
          refine PF.pf_take0 22 (by kernel_rfl) rfl (fun _ _ _ _ _ h => h) (by kernel_rfl) (fun u => by go_simp; try rfl) ?_
          try simp only [Act.put, List.setIfInBounds_toArray, List.set_cons_zero, List.set_cons_succ]
          refine PF.pf_exec 23 (by kernel_rfl) rfl (by kernel_rfl) (fun K hK => ?_)
          go_simp
          refine (wbytes_nil _).mono ?_
          rintro e w22 ⟨rfl, rfl⟩
          refine hK _ _ (by repeat (first | exact PF.owes_nil | refine PF.owes_left ?_ | refine PF.owes_no (by decide +kernel) ?_ | refine PF.owes_yes (by first | rfl | assumption | go_simp) ?_)) ?_
          clear hK K
          try simp only [Act.put, List.setIfInBounds_toArray, List.set_cons_zero, List.set_cons_succ]
          refine PF.pf_take0 24 (by kernel_rfl) rfl (fun _ _ _ _ _ h => h) (by kernel_rfl) (fun u => by go_simp; try rfl) ?_
          try simp only [Act.put, List.setIfInBounds_toArray, List.set_cons_zero, List.set_cons_succ]
          refine PF.pf_take0 25 (by kernel_rfl) rfl (fun _ _ _ _ _ h => h) (by kernel_rfl) (fun u => by go_simp; try rfl) ?_
          try simp only [Act.put, List.setIfInBounds_toArray, List.set_cons_zero, List.set_cons_succ]
          refine PF.pf_take0 26 (by kernel_rfl) rfl (fun _ _ _ _ _ h => h) (by kernel_rfl) (fun u => by go_simp; try rfl) ?_
          try simp only [Act.put, List.setIfInBounds_toArray, List.set_cons_zero, List.set_cons_succ]
          refine PF.pf_take0 27 (by kernel_rfl) rfl (fun _ _ _ _ _ h => h) (by kernel_rfl) (fun u => by go_simp; try rfl) ?_
          try simp only [Act.put, List.setIfInBounds_toArray, List.set_cons_zero, List.set_cons_succ]
          refine PF.pf_take0 28 (by kernel_rfl) rfl (fun _ _ _ _ _ h => h) (by kernel_rfl) (fun u => by go_simp; try rfl) ?_
          try simp only [Act.put, List.setIfInBounds_toArray, List.set_cons_zero, List.set_cons_succ]
          refine PF.pf_exec 29 (by kernel_rfl) rfl (by kernel_rfl) (fun K hK => ?_)
          go_simp
          refine (wlen_nil _).mono ?_
          rintro e w23 ⟨rfl, rfl⟩
          refine hK _ _ (by repeat (first | exact PF.owes_nil | refine PF.owes_left ?_ | refine PF.owes_no (by decide +kernel) ?_ | refine PF.owes_yes (by first | rfl | assumption | go_simp) ?_)) ?_
          clear hK K
          try simp only [Act.put, List.setIfInBounds_toArray, List.set_cons_zero, List.set_cons_succ]
          refine PF.pf_take0 30 (by kernel_rfl) rfl (fun _ _ _ _ _ h => h) (by kernel_rfl) (fun u => by go_simp; try rfl) ?_
          try simp only [Act.put, List.setIfInBounds_toArray, List.set_cons_zero, List.set_cons_succ]
          refine PF.pf_take0 31 (by kernel_rfl) rfl (fun _ _ _ _ _ h => h) (by kernel_rfl) (fun u => by go_simp; try rfl) ?_
          try simp only [Act.put, List.setIfInBounds_toArray, List.set_cons_zero, List.set_cons_succ]
          refine PF.pf_take0 32 (by kernel_rfl) rfl (fun _ _ _ _ _ h => h) (by kernel_rfl) (fun u => by go_simp; try rfl) ?_
          try simp only [Act.put, List.setIfInBounds_toArray, List.set_cons_zero, List.set_cons_succ]
          refine PF.pf_exec 33 (by kernel_rfl) rfl (by kernel_rfl) (fun K hK => ?_)
          go_simp
          refine (HW _).out.mono ?_
          rintro e w24 ⟨rfl, hb24⟩
          have HB24 := Lib.hid (below_call HB21.out (by have := HB21.out.size; have := HBe.out; omega) hb24)
          clear hb24
          refine hK _ _ (by repeat (first | exact PF.owes_nil | refine PF.owes_left ?_ | refine PF.owes_no (by decide +kernel) ?_ | refine PF.owes_yes (by first | rfl | assumption | go_simp) ?_)) ?_
          clear hK K
          try simp only [Act.put, List.setIfInBounds_toArray, List.set_cons_zero, List.set_cons_succ]
          refine PF.pf_take0 34 (by kernel_rfl) rfl (fun _ _ _ _ _ h => h) (by kernel_rfl) (fun u => by go_simp; try rfl) ?_
          try simp only [Act.put, List.setIfInBounds_toArray, List.set_cons_zero, List.set_cons_succ]
          refine PF.pf_take0 35 (by kernel_rfl) rfl (fun _ _ _ _ _ h => h) (by kernel_rfl) (fun u => by go_simp; try rfl) ?_
          try simp only [Act.put, List.setIfInBounds_toArray, List.set_cons_zero, List.set_cons_succ]
          refine PF.pf_done (by kernel_rfl) ?_
          go_wp2_with fail
          go_ret
          have hfin := HB24.out
          rw [HBe.out] at hfin
          exact ⟨rfl, hfin⟩
namespace CodePuts
theorem walk {w : World} (A : Option Addr) (l : List Pt) (c : Nat) (h : Pts w A l) (h1 : l.length ≤ c) (h2 : c ≤ 9223372036854775807) :
    Calls Tryd.prog 3 #[.slice A l.length c] w fun e w' => e = .returned (.bool true) ∧ Below w.heap.size w w' := puts_any A c l (Nat.le_trans h1 h2) w h
end CodePuts
end Go.Proofs.YtcklbhplhpohpaaDoor
