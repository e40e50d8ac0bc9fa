/- CodeGets, walked. (Printed by codegets.py.) -/
import Derived.Test.YtcklbhplhpohpaaDoorRefF
import Derived.Test.YtcklbhplhpohpaaDoorCodeV
import Derived.Test.YtcklbhplhpohpaaDoorTrio
namespace Go.Proofs.YtcklbhplhpohpaaDoor
open Go.RowKit

theorem getP_wide (k : Int) (n : Nat) (hk : (k = 0 ∧ n = 1) ∨ (k = 1 ∧ n = 4)) (m : Int) (xs : List UInt8) : getP k m xs = if n ≤ xs.length then some (leN (xs.take n), [], n) else none := by
  rcases hk with ⟨rfl, rfl⟩ | ⟨rfl, rfl⟩
  · rfl
  · rfl
/-- A number of so many bytes is read as they are. -/
theorem stepP_wide (k : Int) (n : Nat) (hk : (k = 0 ∧ n = 1) ∨ (k = 1 ∧ n = 4)) (m : Int) (xs : List UInt8) (f : Bool) : stepP k m xs f = (leN (stepP 4 (n : Int) xs f).2.1, [], (stepP 4 (n : Int) xs f).2.2.1, (stepP 4 (n : Int) xs f).2.2.2) := by
  cases f with
  | true => simp only [stepP_off, leN]
  | false =>
    by_cases hn : n ≤ xs.length
    · rw [raw_step hn, stepP_some (by rw [getP_wide k n hk, if_pos hn])]
    · rw [stepP_none (by rw [getP_wide k n hk, if_neg hn]), stepP_none (by rw [getP_raw, if_neg (by omega)])]
      rfl
theorem stepP_uint (m : Int) (xs : List UInt8) (f : Bool) : stepP 2 m xs f = stepP 2 0 xs f := rfl
theorem stepP_bytes2 (m : Int) (xs : List UInt8) (f : Bool) : (stepP 2 m xs f).2.1 = [] := stepP_bytes fun x s j h => getP_2 h
theorem stepP_num34 {k : Int} (hk : k = 3 ∨ k = 4) (m : Int) (xs : List UInt8) (f : Bool) : (stepP k m xs f).1 = 0 := by
  have := stepP_num (k := k) (m := m) (xs := xs) (f := f) 1 (by decide) fun x s j h => by
    have := getP_34 (m := m) (by rcases hk with rfl | rfl <;> decide) h
    omega
  omega
theorem Rdr.lohi {w : World} {lo hi r : Nat} {l : List UInt8} {p : Nat} {f : Bool} (h : Rdr w lo hi r l p f) : lo ≤ hi := by
  obtain ⟨A, c, _, h1, h2, _⟩ := h
  omega
theorem Rft.rf {base m : Nat} {xs : List UInt8} {t : Nat × List UInt8 × Nat × Bool} {w w' : World} (h : Rft base m xs t w w') : Rf base w' m (xs.drop t.2.2.1) t.2.2.2 := h.1
set_option maxRecDepth 100000 in
set_option maxHeartbeats 8000000 in
theorem gets_any (D : Option Addr) (dc : Nat) (bs : List UInt8) (hb63 : bs.length ≤ 9223372036854775807) (A : Option Addr) (c : Nat) (l : List Pt) (hl : l.length ≤ 9223372036854775807) (w : World) (hD : Bytes w D bs) (hA : Pts w A l) :
    Calls Tryd.prog 5 #[.slice D bs.length dc, .slice A l.length c] w fun e w' => e = .returned (.bool true) ∧ Below w.heap.size w w' := by
  have HA := Lib.hid hA
  have HD := Lib.hid hD
  have HG1 := Lib.hid (great_any A c l hl w hA)
  have HW := fun w => Lib.hid (awake_any w)
  clear hA hD
  go_enter Tryd.func5, Tryd.ntmps5
  go_wp2_with fail
  refine HG1.out.mono ?_
  rintro e w1 ⟨g, rfl, hb1, rfl⟩
  cases g with
  | true =>
    go_wp2_with fail
    refine (HW _).out.mono ?_
    rintro e w1 ⟨rfl, hb⟩
    have HB := Lib.hid hb
    clear hb
    go_wp2_with fail
    go_ret
    exact ⟨rfl, HB.out⟩
  | false =>
  clear hb1 HG1
  by_cases hbig : 20000 < bs.length
  · have hd1 : decide ((20000 : Int) < (bs.length : Int)) = true := by rw [decide_eq_true_iff]; omega
    go_wp2_with fail
    refine (HW _).out.mono ?_
    rintro e w1 ⟨rfl, hb⟩
    have HB := Lib.hid hb
    clear hb
    go_wp2_with fail
    go_ret
    exact ⟨rfl, HB.out⟩
  have hd1 : decide ((20000 : Int) < (bs.length : Int)) = false := by rw [decide_eq_false_iff_not]; omega
  have hown0 : ∀ W : World, (W.alloc (.cells #[] 5)).ownsRow W.heap.size 5 1 (.slice (some ⟨W.heap.size, 0, none⟩) 0 0) 0 [] := fun W => World.ownsRow_made _ _ _ (Nat.le_refl _) (by simp [maxLen]) rfl
  have HOWN := Lib.hid hown0
  have hr1 : Reads (w.alloc (.cells #[] 5)) 1 D bs.length (bs.map bv) := Reads.alloc HD.out _
  clear hown0
  go_wp2_with (at_builtin; refine app_list bytes_ty rfl (s := .tmp 22) (x := .tmp 23) rfl (HOWN.out w) rfl hr1 rfl (bv_one bs) (by omega) (by simp) ?_; intro v2 w2 hown2 hg2 _; refine Hid.out ?_)
  have hb2 : Below w.heap.size w w2 := (below_new w _).grown hg2 (by simp) (own_ge (HOWN.out w))
  have HB2 := Lib.hid hb2
  have hs2 : w.heap.size ≤ w2.heap.size := hb2.size
  simp only [Nat.zero_add, List.nil_append] at hown2
  obtain ⟨A2, c2, rfl, _, _⟩ := own_slice hown2
  have HO2 := Lib.hid hown2
  have hA2 := row_at_head hown2
  have HA2 := Lib.hid hA2
  clear hb2 hown2 hg2 hr1 hA2
  refine Lib.hid ?_
  go_wp2_with fail
  refine (rdr_new A2 c2 bs.length bs w2 (own_bytes HO2.out) rfl (by omega)).mono ?_
  rintro e w3 ⟨r, rfl, hR, hb3⟩
  obtain ⟨lo, hlo⟩ : ∃ n, n = w2.heap.size := ⟨_, rfl⟩
  obtain ⟨hi, hhi⟩ : ∃ n, n = w3.heap.size := ⟨_, rfl⟩
  rw [← hlo, ← hhi] at hR
  have HR3 := Lib.hid hR
  have HB3 := Lib.hid (below_call HB2.out hs2 hb3)
  have HO3 := Lib.hid (own_call HO2.out hb3)
  have hlow : w.heap.size ≤ lo := by omega
  have hs3 : lo ≤ w3.heap.size := by have := hb3.size; omega
  have HHI := Lib.hid hhi
  have HLO2 : Hid (∀ ad, A2 = some ad → ad.block < lo ∧ w.heap.size ≤ ad.block) := fun ad e => by
    have := HA2.out ad e
    exact ⟨by omega, this.2.2.1⟩
  have hr3 : Reads (w3.alloc (.cells #[] 5)) 1 D bs.length (bs.map bv) := Reads.alloc (Reads.below HD.out HB3.out) _
  clear hR hb3 hlo hhi HO2 HB2
  go_wp2_with (at_builtin; refine app_list bytes_ty rfl (s := .tmp 27) (x := .tmp 28) rfl (HOWN.out w3) rfl hr3 rfl (bv_one bs) (by omega) (by simp) ?_; intro v4 w4 hown4 hg4 _; refine Hid.out ?_)
  have hb4 : Below w3.heap.size w3 w4 := (below_new w3 _).grown hg4 (by simp) (own_ge (HOWN.out w3))
  have hs4 : hi ≤ w4.heap.size := by have := hb4.size; have := HHI.out; omega
  simp only [Nat.zero_add, List.nil_append] at hown4
  obtain ⟨A4, c4, rfl, hc4, hc4'⟩ := own_slice hown4
  have hA4 := row_at_head hown4
  obtain ⟨m, hm⟩ : ∃ m, m = w4.heap.size := ⟨_, rfl⟩
  have hRF : Rf hi (w4.alloc (.cells #[.slice A4 bs.length c4, .bool false] 51)) m (bs.drop 0) false := by
    rw [hm]
    exact ⟨A4, c4, Blk.new _ _ _, (own_bytes hown4).alloc _, hc4, by simpa [maxLen] using hc4', hs4, fun ad e => by have := hA4 ad e; have := HHI.out; exact ⟨by omega, by omega⟩⟩
  have HRF := Lib.hid hRF
  have HR4 := Lib.hid ((HR3.out.below hb4).below (below_new w4 (.cells #[.slice A4 bs.length c4, .bool false] 51)))
  have HB4 := Lib.hid ((below_call HB3.out (by omega) hb4).alloc (by have := hb4.size; omega) (.cells #[.slice A4 bs.length c4, .bool false] 51))
  have HO4 := Lib.hid ((own_call HO3.out hb4).alloc (.cells #[.slice A4 bs.length c4, .bool false] 51))
  have hs4b : w.heap.size ≤ w4.heap.size := by have := hb4.size; omega
  clear hb4 hown4 hg4 hA4 hRF hr3 HO3 HB3 HR3 hc4 hc4'
  have HM := Lib.hid hm
  refine Lib.hid ?_
  go_wp2_with fail
  rw [← HM.out]
  clear hm
  go_loopw [8] (fun i wr => ∃ j : Nat, j ≤ bs.length ∧ i = .int .i64 j ∧ (∃ q : List UInt8, wr.ownsRow w.heap.size 5 1 (.slice A2 bs.length c2) bs.length (q.map bv)) ∧ Mod (fun g => A2.map (·.block) = some g) (w4.alloc (.cells #[.slice A4 bs.length c4, .bool false] 51)) wr) (fun i _ => bs.length - (intOf i).toNat)
  case atStart => exact ⟨0, Nat.zero_le _, rfl, ⟨_, HO4.out⟩, Mod.refl _ _⟩
  case round =>
    clear HO4
    obtain ⟨j, hj, rfl, ⟨q, hq⟩, hm⟩ := hrel
    by_cases hlj : j < bs.length
    · obtain ⟨g, c9, e9, hg9, hc9, hc9'⟩ := own_ptr hq (by omega)
      injection e9 with e9 _ e8
      subst e9 e8
      have q0 := own_at hq hlj
      have qf : wr.frozen? ⟨g, j, none⟩ = false := hq.frozenAt j
      have hs := own_set hq j (q.getD j 0 + 1)
      have hinc := w_inc (q.getD j 0)
      have HMM := Lib.hid hm
      generalize q.getD j 0 = d at q0 hs hinc
      rw [← hinc] at hs
      have HS := Lib.hid hs
      clear hq hs hm hinc
      have hd := d.toNat_lt
      go_wp2_with fail
      go_roundw
      case rel => exact ⟨j + 1, by omega, by go_num, ⟨_, HS.out⟩, HMM.out.set (p := ⟨g, j, none⟩) (fun _ => rfl) _⟩
      case measure => simp [intOf]; omega
    · have HF : Hid (∀ g, A2.map (·.block) = some g → g < lo ∧ w.heap.size ≤ g) := fun g hg => by
        cases A2 with
        | none => cases hg
        | some ad =>
          have h : ad.block = g := by simpa using hg
          have := HLO2.out ad rfl
          omega
      have hlh := HR4.out.lohi
      have HR5 : Hid (Rdr wr lo hi r bs 0 false) := HR4.out.mod hm fun k h1 h2 h3 => by have := HF.out k h3; omega
      have HRF5 : Hid (Rf hi wr m (bs.drop 0) false) := HRF.out.mod hm fun k h1 h2 h3 => by have := HF.out k h3; omega
      have HB5 : Hid (Below w.heap.size w wr) := Below.mod HB4.out hm (by simp; omega) fun k hk => (HF.out k hk).2
      have hs5 : hi ≤ wr.heap.size := by have := hm.size; simp at this; omega
      have hjn : j = bs.length := by omega
      clear hq hm HR4 HRF HB4 HF hj hlj
      subst hjn
      obtain ⟨w5, rfl⟩ : ∃ wo : World, wo = wr := ⟨_, rfl⟩
      go_wp2_with fail
      go_loopw [9] (fun i wr => ∃ k : Nat, k ≤ l.length ∧ i = .int .i64 k ∧ (∃ q f, Rdr wr lo hi r bs q f ∧ Rf hi wr m (bs.drop q) f) ∧ Below w.heap.size w wr ∧ hi ≤ wr.heap.size) (fun i _ => l.length - (intOf i).toNat)
      case atStart => exact ⟨0, Nat.zero_le _, rfl, ⟨0, false, HR5.out, HRF5.out⟩, HB5.out, hs5⟩
      case round =>
        clear HR5 HRF5 HB5 hs5
        obtain ⟨k, hk, rfl, ⟨q, f, hR, hRf⟩, hB, hs⟩ := hrel
        have HR := Lib.hid hR
        have HRF := Lib.hid hRf
        have HB := Lib.hid hB
        have hBs : w.heap.size ≤ wr.heap.size := hB.size
        have hqb := hR.pl
        clear hR hRf hB
        by_cases hlt : k < l.length
        · skip
          have hPw : Pts wr A l := HA.out.below HB.out
          obtain ⟨b, o, hAe, hbl, c0, c1, c2', c3⟩ := hPw.at_ hlt
          have HCELL : Hid (∀ W, Below w.heap.size w W → W.cell? ⟨b, o + k * 4, none⟩ = some (.int .i64 l[k].s.toInt) ∧ W.cell? ⟨b, o + k * 4 + 1, none⟩ = some (.int .i64 l[k].m.toInt) ∧ W.cell? ⟨b, o + k * 4 + 2, none⟩ = some (.int .u64 (l[k].x.toNat : Int)) ∧ W.cell? ⟨b, o + k * 4 + 3, none⟩ = some (.slice l[k].A l[k].b.length l[k].c)) := fun W h => by
            obtain ⟨b', o', e', _, d0, d1, d2, d3⟩ := (HA.out.below h).at_ hlt
            rw [hAe] at e'
            injection e' with e'
            injection e' with e1 e2
            subst e1 e2
            exact ⟨d0, d1, d2, d3⟩
          subst hAe
          clear hPw
          generalize l[k] = p at c0 c1 c2' c3 HCELL
          have hmost1 := i64_lo p.m
          have hmost2 := i64_hi p.m
          have hget := rdr_get wr lo hi r bs q f p HR.out
          obtain ⟨t, ht⟩ : ∃ t, t = stepP p.k p.m.toInt (bs.drop q) f := ⟨_, rfl⟩
          rw [← ht] at hget
          obtain ⟨x, s, j, g⟩ := t
          have HT := Lib.hid ht
          unfold Pt.val at hget
          have HGET := Lib.hid hget
          clear hget ht
          go_wp2_with fail
          refine HGET.out.mono ?_
          rintro e w6 ⟨rfl, hr6, hm6⟩
          have HR6 : Hid (Rdr w6 lo hi r bs (q + j) g) := hr6
          have HRF6 := Lib.hid (HRF.out.mod hm6 fun k h1 h2 h3 => by have := h3.2; omega)
          have HB6 := Lib.hid (Below.mod HB.out hm6 hBs fun k hk => by have := hk.1; omega)
          have hs6 : hi ≤ w6.heap.size := Nat.le_trans hs hm6.size
          have hqj := hr6.pl
          simp only at hqj
          clear hr6 hm6 HGET HRF HB HR c0 c1 c2' c3
          obtain ⟨c0, c1, c2', c3⟩ := HCELL.out w6 HB6.out
          have HS := fun W (z : Int) (h : p.k = z) => Lib.hid (sort_k p z h W)
          unfold Pt.val at HS
          rcases p.k_cases with hk5 | hk5 | hk5 | hk5 | hk5
          · have ht : stepP p.k p.m.toInt (bs.drop q) f = (leN (stepP 4 ((1 : Nat) : Int) (bs.drop q) f).2.1, [], (stepP 4 ((1 : Nat) : Int) (bs.drop q) f).2.2.1, (stepP 4 ((1 : Nat) : Int) (bs.drop q) f).2.2.2) := by rw [hk5, stepP_wide 0 1 (.inl ⟨rfl, rfl⟩)]
            rw [← HT.out] at ht
            simp only [Prod.mk.injEq] at ht
            obtain ⟨hx, hs', hj, hg⟩ := ht
            have hl9 : (bs.drop q).length ≤ 140737488355328 := by rw [List.length_drop]; omega
            have HREF : Hid (∀ W, Rf hi W m (bs.drop q) f → hi ≤ W.heap.size → Calls Tryd.prog 25 #[.pointer (some ⟨m, 0, none⟩), .int .i64 1] W fun e w' => e = .returned (.int .u64 (x : Int)) ∧ Rf hi w' m ((bs.drop q).drop j) g ∧ Mod (fun k => k = m) W w') := fun W h hb9 => by
              refine (rwide_any hi W m (bs.drop q) f 1 (by decide) h hl9 hb9).mono ?_
              rintro e w' ⟨h1, h3, h4⟩
              rw [← hx] at h1
              rw [← hj, ← hg] at h3
              exact ⟨h1, h3, h4⟩
            have HSORT := fun W => HS W _ hk5
            subst hs'
            clear hx hj hg hk5 HS HT
            go_wp2_with fail
            refine (HSORT _).out.mono ?_
            rintro e w7 ⟨rfl, hb7⟩
            have HR7 := Lib.hid (HR6.out.below hb7)
            have HRF7 := Lib.hid (HRF6.out.below hb7)
            have HB7 := Lib.hid (below_call HB6.out (by have := HB6.out.size; exact this) hb7)
            have hs7 : hi ≤ w7.heap.size := Nat.le_trans hs6 hb7.size
            clear hb7 HR6 HRF6 HB6 c0 c1 c2' c3 HSORT
            obtain ⟨c0, c1, c2', c3⟩ := HCELL.out w7 HB7.out
            go_wp2_with fail
            refine (HREF.out w7 HRF7.out hs7).mono ?_
            rintro e w8 ⟨rfl, hr8, hm8⟩
            have HRF8 := Lib.hid hr8
            have HR8 := Lib.hid (HR7.out.mod hm8 fun k h1 h2 h3 => by have := HM.out; omega)
            have HB8 := Lib.hid (Below.mod HB7.out hm8 (by have := HB7.out.size; exact this) fun k hk => by have := HM.out; omega)
            have hs8 : hi ≤ w8.heap.size := Nat.le_trans hs7 hm8.size
            clear hr8 hm8 HR7 HRF7 HB7 HREF c0 c1 c2' c3
            have hx0 : True := trivial
            obtain ⟨AM, cm, hblk, hmb, hmc, hmc', hmi, _⟩ := HRF8.out
            have m0 := hblk.cell 0
            have m1 := hblk.cell 1
            have hml := hblk.lt
            simp only [List.getElem?_toArray, List.getElem?_cons_succ, List.getElem?_cons_zero] at m0 m1
            have HLF := Lib.hid (rdr_left w8.drew lo hi r bs (q + j) g (HR8.out.below (below_drewN (Below.refl _ _) 1)))
            have hll : ((bs.drop q).drop j).length = bs.length - (q + j) := by rw [List.length_drop, List.length_drop]; omega
            rw [hll] at m0
            clear hblk hmb hmc hmc' hll
            go_wp2_with fail
            cases g
            all_goals
              refine PF.pf_begin (by kernel_rfl) ?_
              refine PF.pf_take0 0 (by kernel_rfl) rfl (fun _ _ _ _ _ h => h) (by kernel_rfl) (fun u => by go_simp; try rfl) ?_
              try simp only [Act.put, List.setIfInBounds_toArray, List.set_cons_zero, List.set_cons_succ]
              refine PF.pf_take0 1 (by kernel_rfl) rfl (fun _ _ _ _ _ h => h) (by kernel_rfl) (fun u => by go_simp; try rfl) ?_
              try simp only [Act.put, List.setIfInBounds_toArray, List.set_cons_zero, List.set_cons_succ]
              refine PF.pf_take0 2 (by kernel_rfl) rfl (fun _ _ _ _ _ h => h) (by kernel_rfl) (fun u => by go_simp; try rfl) ?_
              try simp only [Act.put, List.setIfInBounds_toArray, List.set_cons_zero, List.set_cons_succ]
              refine PF.pf_take0 3 (by kernel_rfl) rfl (fun _ _ _ _ _ h => h) (by kernel_rfl) (fun u => by go_simp; try rfl) ?_
              try simp only [Act.put, List.setIfInBounds_toArray, List.set_cons_zero, List.set_cons_succ]
              refine PF.pf_take0 4 (by kernel_rfl) rfl (fun _ _ _ _ _ h => h) (by kernel_rfl) (fun u => by go_simp; try rfl) ?_
              try simp only [Act.put, List.setIfInBounds_toArray, List.set_cons_zero, List.set_cons_succ]
              refine PF.pf_take0 5 (by kernel_rfl) rfl (fun _ _ _ _ _ h => h) (by kernel_rfl) (fun u => by go_simp; try rfl) ?_
              try simp only [Act.put, List.setIfInBounds_toArray, List.set_cons_zero, List.set_cons_succ]
              refine PF.pf_take0 6 (by kernel_rfl) rfl (fun _ _ _ _ _ h => h) (by kernel_rfl) (fun u => by go_simp; try rfl) ?_
              try simp only [Act.put, List.setIfInBounds_toArray, List.set_cons_zero, List.set_cons_succ]
              refine PF.pf_take0 7 (by kernel_rfl) rfl (fun _ _ _ _ _ h => h) (by kernel_rfl) (fun u => by go_simp; try rfl) ?_
              try simp only [Act.put, List.setIfInBounds_toArray, List.set_cons_zero, List.set_cons_succ]
              refine PF.pf_take0 8 (by kernel_rfl) rfl (fun _ _ _ _ _ h => h) (by kernel_rfl) (fun u => by go_simp; try rfl) ?_
              try simp only [Act.put, List.setIfInBounds_toArray, List.set_cons_zero, List.set_cons_succ]
              refine PF.pf_take0 9 (by kernel_rfl) rfl (fun _ _ _ _ _ h => h) (by kernel_rfl) (fun u => by go_simp; try rfl) ?_
              try simp only [Act.put, List.setIfInBounds_toArray, List.set_cons_zero, List.set_cons_succ]
              refine PF.pf_take0 11 (by kernel_rfl) rfl (fun _ _ _ _ _ h => h) (by kernel_rfl) (fun u => by go_simp; try rfl) ?_
              try simp only [Act.put, List.setIfInBounds_toArray, List.set_cons_zero, List.set_cons_succ]
              refine PF.pf_take0 12 (by kernel_rfl) rfl (fun _ _ _ _ _ h => h) (by kernel_rfl) (fun u => by go_simp; try rfl) ?_
              try simp only [Act.put, List.setIfInBounds_toArray, List.set_cons_zero, List.set_cons_succ]
              refine PF.pf_take0 13 (by kernel_rfl) rfl (fun _ _ _ _ _ h => h) (by kernel_rfl) (fun u => by go_simp; try rfl) ?_
              try simp only [Act.put, List.setIfInBounds_toArray, List.set_cons_zero, List.set_cons_succ]
              refine PF.pf_take1 14 (PF.Same (m) _) (by kernel_rfl) rfl (fun _ _ _ _ _ h => h) (by kernel_rfl) (PF.Same.refl _ _) (fun u hu => by have hcu := hu.cell; go_simp; try rfl) ?_
              try simp only [Act.put, List.setIfInBounds_toArray, List.set_cons_zero, List.set_cons_succ]
              refine PF.pf_take0 15 (by kernel_rfl) rfl (fun _ _ _ _ _ h => h) (by kernel_rfl) (fun u => by go_simp; try rfl) ?_
              try simp only [Act.put, List.setIfInBounds_toArray, List.set_cons_zero, List.set_cons_succ]
              refine PF.pf_exec 10 (by kernel_rfl) rfl (by kernel_rfl) (fun K hK => ?_)
              go_simp
              refine HLF.out.mono ?_
              rintro e w9 ⟨rfl, n9, hq9⟩
              have hb9 : Below w8.heap.size w8 w9 := by rw [hq9]; exact ((Below.refl _ _).drew).trans (below_drewN (Below.refl _ _) n9)
              clear hq9
              have HR9 := Lib.hid (HR8.out.below hb9)
              have HRF9 := Lib.hid (HRF8.out.below hb9)
              have HB9 := Lib.hid (below_call HB8.out (by have := HB8.out.size; exact this) hb9)
              have hs9 : hi ≤ w9.heap.size := Nat.le_trans hs8 hb9.size
              have hsm : w9.heap[m]? = w8.heap[m]? := hb9.block m hml
              have m9 := (hb9.cell (p := ⟨m, 1, none⟩) hml).trans m1
              refine hK _ _ (by repeat (first | exact PF.owes_nil | refine PF.owes_left ?_ | refine PF.owes_no (by decide +kernel) ?_ | refine PF.owes_yes (by first | exact hsm | rfl | assumption) ?_)) ?_
              clear hK K
              try simp only [Act.put, List.setIfInBounds_toArray, List.set_cons_zero, List.set_cons_succ]
              refine PF.pf_take0 16 (by kernel_rfl) rfl (fun _ _ _ _ _ h => h) (by kernel_rfl) (fun u => by go_simp; try rfl) ?_
              try simp only [Act.put, List.setIfInBounds_toArray, List.set_cons_zero, List.set_cons_succ]
              refine PF.pf_take0 17 (by kernel_rfl) rfl (fun _ _ _ _ _ h => h) (by kernel_rfl) (fun u => by go_simp; try rfl) ?_
              try simp only [Act.put, List.setIfInBounds_toArray, List.set_cons_zero, List.set_cons_succ]
              refine PF.pf_take0 18 (by kernel_rfl) rfl (fun _ _ _ _ _ h => h) (by kernel_rfl) (fun u => by go_simp; try rfl) ?_
              try simp only [Act.put, List.setIfInBounds_toArray, List.set_cons_zero, List.set_cons_succ]
              refine PF.pf_take0 19 (by kernel_rfl) rfl (fun _ _ _ _ _ h => h) (by kernel_rfl) (fun u => by go_simp; try rfl) ?_
              try simp only [Act.put, List.setIfInBounds_toArray, List.set_cons_zero, List.set_cons_succ]
              refine PF.pf_take0 22 (by kernel_rfl) rfl (fun _ _ _ _ _ h => h) (by kernel_rfl) (fun u => by go_simp; try rfl) ?_
              try simp only [Act.put, List.setIfInBounds_toArray, List.set_cons_zero, List.set_cons_succ]
              refine PF.pf_take0 23 (by kernel_rfl) rfl (fun _ _ _ _ _ h => h) (by kernel_rfl) (fun u => by go_simp; try rfl) ?_
              try simp only [Act.put, List.setIfInBounds_toArray, List.set_cons_zero, List.set_cons_succ]
              refine PF.pf_take0 24 (by kernel_rfl) rfl (fun _ _ _ _ _ h => h) (by kernel_rfl) (fun u => by go_simp; try rfl) ?_
              try simp only [Act.put, List.setIfInBounds_toArray, List.set_cons_zero, List.set_cons_succ]
              refine PF.pf_take1 25 (PF.Same (m) _) (by kernel_rfl) rfl (fun _ _ _ _ _ h => h) (by kernel_rfl) (PF.Same.refl _ _) (fun u hu => by have hcu := hu.cell; go_simp; try rfl) ?_
              try simp only [Act.put, List.setIfInBounds_toArray, List.set_cons_zero, List.set_cons_succ]
              refine PF.pf_exec 20 (by kernel_rfl) rfl (by kernel_rfl) (fun K hK => ?_)
              go_simp
              refine (rdr_err w9 lo hi r bs (q + j) _ HR9.out).mono ?_
              rintro e w10 ⟨rfl, rfl⟩
              refine hK _ _ (by repeat (first | exact PF.owes_nil | refine PF.owes_left ?_ | refine PF.owes_no (by decide +kernel) ?_ | refine PF.owes_yes (by first | rfl | assumption | go_simp) ?_)) ?_
              clear hK K
              try simp only [Act.put, List.setIfInBounds_toArray, List.set_cons_zero, List.set_cons_succ]
              refine PF.pf_take0 21 (by kernel_rfl) rfl (fun _ _ _ _ _ h => h) (by kernel_rfl) (fun u => by go_simp; try rfl) ?_
              try simp only [Act.put, List.setIfInBounds_toArray, List.set_cons_zero, List.set_cons_succ]
              refine PF.pf_take0 26 (by kernel_rfl) rfl (fun _ _ _ _ _ h => h) (by kernel_rfl) (fun u => by go_simp; try rfl) ?_
              try simp only [Act.put, List.setIfInBounds_toArray, List.set_cons_zero, List.set_cons_succ]
              refine PF.pf_take0 27 (by kernel_rfl) rfl (fun _ _ _ _ _ h => h) (by kernel_rfl) (fun u => by go_simp; try rfl) ?_
              try simp only [Act.put, List.setIfInBounds_toArray, List.set_cons_zero, List.set_cons_succ]
              refine PF.pf_done (by kernel_rfl) ?_
              go_wp2_with fail
              go_roundw
              case rel =>
                refine ⟨k + 1, by omega, by go_num, ⟨_, _, HR9.out, ?_⟩, HB9.out, hs9⟩
                rw [← List.drop_drop]
                exact HRF9.out
              case measure => simp [intOf]; omega
          · have ht : stepP p.k p.m.toInt (bs.drop q) f = (leN (stepP 4 ((4 : Nat) : Int) (bs.drop q) f).2.1, [], (stepP 4 ((4 : Nat) : Int) (bs.drop q) f).2.2.1, (stepP 4 ((4 : Nat) : Int) (bs.drop q) f).2.2.2) := by rw [hk5, stepP_wide 1 4 (.inr ⟨rfl, rfl⟩)]
            rw [← HT.out] at ht
            simp only [Prod.mk.injEq] at ht
            obtain ⟨hx, hs', hj, hg⟩ := ht
            have hl9 : (bs.drop q).length ≤ 140737488355328 := by rw [List.length_drop]; omega
            have HREF : Hid (∀ W, Rf hi W m (bs.drop q) f → hi ≤ W.heap.size → Calls Tryd.prog 25 #[.pointer (some ⟨m, 0, none⟩), .int .i64 4] W fun e w' => e = .returned (.int .u64 (x : Int)) ∧ Rf hi w' m ((bs.drop q).drop j) g ∧ Mod (fun k => k = m) W w') := fun W h hb9 => by
              refine (rwide_any hi W m (bs.drop q) f 4 (by decide) h hl9 hb9).mono ?_
              rintro e w' ⟨h1, h3, h4⟩
              rw [← hx] at h1
              rw [← hj, ← hg] at h3
              exact ⟨h1, h3, h4⟩
            have HSORT := fun W => HS W _ hk5
            subst hs'
            clear hx hj hg hk5 HS HT
            go_wp2_with fail
            refine (HSORT _).out.mono ?_
            rintro e w7 ⟨rfl, hb7⟩
            have HR7 := Lib.hid (HR6.out.below hb7)
            have HRF7 := Lib.hid (HRF6.out.below hb7)
            have HB7 := Lib.hid (below_call HB6.out (by have := HB6.out.size; exact this) hb7)
            have hs7 : hi ≤ w7.heap.size := Nat.le_trans hs6 hb7.size
            clear hb7 HR6 HRF6 HB6 c0 c1 c2' c3 HSORT
            obtain ⟨c0, c1, c2', c3⟩ := HCELL.out w7 HB7.out
            go_wp2_with fail
            refine (HREF.out w7 HRF7.out hs7).mono ?_
            rintro e w8 ⟨rfl, hr8, hm8⟩
            have HRF8 := Lib.hid hr8
            have HR8 := Lib.hid (HR7.out.mod hm8 fun k h1 h2 h3 => by have := HM.out; omega)
            have HB8 := Lib.hid (Below.mod HB7.out hm8 (by have := HB7.out.size; exact this) fun k hk => by have := HM.out; omega)
            have hs8 : hi ≤ w8.heap.size := Nat.le_trans hs7 hm8.size
            clear hr8 hm8 HR7 HRF7 HB7 HREF c0 c1 c2' c3
            have hx0 : True := trivial
            obtain ⟨AM, cm, hblk, hmb, hmc, hmc', hmi, _⟩ := HRF8.out
            have m0 := hblk.cell 0
            have m1 := hblk.cell 1
            have hml := hblk.lt
            simp only [List.getElem?_toArray, List.getElem?_cons_succ, List.getElem?_cons_zero] at m0 m1
            have HLF := Lib.hid (rdr_left w8.drew lo hi r bs (q + j) g (HR8.out.below (below_drewN (Below.refl _ _) 1)))
            have hll : ((bs.drop q).drop j).length = bs.length - (q + j) := by rw [List.length_drop, List.length_drop]; omega
            rw [hll] at m0
            clear hblk hmb hmc hmc' hll
            go_wp2_with fail
            cases g
            all_goals
              refine PF.pf_begin (by kernel_rfl) ?_
              refine PF.pf_take0 0 (by kernel_rfl) rfl (fun _ _ _ _ _ h => h) (by kernel_rfl) (fun u => by go_simp; try rfl) ?_
              try simp only [Act.put, List.setIfInBounds_toArray, List.set_cons_zero, List.set_cons_succ]
              refine PF.pf_take0 1 (by kernel_rfl) rfl (fun _ _ _ _ _ h => h) (by kernel_rfl) (fun u => by go_simp; try rfl) ?_
              try simp only [Act.put, List.setIfInBounds_toArray, List.set_cons_zero, List.set_cons_succ]
              refine PF.pf_take0 2 (by kernel_rfl) rfl (fun _ _ _ _ _ h => h) (by kernel_rfl) (fun u => by go_simp; try rfl) ?_
              try simp only [Act.put, List.setIfInBounds_toArray, List.set_cons_zero, List.set_cons_succ]
              refine PF.pf_take0 3 (by kernel_rfl) rfl (fun _ _ _ _ _ h => h) (by kernel_rfl) (fun u => by go_simp; try rfl) ?_
              try simp only [Act.put, List.setIfInBounds_toArray, List.set_cons_zero, List.set_cons_succ]
              refine PF.pf_take0 4 (by kernel_rfl) rfl (fun _ _ _ _ _ h => h) (by kernel_rfl) (fun u => by go_simp; try rfl) ?_
              try simp only [Act.put, List.setIfInBounds_toArray, List.set_cons_zero, List.set_cons_succ]
              refine PF.pf_take0 5 (by kernel_rfl) rfl (fun _ _ _ _ _ h => h) (by kernel_rfl) (fun u => by go_simp; try rfl) ?_
              try simp only [Act.put, List.setIfInBounds_toArray, List.set_cons_zero, List.set_cons_succ]
              refine PF.pf_take0 6 (by kernel_rfl) rfl (fun _ _ _ _ _ h => h) (by kernel_rfl) (fun u => by go_simp; try rfl) ?_
              try simp only [Act.put, List.setIfInBounds_toArray, List.set_cons_zero, List.set_cons_succ]
              refine PF.pf_take0 7 (by kernel_rfl) rfl (fun _ _ _ _ _ h => h) (by kernel_rfl) (fun u => by go_simp; try rfl) ?_
              try simp only [Act.put, List.setIfInBounds_toArray, List.set_cons_zero, List.set_cons_succ]
              refine PF.pf_take0 8 (by kernel_rfl) rfl (fun _ _ _ _ _ h => h) (by kernel_rfl) (fun u => by go_simp; try rfl) ?_
              try simp only [Act.put, List.setIfInBounds_toArray, List.set_cons_zero, List.set_cons_succ]
              refine PF.pf_take0 9 (by kernel_rfl) rfl (fun _ _ _ _ _ h => h) (by kernel_rfl) (fun u => by go_simp; try rfl) ?_
              try simp only [Act.put, List.setIfInBounds_toArray, List.set_cons_zero, List.set_cons_succ]
              refine PF.pf_take0 11 (by kernel_rfl) rfl (fun _ _ _ _ _ h => h) (by kernel_rfl) (fun u => by go_simp; try rfl) ?_
              try simp only [Act.put, List.setIfInBounds_toArray, List.set_cons_zero, List.set_cons_succ]
              refine PF.pf_take0 12 (by kernel_rfl) rfl (fun _ _ _ _ _ h => h) (by kernel_rfl) (fun u => by go_simp; try rfl) ?_
              try simp only [Act.put, List.setIfInBounds_toArray, List.set_cons_zero, List.set_cons_succ]
              refine PF.pf_take0 13 (by kernel_rfl) rfl (fun _ _ _ _ _ h => h) (by kernel_rfl) (fun u => by go_simp; try rfl) ?_
              try simp only [Act.put, List.setIfInBounds_toArray, List.set_cons_zero, List.set_cons_succ]
              refine PF.pf_take1 14 (PF.Same (m) _) (by kernel_rfl) rfl (fun _ _ _ _ _ h => h) (by kernel_rfl) (PF.Same.refl _ _) (fun u hu => by have hcu := hu.cell; go_simp; try rfl) ?_
              try simp only [Act.put, List.setIfInBounds_toArray, List.set_cons_zero, List.set_cons_succ]
              refine PF.pf_take0 15 (by kernel_rfl) rfl (fun _ _ _ _ _ h => h) (by kernel_rfl) (fun u => by go_simp; try rfl) ?_
              try simp only [Act.put, List.setIfInBounds_toArray, List.set_cons_zero, List.set_cons_succ]
              refine PF.pf_exec 10 (by kernel_rfl) rfl (by kernel_rfl) (fun K hK => ?_)
              go_simp
              refine HLF.out.mono ?_
              rintro e w9 ⟨rfl, n9, hq9⟩
              have hb9 : Below w8.heap.size w8 w9 := by rw [hq9]; exact ((Below.refl _ _).drew).trans (below_drewN (Below.refl _ _) n9)
              clear hq9
              have HR9 := Lib.hid (HR8.out.below hb9)
              have HRF9 := Lib.hid (HRF8.out.below hb9)
              have HB9 := Lib.hid (below_call HB8.out (by have := HB8.out.size; exact this) hb9)
              have hs9 : hi ≤ w9.heap.size := Nat.le_trans hs8 hb9.size
              have hsm : w9.heap[m]? = w8.heap[m]? := hb9.block m hml
              have m9 := (hb9.cell (p := ⟨m, 1, none⟩) hml).trans m1
              refine hK _ _ (by repeat (first | exact PF.owes_nil | refine PF.owes_left ?_ | refine PF.owes_no (by decide +kernel) ?_ | refine PF.owes_yes (by first | exact hsm | rfl | assumption) ?_)) ?_
              clear hK K
              try simp only [Act.put, List.setIfInBounds_toArray, List.set_cons_zero, List.set_cons_succ]
              refine PF.pf_take0 16 (by kernel_rfl) rfl (fun _ _ _ _ _ h => h) (by kernel_rfl) (fun u => by go_simp; try rfl) ?_
              try simp only [Act.put, List.setIfInBounds_toArray, List.set_cons_zero, List.set_cons_succ]
              refine PF.pf_take0 17 (by kernel_rfl) rfl (fun _ _ _ _ _ h => h) (by kernel_rfl) (fun u => by go_simp; try rfl) ?_
              try simp only [Act.put, List.setIfInBounds_toArray, List.set_cons_zero, List.set_cons_succ]
              refine PF.pf_take0 18 (by kernel_rfl) rfl (fun _ _ _ _ _ h => h) (by kernel_rfl) (fun u => by go_simp; try rfl) ?_
              try simp only [Act.put, List.setIfInBounds_toArray, List.set_cons_zero, List.set_cons_succ]
              refine PF.pf_take0 19 (by kernel_rfl) rfl (fun _ _ _ _ _ h => h) (by kernel_rfl) (fun u => by go_simp; try rfl) ?_
              try simp only [Act.put, List.setIfInBounds_toArray, List.set_cons_zero, List.set_cons_succ]
              refine PF.pf_take0 22 (by kernel_rfl) rfl (fun _ _ _ _ _ h => h) (by kernel_rfl) (fun u => by go_simp; try rfl) ?_
              try simp only [Act.put, List.setIfInBounds_toArray, List.set_cons_zero, List.set_cons_succ]
              refine PF.pf_take0 23 (by kernel_rfl) rfl (fun _ _ _ _ _ h => h) (by kernel_rfl) (fun u => by go_simp; try rfl) ?_
              try simp only [Act.put, List.setIfInBounds_toArray, List.set_cons_zero, List.set_cons_succ]
              refine PF.pf_take0 24 (by kernel_rfl) rfl (fun _ _ _ _ _ h => h) (by kernel_rfl) (fun u => by go_simp; try rfl) ?_
              try simp only [Act.put, List.setIfInBounds_toArray, List.set_cons_zero, List.set_cons_succ]
              refine PF.pf_take1 25 (PF.Same (m) _) (by kernel_rfl) rfl (fun _ _ _ _ _ h => h) (by kernel_rfl) (PF.Same.refl _ _) (fun u hu => by have hcu := hu.cell; go_simp; try rfl) ?_
              try simp only [Act.put, List.setIfInBounds_toArray, List.set_cons_zero, List.set_cons_succ]
              refine PF.pf_exec 20 (by kernel_rfl) rfl (by kernel_rfl) (fun K hK => ?_)
              go_simp
              refine (rdr_err w9 lo hi r bs (q + j) _ HR9.out).mono ?_
              rintro e w10 ⟨rfl, rfl⟩
              refine hK _ _ (by repeat (first | exact PF.owes_nil | refine PF.owes_left ?_ | refine PF.owes_no (by decide +kernel) ?_ | refine PF.owes_yes (by first | rfl | assumption | go_simp) ?_)) ?_
              clear hK K
              try simp only [Act.put, List.setIfInBounds_toArray, List.set_cons_zero, List.set_cons_succ]
              refine PF.pf_take0 21 (by kernel_rfl) rfl (fun _ _ _ _ _ h => h) (by kernel_rfl) (fun u => by go_simp; try rfl) ?_
              try simp only [Act.put, List.setIfInBounds_toArray, List.set_cons_zero, List.set_cons_succ]
              refine PF.pf_take0 26 (by kernel_rfl) rfl (fun _ _ _ _ _ h => h) (by kernel_rfl) (fun u => by go_simp; try rfl) ?_
              try simp only [Act.put, List.setIfInBounds_toArray, List.set_cons_zero, List.set_cons_succ]
              refine PF.pf_take0 27 (by kernel_rfl) rfl (fun _ _ _ _ _ h => h) (by kernel_rfl) (fun u => by go_simp; try rfl) ?_
              try simp only [Act.put, List.setIfInBounds_toArray, List.set_cons_zero, List.set_cons_succ]
              refine PF.pf_done (by kernel_rfl) ?_
              go_wp2_with fail
              go_roundw
              case rel =>
                refine ⟨k + 1, by omega, by go_num, ⟨_, _, HR9.out, ?_⟩, HB9.out, hs9⟩
                rw [← List.drop_drop]
                exact HRF9.out
              case measure => simp [intOf]; omega
          · have ht : stepP p.k p.m.toInt (bs.drop q) f = ((stepP 2 0 (bs.drop q) f).1, [], (stepP 2 0 (bs.drop q) f).2.2.1, (stepP 2 0 (bs.drop q) f).2.2.2) := by rw [hk5, stepP_uint, ← stepP_bytes2 0 (bs.drop q) f]
            rw [← HT.out] at ht
            simp only [Prod.mk.injEq] at ht
            obtain ⟨hx, hs', hj, hg⟩ := ht
            have hl9 : (bs.drop q).length ≤ 140737488355328 := by rw [List.length_drop]; omega
            have HREF : Hid (∀ W, Rf hi W m (bs.drop q) f → hi ≤ W.heap.size → Calls Tryd.prog 26 #[.pointer (some ⟨m, 0, none⟩)] W fun e w' => e = .returned (.int .u64 (x : Int)) ∧ Rf hi w' m ((bs.drop q).drop j) g ∧ Mod (fun k => k = m) W w') := fun W h hb9 => by
              refine (runint_any hi W m (bs.drop q) f h hl9 hb9).mono ?_
              rintro e w' ⟨h1, h3, h4⟩
              rw [← hx] at h1
              rw [← hj, ← hg] at h3
              exact ⟨h1, h3, h4⟩
            have HSORT := fun W => HS W _ hk5
            subst hs'
            clear hx hj hg hk5 HS HT
            go_wp2_with fail
            refine (HSORT _).out.mono ?_
            rintro e w7 ⟨rfl, hb7⟩
            have HR7 := Lib.hid (HR6.out.below hb7)
            have HRF7 := Lib.hid (HRF6.out.below hb7)
            have HB7 := Lib.hid (below_call HB6.out (by have := HB6.out.size; exact this) hb7)
            have hs7 : hi ≤ w7.heap.size := Nat.le_trans hs6 hb7.size
            clear hb7 HR6 HRF6 HB6 c0 c1 c2' c3 HSORT
            obtain ⟨c0, c1, c2', c3⟩ := HCELL.out w7 HB7.out
            go_wp2_with fail
            refine (HREF.out w7 HRF7.out hs7).mono ?_
            rintro e w8 ⟨rfl, hr8, hm8⟩
            have HRF8 := Lib.hid hr8
            have HR8 := Lib.hid (HR7.out.mod hm8 fun k h1 h2 h3 => by have := HM.out; omega)
            have HB8 := Lib.hid (Below.mod HB7.out hm8 (by have := HB7.out.size; exact this) fun k hk => by have := HM.out; omega)
            have hs8 : hi ≤ w8.heap.size := Nat.le_trans hs7 hm8.size
            clear hr8 hm8 HR7 HRF7 HB7 HREF c0 c1 c2' c3
            have hx0 : True := trivial
            obtain ⟨AM, cm, hblk, hmb, hmc, hmc', hmi, _⟩ := HRF8.out
            have m0 := hblk.cell 0
            have m1 := hblk.cell 1
            have hml := hblk.lt
            simp only [List.getElem?_toArray, List.getElem?_cons_succ, List.getElem?_cons_zero] at m0 m1
            have HLF := Lib.hid (rdr_left w8.drew lo hi r bs (q + j) g (HR8.out.below (below_drewN (Below.refl _ _) 1)))
            have hll : ((bs.drop q).drop j).length = bs.length - (q + j) := by rw [List.length_drop, List.length_drop]; omega
            rw [hll] at m0
            clear hblk hmb hmc hmc' hll
            go_wp2_with fail
            cases g
            all_goals
              refine PF.pf_begin (by kernel_rfl) ?_
              refine PF.pf_take0 0 (by kernel_rfl) rfl (fun _ _ _ _ _ h => h) (by kernel_rfl) (fun u => by go_simp; try rfl) ?_
              try simp only [Act.put, List.setIfInBounds_toArray, List.set_cons_zero, List.set_cons_succ]
              refine PF.pf_take0 1 (by kernel_rfl) rfl (fun _ _ _ _ _ h => h) (by kernel_rfl) (fun u => by go_simp; try rfl) ?_
              try simp only [Act.put, List.setIfInBounds_toArray, List.set_cons_zero, List.set_cons_succ]
              refine PF.pf_take0 2 (by kernel_rfl) rfl (fun _ _ _ _ _ h => h) (by kernel_rfl) (fun u => by go_simp; try rfl) ?_
              try simp only [Act.put, List.setIfInBounds_toArray, List.set_cons_zero, List.set_cons_succ]
              refine PF.pf_take0 3 (by kernel_rfl) rfl (fun _ _ _ _ _ h => h) (by kernel_rfl) (fun u => by go_simp; try rfl) ?_
              try simp only [Act.put, List.setIfInBounds_toArray, List.set_cons_zero, List.set_cons_succ]
              refine PF.pf_take0 4 (by kernel_rfl) rfl (fun _ _ _ _ _ h => h) (by kernel_rfl) (fun u => by go_simp; try rfl) ?_
              try simp only [Act.put, List.setIfInBounds_toArray, List.set_cons_zero, List.set_cons_succ]
              refine PF.pf_take0 5 (by kernel_rfl) rfl (fun _ _ _ _ _ h => h) (by kernel_rfl) (fun u => by go_simp; try rfl) ?_
              try simp only [Act.put, List.setIfInBounds_toArray, List.set_cons_zero, List.set_cons_succ]
              refine PF.pf_take0 6 (by kernel_rfl) rfl (fun _ _ _ _ _ h => h) (by kernel_rfl) (fun u => by go_simp; try rfl) ?_
              try simp only [Act.put, List.setIfInBounds_toArray, List.set_cons_zero, List.set_cons_succ]
              refine PF.pf_take0 7 (by kernel_rfl) rfl (fun _ _ _ _ _ h => h) (by kernel_rfl) (fun u => by go_simp; try rfl) ?_
              try simp only [Act.put, List.setIfInBounds_toArray, List.set_cons_zero, List.set_cons_succ]
              refine PF.pf_take0 8 (by kernel_rfl) rfl (fun _ _ _ _ _ h => h) (by kernel_rfl) (fun u => by go_simp; try rfl) ?_
              try simp only [Act.put, List.setIfInBounds_toArray, List.set_cons_zero, List.set_cons_succ]
              refine PF.pf_take0 9 (by kernel_rfl) rfl (fun _ _ _ _ _ h => h) (by kernel_rfl) (fun u => by go_simp; try rfl) ?_
              try simp only [Act.put, List.setIfInBounds_toArray, List.set_cons_zero, List.set_cons_succ]
              refine PF.pf_take0 11 (by kernel_rfl) rfl (fun _ _ _ _ _ h => h) (by kernel_rfl) (fun u => by go_simp; try rfl) ?_
              try simp only [Act.put, List.setIfInBounds_toArray, List.set_cons_zero, List.set_cons_succ]
              refine PF.pf_take0 12 (by kernel_rfl) rfl (fun _ _ _ _ _ h => h) (by kernel_rfl) (fun u => by go_simp; try rfl) ?_
              try simp only [Act.put, List.setIfInBounds_toArray, List.set_cons_zero, List.set_cons_succ]
              refine PF.pf_take0 13 (by kernel_rfl) rfl (fun _ _ _ _ _ h => h) (by kernel_rfl) (fun u => by go_simp; try rfl) ?_
              try simp only [Act.put, List.setIfInBounds_toArray, List.set_cons_zero, List.set_cons_succ]
              refine PF.pf_take1 14 (PF.Same (m) _) (by kernel_rfl) rfl (fun _ _ _ _ _ h => h) (by kernel_rfl) (PF.Same.refl _ _) (fun u hu => by have hcu := hu.cell; go_simp; try rfl) ?_
              try simp only [Act.put, List.setIfInBounds_toArray, List.set_cons_zero, List.set_cons_succ]
              refine PF.pf_take0 15 (by kernel_rfl) rfl (fun _ _ _ _ _ h => h) (by kernel_rfl) (fun u => by go_simp; try rfl) ?_
              try simp only [Act.put, List.setIfInBounds_toArray, List.set_cons_zero, List.set_cons_succ]
              refine PF.pf_exec 10 (by kernel_rfl) rfl (by kernel_rfl) (fun K hK => ?_)
              go_simp
              refine HLF.out.mono ?_
              rintro e w9 ⟨rfl, n9, hq9⟩
              have hb9 : Below w8.heap.size w8 w9 := by rw [hq9]; exact ((Below.refl _ _).drew).trans (below_drewN (Below.refl _ _) n9)
              clear hq9
              have HR9 := Lib.hid (HR8.out.below hb9)
              have HRF9 := Lib.hid (HRF8.out.below hb9)
              have HB9 := Lib.hid (below_call HB8.out (by have := HB8.out.size; exact this) hb9)
              have hs9 : hi ≤ w9.heap.size := Nat.le_trans hs8 hb9.size
              have hsm : w9.heap[m]? = w8.heap[m]? := hb9.block m hml
              have m9 := (hb9.cell (p := ⟨m, 1, none⟩) hml).trans m1
              refine hK _ _ (by repeat (first | exact PF.owes_nil | refine PF.owes_left ?_ | refine PF.owes_no (by decide +kernel) ?_ | refine PF.owes_yes (by first | exact hsm | rfl | assumption) ?_)) ?_
              clear hK K
              try simp only [Act.put, List.setIfInBounds_toArray, List.set_cons_zero, List.set_cons_succ]
              refine PF.pf_take0 16 (by kernel_rfl) rfl (fun _ _ _ _ _ h => h) (by kernel_rfl) (fun u => by go_simp; try rfl) ?_
              try simp only [Act.put, List.setIfInBounds_toArray, List.set_cons_zero, List.set_cons_succ]
              refine PF.pf_take0 17 (by kernel_rfl) rfl (fun _ _ _ _ _ h => h) (by kernel_rfl) (fun u => by go_simp; try rfl) ?_
              try simp only [Act.put, List.setIfInBounds_toArray, List.set_cons_zero, List.set_cons_succ]
              refine PF.pf_take0 18 (by kernel_rfl) rfl (fun _ _ _ _ _ h => h) (by kernel_rfl) (fun u => by go_simp; try rfl) ?_
              try simp only [Act.put, List.setIfInBounds_toArray, List.set_cons_zero, List.set_cons_succ]
              refine PF.pf_take0 19 (by kernel_rfl) rfl (fun _ _ _ _ _ h => h) (by kernel_rfl) (fun u => by go_simp; try rfl) ?_
              try simp only [Act.put, List.setIfInBounds_toArray, List.set_cons_zero, List.set_cons_succ]
              refine PF.pf_take0 22 (by kernel_rfl) rfl (fun _ _ _ _ _ h => h) (by kernel_rfl) (fun u => by go_simp; try rfl) ?_
              try simp only [Act.put, List.setIfInBounds_toArray, List.set_cons_zero, List.set_cons_succ]
              refine PF.pf_take0 23 (by kernel_rfl) rfl (fun _ _ _ _ _ h => h) (by kernel_rfl) (fun u => by go_simp; try rfl) ?_
              try simp only [Act.put, List.setIfInBounds_toArray, List.set_cons_zero, List.set_cons_succ]
              refine PF.pf_take0 24 (by kernel_rfl) rfl (fun _ _ _ _ _ h => h) (by kernel_rfl) (fun u => by go_simp; try rfl) ?_
              try simp only [Act.put, List.setIfInBounds_toArray, List.set_cons_zero, List.set_cons_succ]
              refine PF.pf_take1 25 (PF.Same (m) _) (by kernel_rfl) rfl (fun _ _ _ _ _ h => h) (by kernel_rfl) (PF.Same.refl _ _) (fun u hu => by have hcu := hu.cell; go_simp; try rfl) ?_
              try simp only [Act.put, List.setIfInBounds_toArray, List.set_cons_zero, List.set_cons_succ]
              refine PF.pf_exec 20 (by kernel_rfl) rfl (by kernel_rfl) (fun K hK => ?_)
              go_simp
              refine (rdr_err w9 lo hi r bs (q + j) _ HR9.out).mono ?_
              rintro e w10 ⟨rfl, rfl⟩
              refine hK _ _ (by repeat (first | exact PF.owes_nil | refine PF.owes_left ?_ | refine PF.owes_no (by decide +kernel) ?_ | refine PF.owes_yes (by first | rfl | assumption | go_simp) ?_)) ?_
              clear hK K
              try simp only [Act.put, List.setIfInBounds_toArray, List.set_cons_zero, List.set_cons_succ]
              refine PF.pf_take0 21 (by kernel_rfl) rfl (fun _ _ _ _ _ h => h) (by kernel_rfl) (fun u => by go_simp; try rfl) ?_
              try simp only [Act.put, List.setIfInBounds_toArray, List.set_cons_zero, List.set_cons_succ]
              refine PF.pf_take0 26 (by kernel_rfl) rfl (fun _ _ _ _ _ h => h) (by kernel_rfl) (fun u => by go_simp; try rfl) ?_
              try simp only [Act.put, List.setIfInBounds_toArray, List.set_cons_zero, List.set_cons_succ]
              refine PF.pf_take0 27 (by kernel_rfl) rfl (fun _ _ _ _ _ h => h) (by kernel_rfl) (fun u => by go_simp; try rfl) ?_
              try simp only [Act.put, List.setIfInBounds_toArray, List.set_cons_zero, List.set_cons_succ]
              refine PF.pf_done (by kernel_rfl) ?_
              go_wp2_with fail
              go_roundw
              case rel =>
                refine ⟨k + 1, by omega, by go_num, ⟨_, _, HR9.out, ?_⟩, HB9.out, hs9⟩
                rw [← List.drop_drop]
                exact HRF9.out
              case measure => simp [intOf]; omega
          · have ht : stepP p.k p.m.toInt (bs.drop q) f = (0, (stepP 3 p.m.toInt (bs.drop q) f).2.1, (stepP 3 p.m.toInt (bs.drop q) f).2.2.1, (stepP 3 p.m.toInt (bs.drop q) f).2.2.2) := by rw [hk5, ← stepP_num34 (.inl rfl) p.m.toInt (bs.drop q) f]
            rw [← HT.out] at ht
            simp only [Prod.mk.injEq] at ht
            obtain ⟨hx, hs', hj, hg⟩ := ht
            have hl9 : (bs.drop q).length ≤ 140737488355328 := by rw [List.length_drop]; omega
            have HREF : Hid (∀ W, Rf hi W m (bs.drop q) f → hi ≤ W.heap.size → Calls Tryd.prog 27 #[.pointer (some ⟨m, 0, none⟩), .int .i64 p.m.toInt] W fun e w' => e = .returned (.string ⟨s.toArray⟩) ∧ Rf hi w' m ((bs.drop q).drop j) g ∧ Mod (fun k => k = m) W w') := fun W h hb9 => by
              refine (rtextr_any hi W m (bs.drop q) f p.m.toInt hmost1 hmost2 h hl9 hb9).mono ?_
              rintro e w' ⟨h1, h3, h4⟩
              rw [← hs'] at h1
              rw [← hj, ← hg] at h3
              exact ⟨h1, h3, h4⟩
            have HSORT := fun W => HS W _ hk5
            subst hx
            clear hs' hj hg hk5 HS HT
            go_wp2_with fail
            refine (HSORT _).out.mono ?_
            rintro e w7 ⟨rfl, hb7⟩
            have HR7 := Lib.hid (HR6.out.below hb7)
            have HRF7 := Lib.hid (HRF6.out.below hb7)
            have HB7 := Lib.hid (below_call HB6.out (by have := HB6.out.size; exact this) hb7)
            have hs7 : hi ≤ w7.heap.size := Nat.le_trans hs6 hb7.size
            clear hb7 HR6 HRF6 HB6 c0 c1 c2' c3 HSORT
            obtain ⟨c0, c1, c2', c3⟩ := HCELL.out w7 HB7.out
            go_wp2_with fail
            refine (HREF.out w7 HRF7.out hs7).mono ?_
            rintro e w8 ⟨rfl, hr8, hm8⟩
            have HRF8 := Lib.hid hr8
            have HR8 := Lib.hid (HR7.out.mod hm8 fun k h1 h2 h3 => by have := HM.out; omega)
            have HB8 := Lib.hid (Below.mod HB7.out hm8 (by have := HB7.out.size; exact this) fun k hk => by have := HM.out; omega)
            have hs8 : hi ≤ w8.heap.size := Nat.le_trans hs7 hm8.size
            clear hr8 hm8 HR7 HRF7 HB7 HREF c0 c1 c2' c3
            have hx0 : True := trivial
            obtain ⟨AM, cm, hblk, hmb, hmc, hmc', hmi, _⟩ := HRF8.out
            have m0 := hblk.cell 0
            have m1 := hblk.cell 1
            have hml := hblk.lt
            simp only [List.getElem?_toArray, List.getElem?_cons_succ, List.getElem?_cons_zero] at m0 m1
            have HLF := Lib.hid (rdr_left w8.drew lo hi r bs (q + j) g (HR8.out.below (below_drewN (Below.refl _ _) 1)))
            have hll : ((bs.drop q).drop j).length = bs.length - (q + j) := by rw [List.length_drop, List.length_drop]; omega
            rw [hll] at m0
            clear hblk hmb hmc hmc' hll
            go_wp2_with fail
            cases g
            all_goals
              refine PF.pf_begin (by kernel_rfl) ?_
              refine PF.pf_take0 0 (by kernel_rfl) rfl (fun _ _ _ _ _ h => h) (by kernel_rfl) (fun u => by go_simp; try rfl) ?_
              try simp only [Act.put, List.setIfInBounds_toArray, List.set_cons_zero, List.set_cons_succ]
              refine PF.pf_take0 1 (by kernel_rfl) rfl (fun _ _ _ _ _ h => h) (by kernel_rfl) (fun u => by go_simp; try rfl) ?_
              try simp only [Act.put, List.setIfInBounds_toArray, List.set_cons_zero, List.set_cons_succ]
              refine PF.pf_take0 2 (by kernel_rfl) rfl (fun _ _ _ _ _ h => h) (by kernel_rfl) (fun u => by go_simp; try rfl) ?_
              try simp only [Act.put, List.setIfInBounds_toArray, List.set_cons_zero, List.set_cons_succ]
              refine PF.pf_take0 3 (by kernel_rfl) rfl (fun _ _ _ _ _ h => h) (by kernel_rfl) (fun u => by go_simp; try rfl) ?_
              try simp only [Act.put, List.setIfInBounds_toArray, List.set_cons_zero, List.set_cons_succ]
              refine PF.pf_take0 4 (by kernel_rfl) rfl (fun _ _ _ _ _ h => h) (by kernel_rfl) (fun u => by go_simp; try rfl) ?_
              try simp only [Act.put, List.setIfInBounds_toArray, List.set_cons_zero, List.set_cons_succ]
              refine PF.pf_take0 5 (by kernel_rfl) rfl (fun _ _ _ _ _ h => h) (by kernel_rfl) (fun u => by go_simp; try rfl) ?_
              try simp only [Act.put, List.setIfInBounds_toArray, List.set_cons_zero, List.set_cons_succ]
              refine PF.pf_take0 6 (by kernel_rfl) rfl (fun _ _ _ _ _ h => h) (by kernel_rfl) (fun u => by go_simp; try rfl) ?_
              try simp only [Act.put, List.setIfInBounds_toArray, List.set_cons_zero, List.set_cons_succ]
              refine PF.pf_take0 7 (by kernel_rfl) rfl (fun _ _ _ _ _ h => h) (by kernel_rfl) (fun u => by go_simp; try rfl) ?_
              try simp only [Act.put, List.setIfInBounds_toArray, List.set_cons_zero, List.set_cons_succ]
              refine PF.pf_take0 8 (by kernel_rfl) rfl (fun _ _ _ _ _ h => h) (by kernel_rfl) (fun u => by go_simp; try rfl) ?_
              try simp only [Act.put, List.setIfInBounds_toArray, List.set_cons_zero, List.set_cons_succ]
              refine PF.pf_take0 9 (by kernel_rfl) rfl (fun _ _ _ _ _ h => h) (by kernel_rfl) (fun u => by go_simp; try rfl) ?_
              try simp only [Act.put, List.setIfInBounds_toArray, List.set_cons_zero, List.set_cons_succ]
              refine PF.pf_take0 11 (by kernel_rfl) rfl (fun _ _ _ _ _ h => h) (by kernel_rfl) (fun u => by go_simp; try rfl) ?_
              try simp only [Act.put, List.setIfInBounds_toArray, List.set_cons_zero, List.set_cons_succ]
              refine PF.pf_take0 12 (by kernel_rfl) rfl (fun _ _ _ _ _ h => h) (by kernel_rfl) (fun u => by go_simp; try rfl) ?_
              try simp only [Act.put, List.setIfInBounds_toArray, List.set_cons_zero, List.set_cons_succ]
              refine PF.pf_take0 13 (by kernel_rfl) rfl (fun _ _ _ _ _ h => h) (by kernel_rfl) (fun u => by go_simp; try rfl) ?_
              try simp only [Act.put, List.setIfInBounds_toArray, List.set_cons_zero, List.set_cons_succ]
              refine PF.pf_take1 14 (PF.Same (m) _) (by kernel_rfl) rfl (fun _ _ _ _ _ h => h) (by kernel_rfl) (PF.Same.refl _ _) (fun u hu => by have hcu := hu.cell; go_simp; try rfl) ?_
              try simp only [Act.put, List.setIfInBounds_toArray, List.set_cons_zero, List.set_cons_succ]
              refine PF.pf_take0 15 (by kernel_rfl) rfl (fun _ _ _ _ _ h => h) (by kernel_rfl) (fun u => by go_simp; try rfl) ?_
              try simp only [Act.put, List.setIfInBounds_toArray, List.set_cons_zero, List.set_cons_succ]
              refine PF.pf_exec 10 (by kernel_rfl) rfl (by kernel_rfl) (fun K hK => ?_)
              go_simp
              refine HLF.out.mono ?_
              rintro e w9 ⟨rfl, n9, hq9⟩
              have hb9 : Below w8.heap.size w8 w9 := by rw [hq9]; exact ((Below.refl _ _).drew).trans (below_drewN (Below.refl _ _) n9)
              clear hq9
              have HR9 := Lib.hid (HR8.out.below hb9)
              have HRF9 := Lib.hid (HRF8.out.below hb9)
              have HB9 := Lib.hid (below_call HB8.out (by have := HB8.out.size; exact this) hb9)
              have hs9 : hi ≤ w9.heap.size := Nat.le_trans hs8 hb9.size
              have hsm : w9.heap[m]? = w8.heap[m]? := hb9.block m hml
              have m9 := (hb9.cell (p := ⟨m, 1, none⟩) hml).trans m1
              refine hK _ _ (by repeat (first | exact PF.owes_nil | refine PF.owes_left ?_ | refine PF.owes_no (by decide +kernel) ?_ | refine PF.owes_yes (by first | exact hsm | rfl | assumption) ?_)) ?_
              clear hK K
              try simp only [Act.put, List.setIfInBounds_toArray, List.set_cons_zero, List.set_cons_succ]
              refine PF.pf_take0 16 (by kernel_rfl) rfl (fun _ _ _ _ _ h => h) (by kernel_rfl) (fun u => by go_simp; try rfl) ?_
              try simp only [Act.put, List.setIfInBounds_toArray, List.set_cons_zero, List.set_cons_succ]
              refine PF.pf_take0 17 (by kernel_rfl) rfl (fun _ _ _ _ _ h => h) (by kernel_rfl) (fun u => by go_simp; try rfl) ?_
              try simp only [Act.put, List.setIfInBounds_toArray, List.set_cons_zero, List.set_cons_succ]
              refine PF.pf_take0 18 (by kernel_rfl) rfl (fun _ _ _ _ _ h => h) (by kernel_rfl) (fun u => by go_simp; try rfl) ?_
              try simp only [Act.put, List.setIfInBounds_toArray, List.set_cons_zero, List.set_cons_succ]
              refine PF.pf_take0 19 (by kernel_rfl) rfl (fun _ _ _ _ _ h => h) (by kernel_rfl) (fun u => by go_simp; try rfl) ?_
              try simp only [Act.put, List.setIfInBounds_toArray, List.set_cons_zero, List.set_cons_succ]
              refine PF.pf_take0 22 (by kernel_rfl) rfl (fun _ _ _ _ _ h => h) (by kernel_rfl) (fun u => by go_simp; try rfl) ?_
              try simp only [Act.put, List.setIfInBounds_toArray, List.set_cons_zero, List.set_cons_succ]
              refine PF.pf_take0 23 (by kernel_rfl) rfl (fun _ _ _ _ _ h => h) (by kernel_rfl) (fun u => by go_simp; try rfl) ?_
              try simp only [Act.put, List.setIfInBounds_toArray, List.set_cons_zero, List.set_cons_succ]
              refine PF.pf_take0 24 (by kernel_rfl) rfl (fun _ _ _ _ _ h => h) (by kernel_rfl) (fun u => by go_simp; try rfl) ?_
              try simp only [Act.put, List.setIfInBounds_toArray, List.set_cons_zero, List.set_cons_succ]
              refine PF.pf_take1 25 (PF.Same (m) _) (by kernel_rfl) rfl (fun _ _ _ _ _ h => h) (by kernel_rfl) (PF.Same.refl _ _) (fun u hu => by have hcu := hu.cell; go_simp; try rfl) ?_
              try simp only [Act.put, List.setIfInBounds_toArray, List.set_cons_zero, List.set_cons_succ]
              refine PF.pf_exec 20 (by kernel_rfl) rfl (by kernel_rfl) (fun K hK => ?_)
              go_simp
              refine (rdr_err w9 lo hi r bs (q + j) _ HR9.out).mono ?_
              rintro e w10 ⟨rfl, rfl⟩
              refine hK _ _ (by repeat (first | exact PF.owes_nil | refine PF.owes_left ?_ | refine PF.owes_no (by decide +kernel) ?_ | refine PF.owes_yes (by first | rfl | assumption | go_simp) ?_)) ?_
              clear hK K
              try simp only [Act.put, List.setIfInBounds_toArray, List.set_cons_zero, List.set_cons_succ]
              refine PF.pf_take0 21 (by kernel_rfl) rfl (fun _ _ _ _ _ h => h) (by kernel_rfl) (fun u => by go_simp; try rfl) ?_
              try simp only [Act.put, List.setIfInBounds_toArray, List.set_cons_zero, List.set_cons_succ]
              refine PF.pf_take0 26 (by kernel_rfl) rfl (fun _ _ _ _ _ h => h) (by kernel_rfl) (fun u => by go_simp; try rfl) ?_
              try simp only [Act.put, List.setIfInBounds_toArray, List.set_cons_zero, List.set_cons_succ]
              refine PF.pf_take0 27 (by kernel_rfl) rfl (fun _ _ _ _ _ h => h) (by kernel_rfl) (fun u => by go_simp; try rfl) ?_
              try simp only [Act.put, List.setIfInBounds_toArray, List.set_cons_zero, List.set_cons_succ]
              refine PF.pf_done (by kernel_rfl) ?_
              go_wp2_with fail
              go_roundw
              case rel =>
                refine ⟨k + 1, by omega, by go_num, ⟨_, _, HR9.out, ?_⟩, HB9.out, hs9⟩
                rw [← List.drop_drop]
                exact HRF9.out
              case measure => simp [intOf]; omega
          · have ht : stepP p.k p.m.toInt (bs.drop q) f = (0, (stepP 4 p.m.toInt (bs.drop q) f).2.1, (stepP 4 p.m.toInt (bs.drop q) f).2.2.1, (stepP 4 p.m.toInt (bs.drop q) f).2.2.2) := by rw [hk5, ← stepP_num34 (.inr rfl) p.m.toInt (bs.drop q) f]
            rw [← HT.out] at ht
            simp only [Prod.mk.injEq] at ht
            obtain ⟨hx, hs', hj, hg⟩ := ht
            have hl9 : (bs.drop q).length ≤ 140737488355328 := by rw [List.length_drop]; omega
            have HREF : Hid (∀ W, Rf hi W m (bs.drop q) f → hi ≤ W.heap.size → Calls Tryd.prog 28 #[.pointer (some ⟨m, 0, none⟩), .int .i64 p.m.toInt] W fun e w' => (∃ A' c', e = .returned (.slice A' s.length c') ∧ Bytes w' A' s) ∧ Rf hi w' m ((bs.drop q).drop j) g ∧ Mod (fun k => k = m) W w') := fun W h hb9 => by
              refine (rraw_any hi W m (bs.drop q) f p.m.toInt hmost1 hmost2 h hl9 hb9).mono ?_
              rintro e w' ⟨⟨A', c', h1, h2, _⟩, h3, h4⟩
              rw [← hs'] at h1 h2
              rw [← hj, ← hg] at h3
              exact ⟨⟨A', c', h1, h2⟩, h3, h4⟩
            have HSORT := fun W => HS W _ hk5
            subst hx
            clear hs' hj hg hk5 HS HT
            go_wp2_with fail
            refine (HSORT _).out.mono ?_
            rintro e w7 ⟨rfl, hb7⟩
            have HR7 := Lib.hid (HR6.out.below hb7)
            have HRF7 := Lib.hid (HRF6.out.below hb7)
            have HB7 := Lib.hid (below_call HB6.out (by have := HB6.out.size; exact this) hb7)
            have hs7 : hi ≤ w7.heap.size := Nat.le_trans hs6 hb7.size
            clear hb7 HR6 HRF6 HB6 c0 c1 c2' c3 HSORT
            obtain ⟨c0, c1, c2', c3⟩ := HCELL.out w7 HB7.out
            go_wp2_with fail
            refine (HREF.out w7 HRF7.out hs7).mono ?_
            rintro e w8 ⟨⟨A8, c8, rfl, hB8⟩, hr8, hm8⟩
            have HRF8 := Lib.hid hr8
            have HR8 := Lib.hid (HR7.out.mod hm8 fun k h1 h2 h3 => by have := HM.out; omega)
            have HB8 := Lib.hid (Below.mod HB7.out hm8 (by have := HB7.out.size; exact this) fun k hk => by have := HM.out; omega)
            have hs8 : hi ≤ w8.heap.size := Nat.le_trans hs7 hm8.size
            clear hr8 hm8 HR7 HRF7 HB7 HREF c0 c1 c2' c3
            have hcv8 := conv_str (P := Tryd.prog) (w := w8) (n := s.length) (c := c8) Tryd.underlying27 Tryd.underlying5 Tryd.underlying9 hB8 rfl
            clear hB8
            obtain ⟨AM, cm, hblk, hmb, hmc, hmc', hmi, _⟩ := HRF8.out
            have m0 := hblk.cell 0
            have m1 := hblk.cell 1
            have hml := hblk.lt
            simp only [List.getElem?_toArray, List.getElem?_cons_succ, List.getElem?_cons_zero] at m0 m1
            have HLF := Lib.hid (rdr_left w8.drew lo hi r bs (q + j) g (HR8.out.below (below_drewN (Below.refl _ _) 1)))
            have hll : ((bs.drop q).drop j).length = bs.length - (q + j) := by rw [List.length_drop, List.length_drop]; omega
            rw [hll] at m0
            clear hblk hmb hmc hmc' hll
            go_wp2_with fail
            cases g
            all_goals
              refine PF.pf_begin (by kernel_rfl) ?_
              refine PF.pf_take0 0 (by kernel_rfl) rfl (fun _ _ _ _ _ h => h) (by kernel_rfl) (fun u => by go_simp; try rfl) ?_
              try simp only [Act.put, List.setIfInBounds_toArray, List.set_cons_zero, List.set_cons_succ]
              refine PF.pf_take0 1 (by kernel_rfl) rfl (fun _ _ _ _ _ h => h) (by kernel_rfl) (fun u => by go_simp; try rfl) ?_
              try simp only [Act.put, List.setIfInBounds_toArray, List.set_cons_zero, List.set_cons_succ]
              refine PF.pf_take0 2 (by kernel_rfl) rfl (fun _ _ _ _ _ h => h) (by kernel_rfl) (fun u => by go_simp; try rfl) ?_
              try simp only [Act.put, List.setIfInBounds_toArray, List.set_cons_zero, List.set_cons_succ]
              refine PF.pf_take0 3 (by kernel_rfl) rfl (fun _ _ _ _ _ h => h) (by kernel_rfl) (fun u => by go_simp; try rfl) ?_
              try simp only [Act.put, List.setIfInBounds_toArray, List.set_cons_zero, List.set_cons_succ]
              refine PF.pf_take0 4 (by kernel_rfl) rfl (fun _ _ _ _ _ h => h) (by kernel_rfl) (fun u => by go_simp; try rfl) ?_
              try simp only [Act.put, List.setIfInBounds_toArray, List.set_cons_zero, List.set_cons_succ]
              refine PF.pf_take0 5 (by kernel_rfl) rfl (fun _ _ _ _ _ h => h) (by kernel_rfl) (fun u => by go_simp; try rfl) ?_
              try simp only [Act.put, List.setIfInBounds_toArray, List.set_cons_zero, List.set_cons_succ]
              refine PF.pf_take0 6 (by kernel_rfl) rfl (fun _ _ _ _ _ h => h) (by kernel_rfl) (fun u => by go_simp; try rfl) ?_
              try simp only [Act.put, List.setIfInBounds_toArray, List.set_cons_zero, List.set_cons_succ]
              refine PF.pf_take0 7 (by kernel_rfl) rfl (fun _ _ _ _ _ h => h) (by kernel_rfl) (fun u => by go_simp; try rfl) ?_
              try simp only [Act.put, List.setIfInBounds_toArray, List.set_cons_zero, List.set_cons_succ]
              refine PF.pf_take0 8 (by kernel_rfl) rfl (fun _ _ _ _ _ h => h) (by kernel_rfl) (fun u => by go_simp; try rfl) ?_
              try simp only [Act.put, List.setIfInBounds_toArray, List.set_cons_zero, List.set_cons_succ]
              refine PF.pf_take0 9 (by kernel_rfl) rfl (fun _ _ _ _ _ h => h) (by kernel_rfl) (fun u => by go_simp; try rfl) ?_
              try simp only [Act.put, List.setIfInBounds_toArray, List.set_cons_zero, List.set_cons_succ]
              refine PF.pf_take0 11 (by kernel_rfl) rfl (fun _ _ _ _ _ h => h) (by kernel_rfl) (fun u => by go_simp; try rfl) ?_
              try simp only [Act.put, List.setIfInBounds_toArray, List.set_cons_zero, List.set_cons_succ]
              refine PF.pf_take0 12 (by kernel_rfl) rfl (fun _ _ _ _ _ h => h) (by kernel_rfl) (fun u => by go_simp; try rfl) ?_
              try simp only [Act.put, List.setIfInBounds_toArray, List.set_cons_zero, List.set_cons_succ]
              refine PF.pf_take0 13 (by kernel_rfl) rfl (fun _ _ _ _ _ h => h) (by kernel_rfl) (fun u => by go_simp; try rfl) ?_
              try simp only [Act.put, List.setIfInBounds_toArray, List.set_cons_zero, List.set_cons_succ]
              refine PF.pf_take1 14 (PF.Same (m) _) (by kernel_rfl) rfl (fun _ _ _ _ _ h => h) (by kernel_rfl) (PF.Same.refl _ _) (fun u hu => by have hcu := hu.cell; go_simp; try rfl) ?_
              try simp only [Act.put, List.setIfInBounds_toArray, List.set_cons_zero, List.set_cons_succ]
              refine PF.pf_take0 15 (by kernel_rfl) rfl (fun _ _ _ _ _ h => h) (by kernel_rfl) (fun u => by go_simp; try rfl) ?_
              try simp only [Act.put, List.setIfInBounds_toArray, List.set_cons_zero, List.set_cons_succ]
              refine PF.pf_exec 10 (by kernel_rfl) rfl (by kernel_rfl) (fun K hK => ?_)
              go_simp
              refine HLF.out.mono ?_
              rintro e w9 ⟨rfl, n9, hq9⟩
              have hb9 : Below w8.heap.size w8 w9 := by rw [hq9]; exact ((Below.refl _ _).drew).trans (below_drewN (Below.refl _ _) n9)
              clear hq9
              have HR9 := Lib.hid (HR8.out.below hb9)
              have HRF9 := Lib.hid (HRF8.out.below hb9)
              have HB9 := Lib.hid (below_call HB8.out (by have := HB8.out.size; exact this) hb9)
              have hs9 : hi ≤ w9.heap.size := Nat.le_trans hs8 hb9.size
              have hsm : w9.heap[m]? = w8.heap[m]? := hb9.block m hml
              have m9 := (hb9.cell (p := ⟨m, 1, none⟩) hml).trans m1
              refine hK _ _ (by repeat (first | exact PF.owes_nil | refine PF.owes_left ?_ | refine PF.owes_no (by decide +kernel) ?_ | refine PF.owes_yes (by first | exact hsm | rfl | assumption) ?_)) ?_
              clear hK K
              try simp only [Act.put, List.setIfInBounds_toArray, List.set_cons_zero, List.set_cons_succ]
              refine PF.pf_take0 16 (by kernel_rfl) rfl (fun _ _ _ _ _ h => h) (by kernel_rfl) (fun u => by go_simp; try rfl) ?_
              try simp only [Act.put, List.setIfInBounds_toArray, List.set_cons_zero, List.set_cons_succ]
              refine PF.pf_take0 17 (by kernel_rfl) rfl (fun _ _ _ _ _ h => h) (by kernel_rfl) (fun u => by go_simp; try rfl) ?_
              try simp only [Act.put, List.setIfInBounds_toArray, List.set_cons_zero, List.set_cons_succ]
              refine PF.pf_take0 18 (by kernel_rfl) rfl (fun _ _ _ _ _ h => h) (by kernel_rfl) (fun u => by go_simp; try rfl) ?_
              try simp only [Act.put, List.setIfInBounds_toArray, List.set_cons_zero, List.set_cons_succ]
              refine PF.pf_take0 19 (by kernel_rfl) rfl (fun _ _ _ _ _ h => h) (by kernel_rfl) (fun u => by go_simp; try rfl) ?_
              try simp only [Act.put, List.setIfInBounds_toArray, List.set_cons_zero, List.set_cons_succ]
              refine PF.pf_take0 22 (by kernel_rfl) rfl (fun _ _ _ _ _ h => h) (by kernel_rfl) (fun u => by go_simp; try rfl) ?_
              try simp only [Act.put, List.setIfInBounds_toArray, List.set_cons_zero, List.set_cons_succ]
              refine PF.pf_take0 23 (by kernel_rfl) rfl (fun _ _ _ _ _ h => h) (by kernel_rfl) (fun u => by go_simp; try rfl) ?_
              try simp only [Act.put, List.setIfInBounds_toArray, List.set_cons_zero, List.set_cons_succ]
              refine PF.pf_take0 24 (by kernel_rfl) rfl (fun _ _ _ _ _ h => h) (by kernel_rfl) (fun u => by go_simp; try rfl) ?_
              try simp only [Act.put, List.setIfInBounds_toArray, List.set_cons_zero, List.set_cons_succ]
              refine PF.pf_take1 25 (PF.Same (m) _) (by kernel_rfl) rfl (fun _ _ _ _ _ h => h) (by kernel_rfl) (PF.Same.refl _ _) (fun u hu => by have hcu := hu.cell; go_simp; try rfl) ?_
              try simp only [Act.put, List.setIfInBounds_toArray, List.set_cons_zero, List.set_cons_succ]
              refine PF.pf_exec 20 (by kernel_rfl) rfl (by kernel_rfl) (fun K hK => ?_)
              go_simp
              refine (rdr_err w9 lo hi r bs (q + j) _ HR9.out).mono ?_
              rintro e w10 ⟨rfl, rfl⟩
              refine hK _ _ (by repeat (first | exact PF.owes_nil | refine PF.owes_left ?_ | refine PF.owes_no (by decide +kernel) ?_ | refine PF.owes_yes (by first | rfl | assumption | go_simp) ?_)) ?_
              clear hK K
              try simp only [Act.put, List.setIfInBounds_toArray, List.set_cons_zero, List.set_cons_succ]
              refine PF.pf_take0 21 (by kernel_rfl) rfl (fun _ _ _ _ _ h => h) (by kernel_rfl) (fun u => by go_simp; try rfl) ?_
              try simp only [Act.put, List.setIfInBounds_toArray, List.set_cons_zero, List.set_cons_succ]
              refine PF.pf_take0 26 (by kernel_rfl) rfl (fun _ _ _ _ _ h => h) (by kernel_rfl) (fun u => by go_simp; try rfl) ?_
              try simp only [Act.put, List.setIfInBounds_toArray, List.set_cons_zero, List.set_cons_succ]
              refine PF.pf_take0 27 (by kernel_rfl) rfl (fun _ _ _ _ _ h => h) (by kernel_rfl) (fun u => by go_simp; try rfl) ?_
              try simp only [Act.put, List.setIfInBounds_toArray, List.set_cons_zero, List.set_cons_succ]
              refine PF.pf_done (by kernel_rfl) ?_
              go_wp2_with fail
              go_roundw
              case rel =>
                refine ⟨k + 1, by omega, by go_num, ⟨_, _, HR9.out, ?_⟩, HB9.out, hs9⟩
                rw [← List.drop_drop]
                exact HRF9.out
              case measure => simp [intOf]; omega
        · skip
          have hkn : k = l.length := by omega
          clear hk hlt
          subst hkn
          have hend := rdr_end wr lo hi r bs q f HR.out
          have HE := Lib.hid hend
          clear hend
          have hdd : decide (0 < (bs.drop q).length) = decide (q < bs.length) := by
            rw [List.length_drop, decide_eq_decide]
            omega
          have HDD := Lib.hid hdd
          clear hdd
          obtain ⟨d, hd⟩ : ∃ d : Bool, d = (f || decide (q < bs.length)) := ⟨_, rfl⟩
          rw [← hd] at HE
          have HDE := Lib.hid hd
          clear hd
          cases d
          all_goals
            go_wp2_with fail
            refine HE.out.mono ?_
            rintro e w6 ⟨rfl, _, hm6⟩
            have HRF6 := Lib.hid (HRF.out.mod hm6 fun k h1 h2 h3 => by have := h3.2; omega)
            have HB6 := Lib.hid (Below.mod HB.out hm6 hBs fun k hk => by have := hk.1; omega)
            have hs6 : hi ≤ w6.heap.size := Nat.le_trans hs hm6.size
            have hre := rend_any hi w6 m (bs.drop q) f HRF6.out
            rw [HDD.out, ← HDE.out] at hre
            have HRE := Lib.hid hre
            clear hm6 hre HRF HB HE
            go_wp2_with fail
            refine HRE.out.mono ?_
            rintro e w7 ⟨rfl, hm7⟩
            have HB7 := Lib.hid (Below.mod HB6.out hm7 (by have := HB6.out.size; exact this) fun k hk => by have := HM.out; omega)
            clear hm7
            go_wp2_with fail
            refine (HW _).out.mono ?_
            rintro e w8 ⟨rfl, hb8⟩
            have HB8 := Lib.hid (below_call HB7.out HB7.out.size hb8)
            clear hb8
            go_wp2_with fail
            go_ret
            exact ⟨rfl, HB8.out⟩
namespace CodeGets
theorem walk {w : World} (D : Option Addr) (bs : List UInt8) (dc : Nat) (hD : Bytes w D bs) (h1 : bs.length ≤ dc) (h2 : dc ≤ 9223372036854775807) (A : Option Addr) (l : List Pt) (c : Nat) (hA : Pts w A l) (h3 : l.length ≤ c) (h4 : c ≤ 9223372036854775807) :
    Calls Tryd.prog 5 #[.slice D bs.length dc, .slice A l.length c] w fun e w' => e = .returned (.bool true) ∧ Below w.heap.size w w' :=
  gets_any D dc bs (Nat.le_trans h1 h2) A c l (Nat.le_trans h3 h4) w hD hA
end CodeGets
end Go.Proofs.YtcklbhplhpohpaaDoor
