/- CodeStays, walked. -/
import Derived.Test.YtcklbhplhpohpaaDoorCodeV
namespace Go.Proofs.YtcklbhplhpohpaaDoor
open Go.RowKit

theorem Rdr.lt {w : World} {lo hi r : Nat} {l : List UInt8} {p : Nat} {f : Bool} (h : Rdr w lo hi r l p f) : lo ≤ hi := by
  obtain ⟨A, c, _, h1, h2, _⟩ := h
  omega
set_option maxRecDepth 100000 in
set_option maxHeartbeats 4000000 in
theorem stays_any (D : Option Addr) (dc : Nat) (bs : List UInt8) (A : Option Addr) (c : Nat) (l : List Pt) (hl : l.length ≤ 9223372036854775807) (B : Option Addr) (e : Nat) (m : List Pt) (hm : m.length ≤ 9223372036854775807) (hb63 : bs.length ≤ 9223372036854775807) (w : World)
    (hD : Bytes w D bs) (hA : Pts w A l) (hB : Pts w B m) :
    Calls Tryd.prog 9 #[.slice D bs.length dc, .slice A l.length c, .slice B m.length e] w fun e w' => e = .returned (.bool true) ∧ Below w.heap.size w w' := by
  have HD := Lib.hid hD
  have HA := Lib.hid hA
  have HB := Lib.hid hB
  have HG1 := Lib.hid (great_any A c l hl w hA)
  have HG2 := Lib.hid (great_any B e m hm w hB)
  have HW := fun w => Lib.hid (awake_any w)
  clear hA hB hD
  by_cases h2000 : 2000 < bs.length
  · have hd : decide ((bs.length : Int) > 2000) = true := by rw [decide_eq_true_iff]; omega
    go_enter Tryd.func9, Tryd.ntmps9
    go_wp2_with fail
    refine (HW _).out.mono ?_
    rintro e w1 ⟨rfl, hb⟩
    have HB := Lib.hid hb
    clear hb
    go_wp2_with fail
    go_ret
    exact ⟨rfl, HB.out⟩
  have hd : decide (2000 < (bs.length : Int)) = false := by rw [decide_eq_false_iff_not]; omega
  go_enter Tryd.func9, Tryd.ntmps9
  go_wp2_with fail
  refine HG1.out.mono ?_
  rintro e w1 ⟨g, rfl, _, rfl⟩
  cases g with
  | true =>
    go_wp2_with fail
    refine (HW _).out.mono ?_
    rintro e w1 ⟨rfl, hb⟩
    have HB := Lib.hid hb
    clear hb
    go_wp2_with fail
    go_ret
    exact ⟨rfl, HB.out⟩
  | false =>
  go_wp2_with fail
  refine HG2.out.mono ?_
  rintro e w1 ⟨g, rfl, _, rfl⟩
  cases g with
  | true =>
    go_wp2_with fail
    refine (HW _).out.mono ?_
    rintro e w1 ⟨rfl, hb⟩
    have HB := Lib.hid hb
    clear hb
    go_wp2_with fail
    go_ret
    exact ⟨rfl, HB.out⟩
  | false =>
  go_wp2_with fail
  refine (rdr_new D dc _ bs w HD.out rfl (by omega)).mono ?_
  rintro e w1 ⟨r, rfl, hR, hb⟩
  obtain ⟨lo, hlo⟩ : ∃ lo, lo = w.heap.size := ⟨_, rfl⟩
  obtain ⟨hi, hhi⟩ : ∃ hi, hi = w1.heap.size := ⟨_, rfl⟩
  rw [← hlo, ← hhi] at hR
  have HR := Lib.hid hR
  have HB1 : Hid (Below lo w w1) := by rw [hlo]; exact hb
  have HLO := Lib.hid hlo
  clear hR hb hlo hhi HD HG1 HG2
  go_wp2_with fail
  go_loopw [8] (fun i wr => ∃ k : Nat, k ≤ l.length ∧ i = .int .i64 k ∧ (∃ q f, Rdr wr lo hi r bs q f) ∧ Below lo w wr) (fun i _ => l.length - (intOf i).toNat)
  case atStart => exact ⟨0, Nat.zero_le _, rfl, ⟨_, _, HR.out⟩, HB1.out⟩
  case round =>
    clear HR HB1
    obtain ⟨k, hk, rfl, ⟨q, f, hR⟩, hB⟩ := hrel
    have HR := Lib.hid hR
    have HBW := Lib.hid hB
    have hlow : lo ≤ wr.heap.size := by rw [HLO.out]; exact hB.size
    clear hB
    have hgo : k < l.length ∧ f = false ∨ (k < l.length ∧ f = true ∨ ¬ k < l.length) := by
      cases f <;> simp <;> omega
    rcases hgo with ⟨hlt, rfl⟩ | hgo
    · have HE := Lib.hid (rdr_err wr lo hi r bs q false hR)
      clear hR
      have hP : Pts wr A l := HA.out.below (by have := HBW.out; rw [HLO.out] at this; exact this)
      obtain ⟨b, o, rfl, hbl, c0, c1, c2, c3⟩ := hP.at_ hlt
      have HGET := fun p => Lib.hid (rdr_get wr lo hi r bs q false p HR.out)
      clear hP
      generalize l[k] = p at c0 c1 c2 c3
      unfold Pt.val at HGET
      go_wp2_with fail
      refine HE.out.mono ?_
      rintro e w2 ⟨rfl, rfl⟩
      go_wp2_with fail
      refine (HGET p).out.mono ?_
      rintro e w3 ⟨rfl, hr3, hm3⟩
      have HB3 : Hid (Below lo w w3) := Below.mod HBW.out hm3 hlow fun k hk => hk.1
      have HR3 := Lib.hid hr3
      clear hr3 hm3
      go_wp2_with fail
      go_roundw
      case rel => exact ⟨k + 1, by omega, by go_num, ⟨_, _, HR3.out⟩, HB3.out⟩
      case measure => simp [intOf]; omega
    · have HF := Lib.hid (rdr_fail wr lo hi r bs q f hR)
      have HE := Lib.hid (rdr_err wr lo hi r bs q true)
      have hE2 : f = true → Hid (Calls Tryd.prog 20 #[.pointer (some ⟨r, 0, none⟩)] wr fun e w' => e = .returned (.int .i64 2) ∧ wr = w') := fun h => by
        subst h
        exact rdr_err wr lo hi r bs q true hR
      clear hR
      rcases hgo with ⟨hlt, hf⟩ | hlt
      · have HE2 := hE2 hf
        clear hE2 hf HE
        go_wp2_with fail
        refine HE2.out.mono ?_
        rintro e w2 ⟨rfl, rfl⟩
        go_wp2_with fail
        refine HF.out.mono ?_
        rintro e w4 ⟨rfl, hr4, hm4⟩
        have HB4 : Hid (Below lo w w4) := Below.mod HBW.out hm4 hlow fun k hk => hk.1
        have HR4 := Lib.hid hr4
        clear hr4 hm4
        go_wp2_with fail
        refine (rdr_left w4 lo hi r bs q true HR4.out).mono ?_
        rintro e w5 ⟨rfl, n5, hq5⟩
        have HB5 : Hid (Below lo w w5) := by rw [hq5]; exact HB4.out.trans (below_drewN (Below.refl _ _) n5)
        have HR5 : Hid (Rdr w5 lo hi r bs q true) := by rw [hq5]; exact HR4.out.drewN n5
        clear hq5 HF HR HR4 HB4 HBW hlow HE2
        go_wp2_with fail
        obtain ⟨lf, hlf⟩ : ∃ n : Nat, n = bs.length - q := ⟨_, rfl⟩
        rw [← hlf]
        have HLF := Lib.hid hlf
        clear hlf
        go_loopw [10] (fun i wr => ∃ k : Nat, k ≤ m.length ∧ i = .int .i64 k ∧ Rdr wr lo hi r bs q true ∧ Below lo w wr) (fun i _ => m.length - (intOf i).toNat)
        case atStart => exact ⟨0, Nat.zero_le _, rfl, HR5.out, HB5.out⟩
        case round =>
          clear HR5 HB5 hlt hk
          obtain ⟨j, hj, rfl, hR, hB⟩ := hrel
          have HR := Lib.hid hR
          have HBW := Lib.hid hB
          have hlow : lo ≤ wr.heap.size := by rw [HLO.out]; exact hB.size
          clear hB hR
          by_cases hlt : j < m.length
          · have hP : Pts wr B m := HB.out.below (by have := HBW.out; rw [HLO.out] at this; exact this)
            obtain ⟨b, o, rfl, hbl, c0, c1, c2, c3⟩ := hP.at_ hlt
            have HGET := fun p => Lib.hid (rdr_get wr lo hi r bs q true p HR.out)
            simp only [stepP_off] at HGET
            clear hP
            generalize m[j] = p at c0 c1 c2 c3
            unfold Pt.val at HGET
            go_wp2_with fail
            refine (HGET p).out.mono ?_
            rintro e w6 ⟨rfl, hr6, hm6⟩
            have HB6 : Hid (Below lo w w6) := Below.mod HBW.out hm6 hlow fun k hk => hk.1
            have HR6 : Hid (Rdr w6 lo hi r bs q true) := hr6
            clear hr6 hm6
            go_wp2_with fail
            refine (rdr_left w6 lo hi r bs q true HR6.out).mono ?_
            rintro e w7 ⟨rfl, n7, hq7⟩
            have HB7 : Hid (Below lo w w7) := by rw [hq7]; exact HB6.out.trans (below_drewN (Below.refl _ _) n7)
            have HR7 : Hid (Rdr w7 lo hi r bs q true) := by rw [hq7]; exact HR6.out.drewN n7
            rw [← HLF.out]
            clear hq7
            go_wp2_with fail
            refine (rdr_err w7 lo hi r bs q true HR7.out).mono ?_
            rintro e w8 ⟨rfl, rfl⟩
            go_wp2_with fail
            go_roundw
            case rel => exact ⟨j + 1, by omega, by go_num, HR7.out, HB7.out⟩
            case measure => simp [intOf]; omega
          · go_wp2_with fail
            refine (rdr_end wr lo hi r bs q true HR.out).mono ?_
            rintro e w6 ⟨rfl, hr6, hm6⟩
            have HB6 : Hid (Below lo w w6) := Below.mod HBW.out hm6 hlow fun k hk => hk.1
            have HR6 : Hid (Rdr w6 lo hi r bs q true) := hr6
            clear hr6 hm6
            go_wp2_with fail
            refine (rdr_left w6 lo hi r bs q true HR6.out).mono ?_
            rintro e w7 ⟨rfl, n7, hq7⟩
            have HB7 : Hid (Below lo w w7) := by rw [hq7]; exact HB6.out.trans (below_drewN (Below.refl _ _) n7)
            rw [← HLF.out]
            clear hq7
            go_wp2_with fail
            refine (HW _).out.mono ?_
            rintro e w8 ⟨rfl, hb8⟩
            have h7 : lo ≤ w7.heap.size := by rw [HLO.out]; exact HB7.out.size
            have HB8 := Lib.hid (below_call HB7.out h7 hb8)
            clear hb8
            go_wp2_with fail
            go_ret
            refine ⟨rfl, ?_⟩
            have := HB8.out
            rw [HLO.out] at this
            exact this
      · clear hE2 HE
        go_wp2_with fail
        refine HF.out.mono ?_
        rintro e w4 ⟨rfl, hr4, hm4⟩
        have HB4 : Hid (Below lo w w4) := Below.mod HBW.out hm4 hlow fun k hk => hk.1
        have HR4 := Lib.hid hr4
        clear hr4 hm4
        go_wp2_with fail
        refine (rdr_left w4 lo hi r bs q true HR4.out).mono ?_
        rintro e w5 ⟨rfl, n5, hq5⟩
        have HB5 : Hid (Below lo w w5) := by rw [hq5]; exact HB4.out.trans (below_drewN (Below.refl _ _) n5)
        have HR5 : Hid (Rdr w5 lo hi r bs q true) := by rw [hq5]; exact HR4.out.drewN n5
        clear hq5 HF HR HR4 HB4 HBW hlow
        go_wp2_with fail
        obtain ⟨lf, hlf⟩ : ∃ n : Nat, n = bs.length - q := ⟨_, rfl⟩
        rw [← hlf]
        have HLF := Lib.hid hlf
        clear hlf
        go_loopw [10] (fun i wr => ∃ k : Nat, k ≤ m.length ∧ i = .int .i64 k ∧ Rdr wr lo hi r bs q true ∧ Below lo w wr) (fun i _ => m.length - (intOf i).toNat)
        case atStart => exact ⟨0, Nat.zero_le _, rfl, HR5.out, HB5.out⟩
        case round =>
          clear HR5 HB5 hlt hk
          obtain ⟨j, hj, rfl, hR, hB⟩ := hrel
          have HR := Lib.hid hR
          have HBW := Lib.hid hB
          have hlow : lo ≤ wr.heap.size := by rw [HLO.out]; exact hB.size
          clear hB hR
          by_cases hlt : j < m.length
          · have hP : Pts wr B m := HB.out.below (by have := HBW.out; rw [HLO.out] at this; exact this)
            obtain ⟨b, o, rfl, hbl, c0, c1, c2, c3⟩ := hP.at_ hlt
            have HGET := fun p => Lib.hid (rdr_get wr lo hi r bs q true p HR.out)
            simp only [stepP_off] at HGET
            clear hP
            generalize m[j] = p at c0 c1 c2 c3
            unfold Pt.val at HGET
            go_wp2_with fail
            refine (HGET p).out.mono ?_
            rintro e w6 ⟨rfl, hr6, hm6⟩
            have HB6 : Hid (Below lo w w6) := Below.mod HBW.out hm6 hlow fun k hk => hk.1
            have HR6 : Hid (Rdr w6 lo hi r bs q true) := hr6
            clear hr6 hm6
            go_wp2_with fail
            refine (rdr_left w6 lo hi r bs q true HR6.out).mono ?_
            rintro e w7 ⟨rfl, n7, hq7⟩
            have HB7 : Hid (Below lo w w7) := by rw [hq7]; exact HB6.out.trans (below_drewN (Below.refl _ _) n7)
            have HR7 : Hid (Rdr w7 lo hi r bs q true) := by rw [hq7]; exact HR6.out.drewN n7
            rw [← HLF.out]
            clear hq7
            go_wp2_with fail
            refine (rdr_err w7 lo hi r bs q true HR7.out).mono ?_
            rintro e w8 ⟨rfl, rfl⟩
            go_wp2_with fail
            go_roundw
            case rel => exact ⟨j + 1, by omega, by go_num, HR7.out, HB7.out⟩
            case measure => simp [intOf]; omega
          · go_wp2_with fail
            refine (rdr_end wr lo hi r bs q true HR.out).mono ?_
            rintro e w6 ⟨rfl, hr6, hm6⟩
            have HB6 : Hid (Below lo w w6) := Below.mod HBW.out hm6 hlow fun k hk => hk.1
            have HR6 : Hid (Rdr w6 lo hi r bs q true) := hr6
            clear hr6 hm6
            go_wp2_with fail
            refine (rdr_left w6 lo hi r bs q true HR6.out).mono ?_
            rintro e w7 ⟨rfl, n7, hq7⟩
            have HB7 : Hid (Below lo w w7) := by rw [hq7]; exact HB6.out.trans (below_drewN (Below.refl _ _) n7)
            rw [← HLF.out]
            clear hq7
            go_wp2_with fail
            refine (HW _).out.mono ?_
            rintro e w8 ⟨rfl, hb8⟩
            have h7 : lo ≤ w7.heap.size := by rw [HLO.out]; exact HB7.out.size
            have HB8 := Lib.hid (below_call HB7.out h7 hb8)
            clear hb8
            go_wp2_with fail
            go_ret
            refine ⟨rfl, ?_⟩
            have := HB8.out
            rw [HLO.out] at this
            exact this
namespace CodeStays
theorem walk {w : World} (D : Option Addr) (bs : List UInt8) (dc : Nat) (hD : Bytes w D bs) (h1 : bs.length ≤ dc) (h2 : dc ≤ 9223372036854775807) (A : Option Addr) (l : List Pt) (c : Nat) (hA : Pts w A l) (h3 : l.length ≤ c) (h4 : c ≤ 9223372036854775807)
    (B : Option Addr) (m : List Pt) (e : Nat) (hB : Pts w B m) (h5 : m.length ≤ e) (h6 : e ≤ 9223372036854775807) :
    Calls Tryd.prog 9 #[.slice D bs.length dc, .slice A l.length c, .slice B m.length e] w fun e w' => e = .returned (.bool true) ∧ Below w.heap.size w w' :=
  stays_any D dc bs A c l (Nat.le_trans h3 h4) B e m (Nat.le_trans h5 h6) (Nat.le_trans h1 h2) w hD hA hB
end CodeStays
end Go.Proofs.YtcklbhplhpohpaaDoor
