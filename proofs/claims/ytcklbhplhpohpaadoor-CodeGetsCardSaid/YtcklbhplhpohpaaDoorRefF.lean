/- The document's reader: Uint, Text. -/
import Derived.Test.YtcklbhplhpohpaaDoorRefE
namespace Go.Proofs.YtcklbhplhpohpaaDoor
open Go.RowKit

theorem Rf.lost {base : Nat} {w : World} {m : Nat} {xs : List UInt8} {f : Bool} (h : Rf base w m xs f) : Rft base m xs (0, [], 0, true) w (w.setCell ⟨m, 1, none⟩ (.bool true)) := by
  obtain ⟨A, c, h1, h2, h3, h4, h5, h6⟩ := h
  have hm : Mod (fun k => k = m) w (w.setCell ⟨m, 1, none⟩ (.bool true)) := (Mod.refl (fun k => k = m) w).set (p := ⟨m, 1, none⟩) (fun _ => rfl) _
  exact ⟨⟨A, c, h1.put 1 _, h2.mod hm fun ad e => (h6 ad e).2, h3, h4, h5, h6⟩, hm⟩
theorem Rft.ahead {base m : Nat} {xs : List UInt8} {t : Nat × List UInt8 × Nat × Bool} {w w1 w2 : World} (hb : Below w.heap.size w w1) (h : Rft base m xs t w1 w2) : Rft base m xs t w w2 :=
  ⟨h.1, (Mod.below hb (Nat.le_refl _)).trans h.2⟩
theorem getP_uint (m : Int) (xs : List UInt8) : getP 2 m xs = (num xs 0).map fun r => (r.1, [], r.2) := rfl
theorem getP_text (m : Int) (xs : List UInt8) : getP 3 m xs = (num xs 0).bind fun r => if 0 ≤ m ∧ (r.1 : Int) ≤ m ∧ r.1 ≤ xs.length - r.2 then some (0, (xs.drop r.2).take r.1, r.2 + r.1) else none := rfl
theorem raw_step {n : Nat} {xs : List UInt8} (h : n ≤ xs.length) : stepP 4 (n : Int) xs false = (0, xs.take n, n, false) := stepP_some (by rw [getP_raw, if_pos ⟨by omega, by omega⟩]; simp)
set_option maxRecDepth 100000 in
set_option maxHeartbeats 2000000 in
theorem runint_any (base : Nat) (w : World) (m : Nat) (xs : List UInt8) (f : Bool) (h : Rf base w m xs f) (hl : xs.length ≤ 140737488355328) (hbase : base ≤ w.heap.size) :
    Calls Tryd.prog 26 #[.pointer (some ⟨m, 0, none⟩)] w fun e w' => e = .returned (.int .u64 ((stepP 2 0 xs f).1 : Int)) ∧ Rft base m xs (stepP 2 0 xs f) w w' := by
  have HN := Lib.hid (rnumber_any base w m xs f h)
  have H := Lib.hid h
  clear h
  cases hn : num xs 0 with
  | none =>
    have hs : stepP 2 0 xs f = (0, [], 0, true) := by
      cases f with
      | true => rfl
      | false => exact stepP_none (by rw [getP_uint, hn]; rfl)
    have HS := Lib.hid hs
    rw [hn] at HN
    clear hs hn
    go_enter Tryd.func26, Tryd.ntmps26
    go_wp2_with fail
    refine HN.out.mono ?_
    rintro e w1 ⟨rfl, hb⟩
    have HB := Lib.hid hb
    have H1 := Lib.hid (H.out.below hb)
    obtain ⟨A, c, h1, _⟩ := H1.out
    have c1 := h1.cell 1
    have f1 := h1.free 1
    simp only [List.getElem?_toArray, List.getElem?_cons_succ, List.getElem?_cons_zero] at c1
    clear hb h1
    unfold pairOf
    go_wp2_with fail
    go_ret
    rw [HS.out]
    exact ⟨rfl, Rft.ahead HB.out H1.out.lost⟩
  | some v =>
    obtain ⟨y, k⟩ := v
    have hsd := num_sound xs 0 y k (by omega) hn
    have hk1 : 1 ≤ k := by
      have h1 := hsd.2.1
      have h2 := short_len_pos y
      rw [h1, List.length_take] at h2
      omega
    have hk2 : k ≤ xs.length := hsd.1
    have hk0 : ((k : Int) == 0) = false := by rw [beq_eq_false_iff_ne]; omega
    have hsf : stepP 2 0 xs false = (y, [], k, false) := stepP_some (by rw [getP_uint, hn]; rfl)
    have HSF := Lib.hid hsf
    rw [hn] at HN
    clear hsd hsf hn
    cases f with
    | true =>
      go_enter Tryd.func26, Tryd.ntmps26
      go_wp2_with fail
      refine HN.out.mono ?_
      rintro e w1 ⟨rfl, hb⟩
      have HB := Lib.hid hb
      have H1 := Lib.hid (H.out.below hb)
      obtain ⟨A, c, h1, _⟩ := H1.out
      have c1 := h1.cell 1
      have f1 := h1.free 1
      simp only [List.getElem?_toArray, List.getElem?_cons_succ, List.getElem?_cons_zero] at c1
      clear hb h1
      unfold pairOf
      go_wp2_with fail
      go_ret
      exact ⟨rfl, Rft.ahead HB.out H1.out.lost⟩
    | false =>
      go_enter Tryd.func26, Tryd.ntmps26
      go_wp2_with fail
      refine HN.out.mono ?_
      rintro e w1 ⟨rfl, hb⟩
      have HB := Lib.hid hb
      have H1 := Lib.hid (H.out.below hb)
      have hb1 : base ≤ w1.heap.size := Nat.le_trans hbase hb.size
      have hraw := rraw_any base w1 m xs false k (by omega) (by omega) H1.out hl hb1
      unfold RawPost at hraw
      rw [raw_step hk2] at hraw
      have HR := Lib.hid hraw
      obtain ⟨A, c, h1, _⟩ := H1.out
      have c1 := h1.cell 1
      simp only [List.getElem?_toArray, List.getElem?_cons_succ, List.getElem?_cons_zero] at c1
      clear hb h1 hraw
      unfold pairOf
      go_wp2_with fail
      refine HR.out.mono ?_
      rintro e w2 ⟨⟨A2, c2, rfl, _⟩, hr⟩
      have HRT := Lib.hid (Rft.ahead HB.out hr)
      clear hr
      go_wp2_with fail
      go_ret
      rw [HSF.out]
      exact ⟨rfl, HRT.out⟩
set_option maxRecDepth 100000 in
set_option maxHeartbeats 4000000 in
theorem rtextr_any (base : Nat) (w : World) (m : Nat) (xs : List UInt8) (f : Bool) (most : Int) (hm1 : -9223372036854775808 ≤ most) (hm2 : most ≤ 9223372036854775807) (h : Rf base w m xs f) (hl : xs.length ≤ 140737488355328) (hbase : base ≤ w.heap.size) :
    Calls Tryd.prog 27 #[.pointer (some ⟨m, 0, none⟩), .int .i64 most] w fun e w' => e = .returned (.string ⟨(stepP 3 most xs f).2.1.toArray⟩) ∧ Rft base m xs (stepP 3 most xs f) w w' := by
  have HN := Lib.hid (rnumber_any base w m xs f h)
  have H := Lib.hid h
  clear h
  have hlost : (num xs 0 = none ∨ f = true ∨ ∀ y k, num xs 0 = some (y, k) → ¬ (0 ≤ most ∧ (y : Int) ≤ most ∧ y ≤ xs.length - k)) → stepP 3 most xs f = (0, [], 0, true) := by
    intro h
    cases f with
    | true => rfl
    | false =>
      refine stepP_none ?_
      rw [getP_text]
      rcases h with h | h | h
      · rw [h]; rfl
      · cases h
      · cases hn : num xs 0 with
        | none => rfl
        | some v =>
          obtain ⟨y, k⟩ := v
          rw [Option.bind_some, if_neg]
          exact h y k hn
  cases hn : num xs 0 with
  | none =>
    have HS := Lib.hid (hlost (.inl hn))
    rw [hn] at HN
    clear hlost hn
    go_enter Tryd.func27, Tryd.ntmps27
    go_wp2_with fail
    refine HN.out.mono ?_
    rintro e w1 ⟨rfl, hb⟩
    have HB := Lib.hid hb
    have H1 := Lib.hid (H.out.below hb)
    obtain ⟨A, c, h1, _⟩ := H1.out
    have c1 := h1.cell 1
    have f1 := h1.free 1
    simp only [List.getElem?_toArray, List.getElem?_cons_succ, List.getElem?_cons_zero] at c1
    clear hb h1
    unfold pairOf
    go_wp2_with fail
    go_ret
    rw [HS.out]
    exact ⟨rfl, Rft.ahead HB.out H1.out.lost⟩
  | some v =>
    obtain ⟨y, k⟩ := v
    have hsd := num_sound xs 0 y k (by omega) hn
    have hy64 : y < 18446744073709551616 := (num_digits hn).2.2
    have hk1 : 1 ≤ k := by
      have h1 := hsd.2.1
      have h2 := short_len_pos y
      rw [h1, List.length_take] at h2
      omega
    have hk2 : k ≤ xs.length := hsd.1
    have hk0 : ((k : Int) == 0) = false := by rw [beq_eq_false_iff_ne]; omega
    have hsub : (xs.length : Int) - (k : Int) = ((xs.length - k : Nat) : Int) := by omega
    have hw2 : IntKind.u64.wrap ((xs.length - k : Nat) : Int) = ((xs.length - k : Nat) : Int) := by rw [IntKind.wrap_u64]; omega
    have hgood : 0 ≤ most → (y : Int) ≤ most → y ≤ xs.length - k → stepP 3 most xs false = (0, (xs.drop k).take y, k + y, false) := fun a b c => stepP_some (by rw [getP_text, hn, Option.bind_some, if_pos ⟨a, b, c⟩])
    have hcase : f = true ∨ (f = false ∧ most < 0) ∨ (f = false ∧ 0 ≤ most ∧ most < y) ∨ (f = false ∧ 0 ≤ most ∧ (y : Int) ≤ most ∧ xs.length - k < y) ∨ (f = false ∧ 0 ≤ most ∧ (y : Int) ≤ most ∧ y ≤ xs.length - k) := by
      cases f <;> simp <;> omega
    have hbad : ¬ (f = false ∧ 0 ≤ most ∧ (y : Int) ≤ most ∧ y ≤ xs.length - k) → stepP 3 most xs f = (0, [], 0, true) := fun hno => hlost (by
      cases f with
      | true => exact .inr (.inl rfl)
      | false =>
        refine .inr (.inr fun y' k' hn' hc => hno ?_)
        rw [hn] at hn'
        simp only [Option.some.injEq, Prod.mk.injEq] at hn'
        obtain ⟨rfl, rfl⟩ := hn'
        exact ⟨rfl, hc⟩)
    have HBAD := Lib.hid hbad
    have HGOOD := Lib.hid hgood
    rw [hn] at HN
    clear hsd hn hlost hbad hgood
    rcases hcase with rfl | ⟨rfl, h0⟩ | ⟨rfl, h0, hlt⟩ | ⟨rfl, h0, hle, hlt⟩ | ⟨rfl, h0, hle, hyl⟩
    · have HS := Lib.hid (HBAD.out (by rintro ⟨h, _⟩; cases h))
      clear HBAD HGOOD
      go_enter Tryd.func27, Tryd.ntmps27
      go_wp2_with fail
      refine HN.out.mono ?_
      rintro e w1 ⟨rfl, hb⟩
      have HB := Lib.hid hb
      have H1 := Lib.hid (H.out.below hb)
      obtain ⟨A, c, h1, _⟩ := H1.out
      have c0 := h1.cell 0
      have c1 := h1.cell 1
      have f1 := h1.free 1
      simp only [List.getElem?_toArray, List.getElem?_cons_succ, List.getElem?_cons_zero] at c0 c1
      clear hb h1
      unfold pairOf
      go_wp2_with fail
      go_ret
      rw [HS.out]
      exact ⟨rfl, Rft.ahead HB.out H1.out.lost⟩
    · have HS := Lib.hid (HBAD.out (by omega))
      have hd1 : decide (most < 0) = true := by rw [decide_eq_true_iff]; exact h0
      clear HBAD HGOOD
      go_enter Tryd.func27, Tryd.ntmps27
      go_wp2_with fail
      refine HN.out.mono ?_
      rintro e w1 ⟨rfl, hb⟩
      have HB := Lib.hid hb
      have H1 := Lib.hid (H.out.below hb)
      obtain ⟨A, c, h1, _⟩ := H1.out
      have c0 := h1.cell 0
      have c1 := h1.cell 1
      have f1 := h1.free 1
      simp only [List.getElem?_toArray, List.getElem?_cons_succ, List.getElem?_cons_zero] at c0 c1
      clear hb h1
      unfold pairOf
      go_wp2_with fail
      go_ret
      rw [HS.out]
      exact ⟨rfl, Rft.ahead HB.out H1.out.lost⟩
    · have HS := Lib.hid (HBAD.out (by omega))
      have hd1 : decide (most < 0) = false := by rw [decide_eq_false_iff_not]; omega
      have hw1 : IntKind.u64.wrap most = most := by rw [IntKind.wrap_u64]; omega
      have hd2 : decide (most < (y : Int)) = true := by rw [decide_eq_true_iff]; exact hlt
      clear HBAD HGOOD
      go_enter Tryd.func27, Tryd.ntmps27
      go_wp2_with fail
      refine HN.out.mono ?_
      rintro e w1 ⟨rfl, hb⟩
      have HB := Lib.hid hb
      have H1 := Lib.hid (H.out.below hb)
      obtain ⟨A, c, h1, _⟩ := H1.out
      have c0 := h1.cell 0
      have c1 := h1.cell 1
      have f1 := h1.free 1
      simp only [List.getElem?_toArray, List.getElem?_cons_succ, List.getElem?_cons_zero] at c0 c1
      clear hb h1
      unfold pairOf
      go_wp2_with fail
      go_ret
      rw [HS.out]
      exact ⟨rfl, Rft.ahead HB.out H1.out.lost⟩
    · have HS := Lib.hid (HBAD.out (by omega))
      have hd1 : decide (most < 0) = false := by rw [decide_eq_false_iff_not]; omega
      have hw1 : IntKind.u64.wrap most = most := by rw [IntKind.wrap_u64]; omega
      have hd2 : decide (most < (y : Int)) = false := by rw [decide_eq_false_iff_not]; omega
      have hd3 : decide (((xs.length - k : Nat) : Int) < (y : Int)) = true := by rw [decide_eq_true_iff]; omega
      have hd4 : decide (xs.length - k < y) = true := by rw [decide_eq_true_iff]; exact hlt
      clear HBAD HGOOD
      go_enter Tryd.func27, Tryd.ntmps27
      go_wp2_with fail
      refine HN.out.mono ?_
      rintro e w1 ⟨rfl, hb⟩
      have HB := Lib.hid hb
      have H1 := Lib.hid (H.out.below hb)
      obtain ⟨A, c, h1, _⟩ := H1.out
      have c0 := h1.cell 0
      have c1 := h1.cell 1
      have f1 := h1.free 1
      simp only [List.getElem?_toArray, List.getElem?_cons_succ, List.getElem?_cons_zero] at c0 c1
      clear hb h1
      unfold pairOf
      go_wp2_with fail
      go_ret
      rw [HS.out]
      exact ⟨rfl, Rft.ahead HB.out H1.out.lost⟩
    · have HS := Lib.hid (HGOOD.out h0 hle hyl)
      have hd1 : decide (most < 0) = false := by rw [decide_eq_false_iff_not]; omega
      have hw1 : IntKind.u64.wrap most = most := by rw [IntKind.wrap_u64]; omega
      have hd2 : decide (most < (y : Int)) = false := by rw [decide_eq_false_iff_not]; omega
      have hd3 : decide (((xs.length - k : Nat) : Int) < (y : Int)) = false := by rw [decide_eq_false_iff_not]; omega
      have hd4 : decide (xs.length - k < y) = false := by rw [decide_eq_false_iff_not]; omega
      have hw3 : IntKind.i64.wrap (y : Int) = (y : Int) := IntWalk.i64_in _ (by omega)
      clear HBAD HGOOD
      go_enter Tryd.func27, Tryd.ntmps27
      go_wp2_with fail
      refine HN.out.mono ?_
      rintro e w1 ⟨rfl, hb⟩
      have HB := Lib.hid hb
      have H1 := Lib.hid (H.out.below hb)
      have hb1 : base ≤ w1.heap.size := Nat.le_trans hbase hb.size
      have hraw := rraw_any base w1 m xs false k (by omega) (by omega) H1.out hl hb1
      unfold RawPost at hraw
      rw [raw_step hk2] at hraw
      have HR := Lib.hid hraw
      obtain ⟨A, c, h1, _⟩ := H1.out
      have c0 := h1.cell 0
      have c1 := h1.cell 1
      simp only [List.getElem?_toArray, List.getElem?_cons_succ, List.getElem?_cons_zero] at c0 c1
      clear hb h1 hraw
      unfold pairOf
      go_wp2_with fail
      refine HR.out.mono ?_
      rintro e w2 ⟨⟨A2, c2, rfl, _⟩, hr⟩
      have HRT := Lib.hid (Rft.ahead HB.out hr)
      have hb2 : base ≤ w2.heap.size := Nat.le_trans hb1 hr.2.size
      have hraw := rraw_any base w2 m (xs.drop k) false y (by omega) (by omega) HRT.out.1 (by rw [List.length_drop]; omega) hb2
      unfold RawPost at hraw
      rw [raw_step (by rw [List.length_drop]; omega)] at hraw
      have HR2 := Lib.hid hraw
      have hlen : ((xs.drop k).take y).length = y := by rw [List.length_take, List.length_drop]; omega
      have HLEN := Lib.hid hlen
      clear hr hraw c0 c1 hlen HR
      go_wp2_with fail
      refine HR2.out.mono ?_
      rintro e w3 ⟨⟨A3, c3, rfl, hB3, _⟩, hr3⟩
      have HB3 := Lib.hid hB3
      have HRT3 := Lib.hid hr3
      have hcv := conv_str (P := Tryd.prog) (w := w3) (n := ((xs.drop k).take y).length) (c := c3) Tryd.underlying27 Tryd.underlying5 Tryd.underlying9 HB3.out rfl
      simp only [HLEN.out] at hcv ⊢
      clear hr3 hB3 HR2
      go_wp2_with fail
      go_ret
      rw [HS.out]
      refine ⟨rfl, ?_, HRT.out.2.trans HRT3.out.2⟩
      have := HRT3.out.1
      simp only at this ⊢
      rwa [List.drop_drop] at this
end Go.Proofs.YtcklbhplhpohpaaDoor
