/- May. -/
import Derived.Test.YtpjmolnkmlpfeaaGreatDoorJuGe
namespace Go.Proofs.YtpjmolnkmlpfeaaGreatDoor
set_option linter.unusedVariables false
set_option linter.unusedSimpArgs false
set_option maxRecDepth 100000
open Go.RowKit

set_option maxHeartbeats 4000000 in
theorem maylong_any {K : Nat → Prop} {w : World} {v : Value} {h : List Nte} (hh : SlH K w v h) (hok : ∀ x ∈ h, NtOk x) (hn : h.length ≤ 1000000) (hbig : 2000 < h.length) :
  Calls Tryz.prog 13 #[v] w fun e w' => Below w.heap.size w w' ∧ ∃ er, e = .returned (.tuple #[.bool false, .int .i64 er]) ∧ ((IsH h ∧ er = 7) ∨ (¬ IsH h ∧ er = 1)) := by
 have hia := is_any hh hok hn
 obtain ⟨A, c, H, rfl, hH, hr⟩ := id hh
 have hl : h.length = H.length := by rw [← hH, List.length_map]
 have HHH := Lib.hid hh
 have HOK := Lib.hid hok
 have HN := Lib.hid hn
 have d1 : decide (2000 < H.length) = true := decide_eq_true (by omega)
 have d2 : decide ((2000 : Int) < (H.length : Int)) = true := decide_eq_true (by omega)
 have HIA := Lib.hid hia
 clear hia hh hok hn hbig hH hr hl
 go_enter Tryz.func13, Tryz.ntmps13
 go_wp2_with fail
 refine HIA.out.mono ?_
 rintro e w2 ⟨rfl, hb2⟩
 have hia2 := is_any (HHH.out.below hb2) HOK.out HN.out
 have HB2 := Lib.hid hb2
 clear hb2
 by_cases hi : IsH h
 ·rw [decide_eq_true hi]
  have HI := Lib.hid hi
  clear hia2 hi
  go_wp2_with fail
  go_ret2
  exact ⟨HB2.out, 7, rfl, .inl ⟨HI.out, rfl⟩⟩
 ·rw [decide_eq_false hi] at hia2 ⊢
  have HI := Lib.hid hi
  have HIA2 := Lib.hid hia2
  clear hia2 hi
  go_wp2_with fail
  refine HIA2.out.mono ?_
  rintro e w3 ⟨rfl, hb3⟩
  have HB3 := Lib.hid hb3
  clear hb3
  go_wp2_with fail
  go_ret2
  exact ⟨HB2.out.trans (HB3.out.mono HB2.out.size), 1, rfl, .inr ⟨HI.out, rfl⟩⟩
set_option maxHeartbeats 4000000 in
theorem mayshort_any {K : Nat → Prop} {w : World} {v : Value} {h : List Nte} (hh : SlH K w v h) (hok : ∀ x ∈ h, NtOk x) (hn : h.length ≤ 2000) :
  Calls Tryz.prog 13 #[v] w fun e w' => Below w.heap.size w w' ∧ ∃ b er, e = .returned (.tuple #[.bool b, .int .i64 er]) ∧ MayPost h b er := by
 have hia := is_any hh hok (by omega)
 obtain ⟨A, c, H, rfl, hH, hr⟩ := id hh
 have hl : h.length = H.length := by rw [← hH, List.length_map]
 have HHH := Lib.hid hh
 have HOK := Lib.hid hok
 have HN := Lib.hid hn
 have d1 : decide (2000 < H.length) = false := decide_eq_false (by omega)
 have d2 : decide ((2000 : Int) < (H.length : Int)) = false := decide_eq_false (by omega)
 have HIA := Lib.hid hia
 clear hia hh hok hn hH hr hl
 go_enter Tryz.func13, Tryz.ntmps13
 go_wp2_with fail
 refine HIA.out.mono ?_
 rintro e w2 ⟨rfl, hb2⟩
 have HB2 := Lib.hid hb2
 clear hb2
 by_cases hi : IsH h
 ·rw [decide_eq_true hi]
  have HI := Lib.hid hi
  clear hi
  go_wp2_with fail
  go_loopw [4] (fun i wr => ∃ k : Nat, 1 ≤ k ∧ k ≤ 4 ∧ i = .int .i64 k ∧ Below w.heap.size w wr ∧ ∀ j : Nat, 1 ≤ j → j < k → chanP h (j : Int) = true) (fun i _ => 4 - (intOf i).toNat)
  case atStart => exact ⟨1, by omega, by omega, rfl, HB2.out, fun j h1 h2 => by omega⟩
  case round =>
   obtain ⟨k, hk1, hk4, rfl, hb, hall⟩ := hrel
   have HB := Lib.hid hb
   have HALL := Lib.hid hall
   clear hb hall
   by_cases hlt : k ≤ 3
   ·have hch := channel_any (n := k) (HHH.out.below HB.out) HOK.out HI.out HN.out hlt
    have HCH := Lib.hid hch
    clear hch
    go_wp2_with fail
    refine HCH.out.mono ?_
    rintro e w3 ⟨hb3, (rfl | ⟨rfl, hf⟩)⟩
    ·have HB3 := Lib.hid hb3
     clear hb3
     cases hc : chanP h k with
     | true =>
      have HC := Lib.hid hc
      clear hc
      go_wp2_with fail
      go_roundw
      case rel =>
       refine ⟨k + 1, by omega, by omega, by go_num, HB.out.trans (HB3.out.mono HB.out.size), fun j h1 h2 => ?_⟩
       rcases Nat.lt_or_ge j k with h | h
       ·exact HALL.out j h1 h
       ·obtain rfl : j = k := by omega
        exact HC.out
      case measure => simp [intOf]; omega
     | false =>
      have HC := Lib.hid hc
      clear hc
      go_wp2_with fail
      go_ret2
      refine ⟨HB.out.trans (HB3.out.mono HB.out.size), false, 0, rfl, .inr (.inr ⟨HI.out, HN.out, .inr (.inl ⟨rfl, rfl, ?_⟩)⟩)⟩
      have hc := HC.out
      rcases (by omega : k = 1 ∨ k = 2 ∨ k = 3) with rfl | rfl | rfl
      ·exact .inl hc
      ·exact .inr (.inl hc)
      ·exact .inr (.inr hc)
    ·have HB3 := Lib.hid hb3
     have HF := Lib.hid hf
     clear hb3 hf
     go_wp2_with fail
     go_ret2
     refine ⟨HB.out.trans (HB3.out.mono HB.out.size), false, 3, rfl, .inr (.inr ⟨HI.out, HN.out, .inr (.inr ⟨rfl, rfl, ?_⟩)⟩)⟩
     have hc := HF.out
     rcases (by omega : k = 1 ∨ k = 2 ∨ k = 3) with rfl | rfl | rfl
     ·exact .inl hc
     ·exact .inr (.inl hc)
     ·exact .inr (.inr hc)
   ·obtain rfl : k = 4 := by omega
    go_wp2_with fail
    go_ret2
    exact ⟨HB.out, true, 0, rfl, .inr (.inr ⟨HI.out, HN.out, .inl ⟨rfl, rfl, HALL.out 1 (by omega) (by omega), HALL.out 2 (by omega) (by omega), HALL.out 3 (by omega) (by omega)⟩⟩)⟩
 ·rw [decide_eq_false hi]
  have HI := Lib.hid hi
  clear hi
  go_wp2_with fail
  go_ret2
  exact ⟨HB2.out, false, 1, rfl, .inl ⟨HI.out, rfl, rfl⟩⟩
/-- May, whatever the length is. -/
theorem jmay_any {K : Nat → Prop} {w : World} {v : Value} {h : List Nte} (hh : SlH K w v h) (hok : ∀ x ∈ h, NtOk x) (hn : h.length ≤ 1000000) :
  Calls Tryz.prog 13 #[v] w fun e w' => Below w.heap.size w w' ∧ ∃ b er, e = .returned (.tuple #[.bool b, .int .i64 er]) ∧ MayPost h b er := by
 by_cases hb : 2000 < h.length
 ·refine (maylong_any hh hok hn hb).mono ?_
  rintro e w' ⟨hb', er, rfl, hr⟩
  refine ⟨hb', false, er, rfl, ?_⟩
  rcases hr with ⟨hi, rfl⟩ | ⟨hi, rfl⟩
  ·exact .inr (.inl ⟨hi, hb, rfl, rfl⟩)
  ·exact .inl ⟨hi, rfl, rfl⟩
 ·exact mayshort_any hh hok (by omega)
end Go.Proofs.YtpjmolnkmlpfeaaGreatDoor
