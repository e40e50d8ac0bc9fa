/- The law's awake. (Printed by codeu.py.) -/
import Derived.Test.YtcklbhplhpohpaaDoorCodeT
import Derived.Test.YtcklbhplhpohpaaDoorRdr
namespace Go.Proofs.YtcklbhplhpohpaaDoor
open Go.RowKit

theorem Below.mod {B : Nat} {S : Nat → Prop} {w w1 w2 : World} (hb : Below B w w1) (hm : Mod S w1 w2) (hB : B ≤ w1.heap.size) (hS : ∀ k, S k → B ≤ k) : Below B w w2 :=
  hb.trans (hm.to_below hB fun k hk hs => by have := hS k hs; omega)
theorem Wrt.below {b B : Nat} {l : List UInt8} {w w1 w2 : World} (hb : Below B w w1) (h : Wrt b none l w1 w2) (hB : B ≤ w1.heap.size) (hbB : B ≤ b) : Below B w w2 := by
  obtain ⟨_, _, _, h3⟩ := h
  exact Below.mod hb h3 hB fun k hk => by
    rcases hk with rfl | hk
    · exact hbB
    · cases hk
theorem short127 : short 127 = [127] := by rw [short_low (by decide)]; rfl
theorem short128 : short 128 = [128, 1] := by rw [short_high (by decide), short_low (by decide)]; rfl
theorem short3 : short 3 = [3] := by rw [short_low (by decide)]; rfl
theorem short2 : short 2 = [2] := by rw [short_low (by decide)]; rfl
theorem shortmax : short 18446744073709551615 = [255, 255, 255, 255, 255, 255, 255, 255, 255, 1] := by
  rw [short_high (by decide), show 18446744073709551615 / 128 = 144115188075855871 from rfl, short_high (by decide), show 144115188075855871 / 128 = 1125899906842623 from rfl, short_high (by decide), show 1125899906842623 / 128 = 8796093022207 from rfl,
    short_high (by decide), show 8796093022207 / 128 = 68719476735 from rfl, short_high (by decide), show 68719476735 / 128 = 536870911 from rfl, short_high (by decide), show 536870911 / 128 = 4194303 from rfl, short_high (by decide), show 4194303 / 128 = 32767 from rfl,
    short_high (by decide), show 32767 / 128 = 255 from rfl, short_high (by decide), short_low (by decide)]
  rfl
def big64 : Nat := 18446744073709551615
theorem flat1 : [127, 128, big64].flatMap short = [127, 128, 1, 255, 255, 255, 255, 255, 255, 255, 255, 255, 1] := by
  simp only [List.flatMap_cons, List.flatMap_nil, short127, short128, big64, shortmax, List.append_nil, List.cons_append, List.nil_append]
theorem flat2 : [3, 2].flatMap short = [3, 2] := by
  simp only [List.flatMap_cons, List.flatMap_nil, short3, short2, List.append_nil, List.cons_append, List.nil_append]
set_option maxRecDepth 100000 in
set_option maxHeartbeats 2000000 in
/-- What awake writes and reads is the chapter's. -/
theorem awake_any (w : World) : Calls Tryd.prog 11 #[] w fun e w' => e = .returned (.bool true) ∧ Below w.heap.size w w' := by
  go_enter Tryd.func11, Tryd.ntmps11
  go_wp2_with fail
  refine (newwriter_any w).mono ?_
  rintro e w1 ⟨rfl, hw1, ew1⟩
  have hB1 : Hid (Below w.heap.size w w1 ∧ w.heap.size ≤ w1.heap.size) := by rw [ew1]; exact ⟨below_new _ _, by simp⟩
  have HW0 := Lib.hid (Wrt.refl hw1)
  clear ew1 hw1
  obtain ⟨row0, h0, k0, m0⟩ := HW0.out
  have HC0 := Lib.hid (wu8_any w.heap.size row0 [] 200 (by decide) (by decide) w1 h0 (by decide))
  have HK0 := Lib.hid k0
  have HM0 := Lib.hid m0
  clear h0 k0 m0
  go_wp2_with fail
  refine HC0.out.mono ?_
  rintro e w2 ⟨rfl, hw2⟩
  rw [show [] ++ [UInt8.ofNat (200 : Int).toNat] = ([200] : List UInt8) from by decide] at hw2
  have HW1 := Lib.hid (Wrt.step HK0.out HM0.out hw2)
  clear hw2
  obtain ⟨row1, h1, k1, m1⟩ := HW1.out
  have HC1 := Lib.hid (wu32_any w.heap.size row1 [200] 1 (by decide) (by decide) w2 h1 (by decide))
  have HK1 := Lib.hid k1
  have HM1 := Lib.hid m1
  clear h1 k1 m1
  go_wp2_with fail
  refine HC1.out.mono ?_
  rintro e w3 ⟨rfl, hw3⟩
  rw [show [200] ++ le4 (1 : Int).toNat = ([200, 1, 0, 0, 0] : List UInt8) from by decide] at hw3
  have HW2 := Lib.hid (Wrt.step HK1.out HM1.out hw3)
  clear hw3
  obtain ⟨row2, h2, k2, m2⟩ := HW2.out
  have HC2 := Lib.hid ((fun cs hcs => wput_new w.heap.size row2 [200, 1, 0, 0, 0] [127, 128, big64] (by decide) cs hcs 3 3 rfl w3 h2 (by decide)))
  have HK2 := Lib.hid k2
  have HM2 := Lib.hid m2
  clear h2 k2 m2
  go_wp2_with fail
  refine (HC2.out _ rfl).mono ?_
  rintro e w4 ⟨rfl, hw4⟩
  rw [flat1, show [200, 1, 0, 0, 0] ++ _ = ([200, 1, 0, 0, 0, 127, 128, 1, 255, 255, 255, 255, 255, 255, 255, 255, 255, 1] : List UInt8) from by decide] at hw4
  have HW3 := Lib.hid (Wrt.step HK2.out HM2.out hw4)
  clear hw4
  obtain ⟨row3, h3, k3, m3⟩ := HW3.out
  have HC3 := Lib.hid (wtext_any w.heap.size row3 [200, 1, 0, 0, 0, 127, 128, 1, 255, 255, 255, 255, 255, 255, 255, 255, 255, 1] [195, 169] w4 h3 (by decide))
  have HK3 := Lib.hid k3
  have HM3 := Lib.hid m3
  clear h3 k3 m3
  go_wp2_with fail
  refine HC3.out.mono ?_
  rintro e w5 ⟨rfl, hw5⟩
  rw [show ([195, 169] : List UInt8).length = 2 from rfl, short2, show [200, 1, 0, 0, 0, 127, 128, 1, 255, 255, 255, 255, 255, 255, 255, 255, 255, 1] ++ _ = ([200, 1, 0, 0, 0, 127, 128, 1, 255, 255, 255, 255, 255, 255, 255, 255, 255, 1, 2, 195, 169] : List UInt8) from by decide] at hw5
  have HW4 := Lib.hid (Wrt.step HK3.out HM3.out hw5)
  clear hw5
  obtain ⟨row4, h4, k4, m4⟩ := HW4.out
  have HC4 := Lib.hid (wraw_any w.heap.size row4 [200, 1, 0, 0, 0, 127, 128, 1, 255, 255, 255, 255, 255, 255, 255, 255, 255, 1, 2, 195, 169] [] none 0 0 w5 h4 (Bytes.nil_ _ _) rfl (fun h => absurd h (by decide)) (by decide))
  have HK4 := Lib.hid k4
  have HM4 := Lib.hid m4
  clear h4 k4 m4
  go_wp2_with fail
  refine HC4.out.mono ?_
  rintro e w6 ⟨rfl, hw6⟩
  rw [List.append_nil] at hw6
  have HW5 := Lib.hid (Wrt.step HK4.out HM4.out hw6)
  clear hw6
  obtain ⟨row5, h5, k5, m5⟩ := HW5.out
  have HC5 := Lib.hid ((fun cs hcs => wput_new w.heap.size row5 [200, 1, 0, 0, 0, 127, 128, 1, 255, 255, 255, 255, 255, 255, 255, 255, 255, 1, 2, 195, 169] [3, 2] (by decide) cs hcs 2 2 rfl w6 h5 (by decide)))
  have HK5 := Lib.hid k5
  have HM5 := Lib.hid m5
  clear h5 k5 m5
  go_wp2_with fail
  refine (HC5.out _ rfl).mono ?_
  rintro e w7 ⟨rfl, hw7⟩
  rw [flat2, show [200, 1, 0, 0, 0, 127, 128, 1, 255, 255, 255, 255, 255, 255, 255, 255, 255, 1, 2, 195, 169] ++ _ = ([200, 1, 0, 0, 0, 127, 128, 1, 255, 255, 255, 255, 255, 255, 255, 255, 255, 1, 2, 195, 169, 3, 2] : List UInt8) from by decide] at hw7
  have HW6 := Lib.hid (Wrt.step HK5.out HM5.out hw7)
  clear hw7
  have hB7 : Hid (Below w.heap.size w w7 ∧ w.heap.size ≤ w7.heap.size) := by
    have h := Wrt.below hB1.out.1 HW6.out hB1.out.2 (Nat.le_refl _)
    exact ⟨h, h.size⟩
  obtain ⟨row, hW7, _, _⟩ := HW6.out
  have HW7 : Hid (Wr w7 w.heap.size row [200, 1, 0, 0, 0, 127, 128, 1, 255, 255, 255, 255, 255, 255, 255, 255, 255, 1, 2, 195, 169, 3, 2]) := hW7
  clear hW7
  have HNa := fun cs hcs => Lib.hid (rdr_new (some ⟨w7.heap.size, 0, none⟩) 3 3 [129, 128, 0] _ (Bytes.block w7 5 [129, 128, 0] cs (0, 0) hcs) rfl (by decide))
  go_wp2_with fail
  refine (HNa _ rfl).out.mono ?_
  rintro e w8 ⟨ra, rfl, hra, hba⟩
  have HBa := Lib.hid ((below_new w7 _).trans (hba.mono (by simp)))
  have hB8 : Hid (Below w.heap.size w w8 ∧ w.heap.size ≤ w8.heap.size) := by
    have h := below_call hB7.out.1 hB7.out.2 HBa.out
    exact ⟨h, h.size⟩
  obtain ⟨loa, hloa⟩ : ∃ lo, lo = w7.heap.size := ⟨_, rfl⟩
  obtain ⟨hia, hhia⟩ : ∃ hi, hi = w8.heap.size := ⟨_, rfl⟩
  have HRa : Hid (Rdr w8 loa hia ra [129, 128, 0] 0 false) := hra.wide (by rw [hloa]; simp) (by rw [hhia]; exact Nat.le_refl _)
  have HOa : Hid (loa ≤ hia ∧ w.heap.size ≤ loa) := by
    have h1 := HBa.out.size
    have h2 := hB7.out.2
    exact ⟨by omega, by omega⟩
  have HW8 := Lib.hid (HW7.out.below HBa.out)
  clear hloa
  clear hra hba HBa HNa
  have HNb := fun cs hcs => Lib.hid (rdr_new (some ⟨w8.heap.size, 0, none⟩) 2 2 [129, 0] _ (Bytes.block w8 5 [129, 0] cs (0, 0) hcs) rfl (by decide))
  go_wp2_with fail
  refine (HNb _ rfl).out.mono ?_
  rintro e w9 ⟨rb, rfl, hrb, hbb⟩
  have HBb := Lib.hid ((below_new w8 _).trans (hbb.mono (by simp)))
  have hB9 : Hid (Below w.heap.size w w9 ∧ w.heap.size ≤ w9.heap.size) := by
    have h := below_call hB8.out.1 hB8.out.2 HBb.out
    exact ⟨h, h.size⟩
  obtain ⟨lob, hlob⟩ : ∃ lo, lo = w8.heap.size := ⟨_, rfl⟩
  obtain ⟨hib, hhib⟩ : ∃ hi, hi = w9.heap.size := ⟨_, rfl⟩
  have HRb : Hid (Rdr w9 lob hib rb [129, 0] 0 false) := hrb.wide (by rw [hlob]; simp) (by rw [hhib]; exact Nat.le_refl _)
  have HOb : Hid (lob ≤ hib ∧ w.heap.size ≤ lob) := by
    have h1 := HBb.out.size
    have h2 := hB8.out.2
    exact ⟨by omega, by omega⟩
  have HW9 := Lib.hid (HW8.out.below HBb.out)
  have HRa9 := Lib.hid (HRa.out.below HBb.out)
  clear HRa
  have HRa := HRa9
  clear HRa9
  have HQb : Hid (hia ≤ lob) := by rw [hhia, hlob]; exact Nat.le_refl _
  clear hhia hlob
  clear hrb hbb HBb HNb
  have HNc := fun cs hcs => Lib.hid (rdr_new (some ⟨w9.heap.size, 0, none⟩) 4 4 [2, 97, 98, 99] _ (Bytes.block w9 5 [2, 97, 98, 99] cs (0, 0) hcs) rfl (by decide))
  go_wp2_with fail
  refine (HNc _ rfl).out.mono ?_
  rintro e w10 ⟨rc, rfl, hrc, hbc⟩
  have HBc := Lib.hid ((below_new w9 _).trans (hbc.mono (by simp)))
  have hB10 : Hid (Below w.heap.size w w10 ∧ w.heap.size ≤ w10.heap.size) := by
    have h := below_call hB9.out.1 hB9.out.2 HBc.out
    exact ⟨h, h.size⟩
  obtain ⟨loc, hloc⟩ : ∃ lo, lo = w9.heap.size := ⟨_, rfl⟩
  obtain ⟨hic, hhic⟩ : ∃ hi, hi = w10.heap.size := ⟨_, rfl⟩
  have HRc : Hid (Rdr w10 loc hic rc [2, 97, 98, 99] 0 false) := hrc.wide (by rw [hloc]; simp) (by rw [hhic]; exact Nat.le_refl _)
  have HOc : Hid (loc ≤ hic ∧ w.heap.size ≤ loc) := by
    have h1 := HBc.out.size
    have h2 := hB9.out.2
    exact ⟨by omega, by omega⟩
  have HW10 := Lib.hid (HW9.out.below HBc.out)
  have HRa10 := Lib.hid (HRa.out.below HBc.out)
  clear HRa
  have HRa := HRa10
  clear HRa10
  have HRb10 := Lib.hid (HRb.out.below HBc.out)
  clear HRb
  have HRb := HRb10
  clear HRb10
  have HQc : Hid (hib ≤ loc) := by rw [hhib, hloc]; exact Nat.le_refl _
  clear hhib hloc
  clear hrc hbc HBc HNc
  have HNd := fun cs hcs => Lib.hid (rdr_new (some ⟨w10.heap.size, 0, none⟩) 4 4 [2, 97, 98, 99] _ (Bytes.block w10 5 [2, 97, 98, 99] cs (0, 0) hcs) rfl (by decide))
  go_wp2_with fail
  refine (HNd _ rfl).out.mono ?_
  rintro e w11 ⟨rd, rfl, hrd, hbd⟩
  have HBd := Lib.hid ((below_new w10 _).trans (hbd.mono (by simp)))
  have hB11 : Hid (Below w.heap.size w w11 ∧ w.heap.size ≤ w11.heap.size) := by
    have h := below_call hB10.out.1 hB10.out.2 HBd.out
    exact ⟨h, h.size⟩
  obtain ⟨lod, hlod⟩ : ∃ lo, lo = w10.heap.size := ⟨_, rfl⟩
  obtain ⟨hid, hhid⟩ : ∃ hi, hi = w11.heap.size := ⟨_, rfl⟩
  have HRd : Hid (Rdr w11 lod hid rd [2, 97, 98, 99] 0 false) := hrd.wide (by rw [hlod]; simp) (by rw [hhid]; exact Nat.le_refl _)
  have HOd : Hid (lod ≤ hid ∧ w.heap.size ≤ lod) := by
    have h1 := HBd.out.size
    have h2 := hB10.out.2
    exact ⟨by omega, by omega⟩
  have HW11 := Lib.hid (HW10.out.below HBd.out)
  have HRa11 := Lib.hid (HRa.out.below HBd.out)
  clear HRa
  have HRa := HRa11
  clear HRa11
  have HRb11 := Lib.hid (HRb.out.below HBd.out)
  clear HRb
  have HRb := HRb11
  clear HRb11
  have HRc11 := Lib.hid (HRc.out.below HBd.out)
  clear HRc
  have HRc := HRc11
  clear HRc11
  have HQd : Hid (hic ≤ lod) := by rw [hhic, hlod]; exact Nat.le_refl _
  clear hhic hlod
  clear hrd hbd HBd HNd
  have HNe := fun cs hcs => Lib.hid (rdr_new (some ⟨w11.heap.size, 0, none⟩) 1 1 [5] _ (Bytes.block w11 5 [5] cs (0, 0) hcs) rfl (by decide))
  go_wp2_with fail
  refine (HNe _ rfl).out.mono ?_
  rintro e w12 ⟨re, rfl, hre, hbe⟩
  have HBe := Lib.hid ((below_new w11 _).trans (hbe.mono (by simp)))
  have hB12 : Hid (Below w.heap.size w w12 ∧ w.heap.size ≤ w12.heap.size) := by
    have h := below_call hB11.out.1 hB11.out.2 HBe.out
    exact ⟨h, h.size⟩
  obtain ⟨loe, hloe⟩ : ∃ lo, lo = w11.heap.size := ⟨_, rfl⟩
  obtain ⟨hie, hhie⟩ : ∃ hi, hi = w12.heap.size := ⟨_, rfl⟩
  have HRe : Hid (Rdr w12 loe hie re [5] 0 false) := hre.wide (by rw [hloe]; simp) (by rw [hhie]; exact Nat.le_refl _)
  have HOe : Hid (loe ≤ hie ∧ w.heap.size ≤ loe) := by
    have h1 := HBe.out.size
    have h2 := hB11.out.2
    exact ⟨by omega, by omega⟩
  have HW12 := Lib.hid (HW11.out.below HBe.out)
  have HRa12 := Lib.hid (HRa.out.below HBe.out)
  clear HRa
  have HRa := HRa12
  clear HRa12
  have HRb12 := Lib.hid (HRb.out.below HBe.out)
  clear HRb
  have HRb := HRb12
  clear HRb12
  have HRc12 := Lib.hid (HRc.out.below HBe.out)
  clear HRc
  have HRc := HRc12
  clear HRc12
  have HRd12 := Lib.hid (HRd.out.below HBe.out)
  clear HRd
  have HRd := HRd12
  clear HRd12
  have HQe : Hid (hid ≤ loe) := by rw [hhid, hloe]; exact Nat.le_refl _
  clear hhid hloe
  clear hre hbe HBe HNe
  clear hhie
  have hq : ∀ x y : Nat × Nat, True := fun _ _ => trivial
  clear hq
  have hBy := Lib.hid (wbytes_any w.heap.size row [200, 1, 0, 0, 0, 127, 128, 1, 255, 255, 255, 255, 255, 255, 255, 255, 255, 1, 2, 195, 169, 3, 2] w12 HW12.out (by decide))
  go_wp2_with fail
  refine hBy.out.mono ?_
  rintro e w13 ⟨⟨A, c, rfl, ho⟩, hb⟩
  have hcv := conv_str (P := Tryd.prog) (w := w13) (n := 23) (c := c) Tryd.underlying27 Tryd.underlying5 Tryd.underlying9 (own_bytes ho) rfl
  have HB := Lib.hid hb
  have hB13 : Hid (Below w.heap.size w w13 ∧ w.heap.size ≤ w13.heap.size) := by
    have h := below_call hB12.out.1 hB12.out.2 HB.out
    exact ⟨h, h.size⟩
  have HW13 := Lib.hid (HW12.out.below HB.out)
  have HRa13 := Lib.hid (HRa.out.below HB.out)
  have HRb13 := Lib.hid (HRb.out.below HB.out)
  have HRc13 := Lib.hid (HRc.out.below HB.out)
  have HRd13 := Lib.hid (HRd.out.below HB.out)
  have HRe13 := Lib.hid (HRe.out.below HB.out)
  clear ho hb
  have HC14 := Lib.hid (wlen_any w.heap.size row [200, 1, 0, 0, 0, 127, 128, 1, 255, 255, 255, 255, 255, 255, 255, 255, 255, 1, 2, 195, 169, 3, 2] w13 HW13.out)
  go_wp2_with fail
  refine HC14.out.mono ?_
  rintro e w14 ⟨rfl, n14, hq14⟩
  have hqb : Below w13.heap.size w13 w14 := by rw [hq14]; exact below_drewN (Below.refl _ _) n14
  have HQB := Lib.hid hqb
  clear hq14 hqb
  have hB14 : Hid (Below w.heap.size w w14 ∧ w.heap.size ≤ w14.heap.size) := by
    have h := below_call hB13.out.1 hB13.out.2 HQB.out
    exact ⟨h, h.size⟩
  have HRa14 := Lib.hid (HRa13.out.below HQB.out)
  have HRb14 := Lib.hid (HRb13.out.below HQB.out)
  have HRc14 := Lib.hid (HRc13.out.below HQB.out)
  have HRd14 := Lib.hid (HRd13.out.below HQB.out)
  have HRe14 := Lib.hid (HRe13.out.below HQB.out)
  clear HQB HC14
  have hC15 := rdr_uint w14 loa hia ra [129, 128, 0] 0 false HRa14.out
  rw [show stepP 2 0 (List.drop 0 ([129, 128, 0] : List UInt8)) false = (0, [], 0, true) from by decide +kernel] at hC15
  have HC15 := Lib.hid hC15
  clear hC15
  go_wp2_with fail
  refine HC15.out.mono ?_
  rintro e w15 ⟨rfl, hr15, hm15⟩
  have HM := Lib.hid hm15
  clear hm15 HC15
  have hB15 : Hid (Below w.heap.size w w15 ∧ w.heap.size ≤ w15.heap.size) := by
    have h := Below.mod hB14.out.1 HM.out hB14.out.2 fun k hk => by have h1 := HOa.out; unfold Iv at hk; omega
    exact ⟨h, h.size⟩
  have HRa15 := Lib.hid hr15
  clear hr15
  have HRb15 := Lib.hid (HRb14.out.mod HM.out fun k h1 h2 h3 => by have qb := HQb.out; have qc := HQc.out; have qd := HQd.out; have qe := HQe.out; have oa := HOa.out; have ob := HOb.out; have oc := HOc.out; have od := HOd.out; have oe := HOe.out; unfold Iv at h3; omega)
  have HRc15 := Lib.hid (HRc14.out.mod HM.out fun k h1 h2 h3 => by have qb := HQb.out; have qc := HQc.out; have qd := HQd.out; have qe := HQe.out; have oa := HOa.out; have ob := HOb.out; have oc := HOc.out; have od := HOd.out; have oe := HOe.out; unfold Iv at h3; omega)
  have HRd15 := Lib.hid (HRd14.out.mod HM.out fun k h1 h2 h3 => by have qb := HQb.out; have qc := HQc.out; have qd := HQd.out; have qe := HQe.out; have oa := HOa.out; have ob := HOb.out; have oc := HOc.out; have od := HOd.out; have oe := HOe.out; unfold Iv at h3; omega)
  have HRe15 := Lib.hid (HRe14.out.mod HM.out fun k h1 h2 h3 => by have qb := HQb.out; have qc := HQc.out; have qd := HQd.out; have qe := HQe.out; have oa := HOa.out; have ob := HOb.out; have oc := HOc.out; have od := HOd.out; have oe := HOe.out; unfold Iv at h3; omega)
  clear HM
  have HC16 := Lib.hid (rdr_left w15 loa hia ra [129, 128, 0] 0 true HRa15.out)
  go_wp2_with fail
  refine HC16.out.mono ?_
  rintro e w16 ⟨rfl, n16, hq16⟩
  have hqb : Below w15.heap.size w15 w16 := by rw [hq16]; exact below_drewN (Below.refl _ _) n16
  have HQB := Lib.hid hqb
  clear hq16 hqb
  have hB16 : Hid (Below w.heap.size w w16 ∧ w.heap.size ≤ w16.heap.size) := by
    have h := below_call hB15.out.1 hB15.out.2 HQB.out
    exact ⟨h, h.size⟩
  have HRb16 := Lib.hid (HRb15.out.below HQB.out)
  have HRc16 := Lib.hid (HRc15.out.below HQB.out)
  have HRd16 := Lib.hid (HRd15.out.below HQB.out)
  have HRe16 := Lib.hid (HRe15.out.below HQB.out)
  clear HQB HC16
  have hC17 := rdr_uint w16 lob hib rb [129, 0] 0 false HRb16.out
  rw [show stepP 2 0 (List.drop 0 ([129, 0] : List UInt8)) false = (0, [], 0, true) from by decide +kernel] at hC17
  have HC17 := Lib.hid hC17
  clear hC17
  go_wp2_with fail
  refine HC17.out.mono ?_
  rintro e w17 ⟨rfl, hr17, hm17⟩
  have HM := Lib.hid hm17
  clear hm17 HC17
  have hB17 : Hid (Below w.heap.size w w17 ∧ w.heap.size ≤ w17.heap.size) := by
    have h := Below.mod hB16.out.1 HM.out hB16.out.2 fun k hk => by have h1 := HOb.out; unfold Iv at hk; omega
    exact ⟨h, h.size⟩
  have HRb17 := Lib.hid hr17
  clear hr17
  have HRc17 := Lib.hid (HRc16.out.mod HM.out fun k h1 h2 h3 => by have qb := HQb.out; have qc := HQc.out; have qd := HQd.out; have qe := HQe.out; have oa := HOa.out; have ob := HOb.out; have oc := HOc.out; have od := HOd.out; have oe := HOe.out; unfold Iv at h3; omega)
  have HRd17 := Lib.hid (HRd16.out.mod HM.out fun k h1 h2 h3 => by have qb := HQb.out; have qc := HQc.out; have qd := HQd.out; have qe := HQe.out; have oa := HOa.out; have ob := HOb.out; have oc := HOc.out; have od := HOd.out; have oe := HOe.out; unfold Iv at h3; omega)
  have HRe17 := Lib.hid (HRe16.out.mod HM.out fun k h1 h2 h3 => by have qb := HQb.out; have qc := HQc.out; have qd := HQd.out; have qe := HQe.out; have oa := HOa.out; have ob := HOb.out; have oc := HOc.out; have od := HOd.out; have oe := HOe.out; unfold Iv at h3; omega)
  clear HM
  have HC := Lib.hid (rdr_err w17 lob hib rb [129, 0] 0 true HRb17.out)
  go_wp2_with fail
  refine HC.out.mono ?_
  rintro e w0 ⟨rfl, rfl⟩
  clear HC
  have hC18 := rdr_text w17 loc hic rc [2, 97, 98, 99] 0 false HRc17.out 2 (by decide) (by decide)
  rw [show stepP 3 2 (List.drop 0 ([2, 97, 98, 99] : List UInt8)) false = (0, [97, 98], 3, false) from by decide +kernel] at hC18
  have HC18 := Lib.hid hC18
  clear hC18
  go_wp2_with fail
  refine HC18.out.mono ?_
  rintro e w18 ⟨rfl, hr18, hm18⟩
  have HM := Lib.hid hm18
  clear hm18 HC18
  have hB18 : Hid (Below w.heap.size w w18 ∧ w.heap.size ≤ w18.heap.size) := by
    have h := Below.mod hB17.out.1 HM.out hB17.out.2 fun k hk => by have h1 := HOc.out; unfold Iv at hk; omega
    exact ⟨h, h.size⟩
  have HRc18 := Lib.hid hr18
  clear hr18
  have HRd18 := Lib.hid (HRd17.out.mod HM.out fun k h1 h2 h3 => by have qb := HQb.out; have qc := HQc.out; have qd := HQd.out; have qe := HQe.out; have oa := HOa.out; have ob := HOb.out; have oc := HOc.out; have od := HOd.out; have oe := HOe.out; unfold Iv at h3; omega)
  have HRe18 := Lib.hid (HRe17.out.mod HM.out fun k h1 h2 h3 => by have qb := HQb.out; have qc := HQc.out; have qd := HQd.out; have qe := HQe.out; have oa := HOa.out; have ob := HOb.out; have oc := HOc.out; have od := HOd.out; have oe := HOe.out; unfold Iv at h3; omega)
  clear HM
  have HC19 := Lib.hid (rdr_left w18 loc hic rc [2, 97, 98, 99] 3 false HRc18.out)
  go_wp2_with fail
  refine HC19.out.mono ?_
  rintro e w19 ⟨rfl, n19, hq19⟩
  have hqb : Below w18.heap.size w18 w19 := by rw [hq19]; exact below_drewN (Below.refl _ _) n19
  have HQB := Lib.hid hqb
  clear hq19 hqb
  have hB19 : Hid (Below w.heap.size w w19 ∧ w.heap.size ≤ w19.heap.size) := by
    have h := below_call hB18.out.1 hB18.out.2 HQB.out
    exact ⟨h, h.size⟩
  have HRd19 := Lib.hid (HRd18.out.below HQB.out)
  have HRe19 := Lib.hid (HRe18.out.below HQB.out)
  clear HQB HC19
  have hC20 := rdr_text w19 lod hid rd [2, 97, 98, 99] 0 false HRd19.out 1 (by decide) (by decide)
  rw [show stepP 3 1 (List.drop 0 ([2, 97, 98, 99] : List UInt8)) false = (0, [], 0, true) from by decide +kernel] at hC20
  have HC20 := Lib.hid hC20
  clear hC20
  go_wp2_with fail
  refine HC20.out.mono ?_
  rintro e w20 ⟨rfl, hr20, hm20⟩
  have HM := Lib.hid hm20
  clear hm20 HC20
  have hB20 : Hid (Below w.heap.size w w20 ∧ w.heap.size ≤ w20.heap.size) := by
    have h := Below.mod hB19.out.1 HM.out hB19.out.2 fun k hk => by have h1 := HOd.out; unfold Iv at hk; omega
    exact ⟨h, h.size⟩
  have HRd20 := Lib.hid hr20
  clear hr20
  have HRe20 := Lib.hid (HRe19.out.mod HM.out fun k h1 h2 h3 => by have qb := HQb.out; have qc := HQc.out; have qd := HQd.out; have qe := HQe.out; have oa := HOa.out; have ob := HOb.out; have oc := HOc.out; have od := HOd.out; have oe := HOe.out; unfold Iv at h3; omega)
  clear HM
  have HC21 := Lib.hid (rdr_left w20 lod hid rd [2, 97, 98, 99] 0 true HRd20.out)
  go_wp2_with fail
  refine HC21.out.mono ?_
  rintro e w21 ⟨rfl, n21, hq21⟩
  have hqb : Below w20.heap.size w20 w21 := by rw [hq21]; exact below_drewN (Below.refl _ _) n21
  have HQB := Lib.hid hqb
  clear hq21 hqb
  have hB21 : Hid (Below w.heap.size w w21 ∧ w.heap.size ≤ w21.heap.size) := by
    have h := below_call hB20.out.1 hB20.out.2 HQB.out
    exact ⟨h, h.size⟩
  have HRe21 := Lib.hid (HRe20.out.below HQB.out)
  clear HQB HC21
  have hC22 := rdr_raw w21 loe hie re [5] 0 false HRe21.out 2
  rw [show stepP 4 2 (List.drop 0 ([5] : List UInt8)) false = (0, [], 0, true) from by decide +kernel] at hC22
  have HC22 := Lib.hid hC22
  clear hC22
  go_wp2_with fail
  refine HC22.out.mono ?_
  rintro e w22 ⟨⟨A9, c9, rfl, _⟩, hr22, hm22⟩
  have HM := Lib.hid hm22
  clear hm22 HC22
  have hB22 : Hid (Below w.heap.size w w22 ∧ w.heap.size ≤ w22.heap.size) := by
    have h := Below.mod hB21.out.1 HM.out hB21.out.2 fun k hk => by have h1 := HOe.out; unfold Iv at hk; omega
    exact ⟨h, h.size⟩
  have HRe22 := Lib.hid hr22
  clear hr22
  clear HM
  have hC23 := rdr_end w22 loe hie re [5] 0 true HRe22.out
  have HC23 := Lib.hid hC23
  clear hC23
  go_wp2_with fail
  refine HC23.out.mono ?_
  rintro e w23 ⟨rfl, hr23, hm23⟩
  have HM := Lib.hid hm23
  clear hm23 HC23
  have hB23 : Hid (Below w.heap.size w w23 ∧ w.heap.size ≤ w23.heap.size) := by
    have h := Below.mod hB22.out.1 HM.out hB22.out.2 fun k hk => by have h1 := HOe.out; unfold Iv at hk; omega
    exact ⟨h, h.size⟩
  have HRe23 := Lib.hid hr23
  clear hr23
  clear HM
  go_wp2_with fail
  go_ret
  exact ⟨rfl, hB23.out.1⟩
end Go.Proofs.YtcklbhplhpohpaaDoor
