/- Packets compared. -/
import Derived.Test.YtdckdjkkaangmaaDoorWireQ
namespace Go.Proofs.YtdckdjkkaangmaaDoor
set_option linter.unusedVariables false
set_option linter.unusedSimpArgs false
set_option maxRecDepth 100000
open Go.RowKit

/-- A packet: its numbers and its texts by their places, its list. -/
structure Pk where
  n : Nat → Int
  t : Nat → List UInt8
  k : List Nat
def txtOffs : List Nat := [6, 18, 27, 37, 46, 55]
/-- The cells hold the packet. -/
structure PkV (w : World) (cs : Array Value) (P : Pk) : Prop where
  size : cs.size = 56
  kind : cs[0]? = some (.int .i64 (P.n 0)) ∧ -9223372036854775808 ≤ P.n 0 ∧ P.n 0 < 9223372036854775808
  ints : ∀ o ∈ intOffs, cs[o]? = some (.int .i64 (P.n o)) ∧ -9223372036854775808 ≤ P.n o ∧ P.n o < 9223372036854775808
  nums : ∀ o ∈ numOffs, cs[o]? = some (.int .u64 (P.n o)) ∧ 0 ≤ P.n o ∧ P.n o < 18446744073709551616
  txts : ∀ o ∈ txtOffs, ∃ A c, cs[o]? = some (.slice A (P.t o).length c) ∧ Bytes w A (P.t o) ∧ (P.t o).length ≤ c ∧ c ≤ 9223372036854775807 ∧ (P.t o).length ≤ 1000000
  keep : ∃ A c, cs[28]? = some (.slice A P.k.length c) ∧ Keeps w A P.k ∧ P.k.length ≤ c ∧ c ≤ 9223372036854775807 ∧ P.k.length ≤ 1000000
  keeps : ∀ x ∈ P.k, x < 18446744073709551616
  kb : ∀ A n c, cs[28]? = some (.slice A n c) → ∀ ad, A = some ad → ad.block < w.heap.size
theorem PkV.typ {w : World} {cs : Array Value} {P : Pk} (h : PkV w cs P) : PkT cs := ⟨fun o ho => ⟨_, h.ints o ho⟩, fun o ho => ⟨_, h.nums o ho⟩⟩
theorem PkV.below {w w' : World} {cs : Array Value} {P : Pk} (h : PkV w cs P) (hb : Below w.heap.size w w') : PkV w' cs P := by
  obtain ⟨h1, h2, h3, h4, h5, ⟨A, c, k1, k2, k3⟩, h7, h8⟩ := h
  refine ⟨h1, h2, h3, h4, fun o ho => ?_, ⟨A, c, k1, Reads.below k2 hb, k3⟩, h7, fun A n c e ad ea => Nat.lt_of_lt_of_le (h8 A n c e ad ea) hb.size⟩
  obtain ⟨A, c, e1, e2, e3⟩ := h5 o ho
  exact ⟨A, c, e1, e2.below hb, e3⟩
/-- Two are the same. -/
def PkEq (P Q : Pk) : Prop := P.n 0 = Q.n 0 ∧ (P.n 1 = Q.n 1 ∧ P.n 2 = Q.n 2 ∧ P.n 3 = Q.n 3 ∧ P.n 4 = Q.n 4 ∧ P.n 5 = Q.n 5 ∧ P.t 6 = Q.t 6) ∧ ((P.n 7 = Q.n 7 ∧ P.n 8 = Q.n 8 ∧ P.n 9 = Q.n 9 ∧ P.n 10 = Q.n 10 ∧ P.n 11 = Q.n 11 ∧ P.n 12 = Q.n 12 ∧ P.n 13 = Q.n 13 ∧ P.n 14 = Q.n 14 ∧ P.n 15 = Q.n 15 ∧ P.n 16 = Q.n 16 ∧ P.n 17 = Q.n 17) ∧ P.t 18 = Q.t 18) ∧ ((P.n 19 = Q.n 19 ∧ P.n 20 = Q.n 20 ∧ P.n 21 = Q.n 21 ∧ P.n 22 = Q.n 22 ∧ P.n 23 = Q.n 23 ∧ P.n 24 = Q.n 24 ∧ P.n 25 = Q.n 25 ∧ P.n 26 = Q.n 26) ∧ P.t 27 = Q.t 27 ∧ P.k = Q.k) ∧ ((P.n 29 = Q.n 29 ∧ P.n 30 = Q.n 30 ∧ P.n 31 = Q.n 31 ∧ P.n 32 = Q.n 32 ∧ P.n 33 = Q.n 33 ∧ P.n 34 = Q.n 34 ∧ P.n 35 = Q.n 35 ∧ P.n 36 = Q.n 36) ∧ P.t 37 = Q.t 37) ∧ ((P.n 38 = Q.n 38 ∧ P.n 39 = Q.n 39 ∧ P.n 40 = Q.n 40 ∧ P.n 41 = Q.n 41 ∧ P.n 42 = Q.n 42 ∧ P.n 43 = Q.n 43 ∧ P.n 44 = Q.n 44 ∧ P.n 45 = Q.n 45) ∧ P.t 46 = Q.t 46) ∧ ((P.n 47 = Q.n 47 ∧ P.n 48 = Q.n 48 ∧ P.n 49 = Q.n 49 ∧ P.n 50 = Q.n 50 ∧ P.n 51 = Q.n 51 ∧ P.n 52 = Q.n 52 ∧ P.n 53 = Q.n 53 ∧ P.n 54 = Q.n 54) ∧ P.t 55 = Q.t 55)
instance (P Q : Pk) : Decidable (PkEq P Q) := by unfold PkEq; infer_instance
set_option maxRecDepth 100000 in
set_option maxHeartbeats 64000000 in
theorem same_any {w : World} {ca cb : Array Value} {P Q : Pk} (hP : PkV w ca P) (hQ : PkV w cb Q) :
    Calls Tryd.prog 15 #[.agg ca, .agg cb] w fun e w' => e = .returned (.bool (decide (PkEq P Q))) ∧ Below w.heap.size w w' := by
  have hq := bal_eql
  have hg := bal_guard
  have hbW : Below w.heap.size w ((w.alloc (.cells ca 44)).alloc (.cells cb 44)) := (below_new w _).alloc (by simp) _
  have kA : Blk ((w.alloc (.cells ca 44)).alloc (.cells cb 44)) w.heap.size 44 ca := (Blk.new w _ _).alloc _
  have kB : Blk ((w.alloc (.cells ca 44)).alloc (.cells cb 44)) (w.heap.size + 1) 44 cb := by simpa using Blk.new (w.alloc (.cells ca 44)) 44 cb
  have hP0 := hP.below hbW
  have hQ0 := hQ.below hbW
  clear hP hQ
  rename PkV _ ca P => hP
  rename PkV _ cb Q => hQ
  have a0 := (Blk.cell kA 0).trans (hP.kind).1
  have b0 := (Blk.cell kB 0).trans (hQ.kind).1
  have a1 := (Blk.cell kA 1).trans (hP.ints 1 (by decide)).1
  have b1 := (Blk.cell kB 1).trans (hQ.ints 1 (by decide)).1
  have a2 := (Blk.cell kA 2).trans (hP.ints 2 (by decide)).1
  have b2 := (Blk.cell kB 2).trans (hQ.ints 2 (by decide)).1
  have a3 := (Blk.cell kA 3).trans (hP.nums 3 (by decide)).1
  have b3 := (Blk.cell kB 3).trans (hQ.nums 3 (by decide)).1
  have a4 := (Blk.cell kA 4).trans (hP.ints 4 (by decide)).1
  have b4 := (Blk.cell kB 4).trans (hQ.ints 4 (by decide)).1
  have a5 := (Blk.cell kA 5).trans (hP.nums 5 (by decide)).1
  have b5 := (Blk.cell kB 5).trans (hQ.nums 5 (by decide)).1
  obtain ⟨A6, c6, ha6, hBa6, _, _, hLa6⟩ := hP.txts 6 (by decide)
  have a6 := (Blk.cell kA 6).trans ha6
  clear ha6
  obtain ⟨B6, d6, hb6, hBb6, _, _, hLb6⟩ := hQ.txts 6 (by decide)
  have b6 := (Blk.cell kB 6).trans hb6
  clear hb6
  have HP := Lib.hid hP
  have HQ := Lib.hid hQ
  have HKA := Lib.hid kA
  have HKB := Lib.hid kB
  have HBW := Lib.hid hbW
  clear hP hQ kA kB hbW
  go_enter Tryd.func15, Tryd.ntmps15
  go_wp2_with fail
  · have HF : Hid (P.n 0 = Q.n 0 ∧ P.n 1 = Q.n 1 ∧ P.n 2 = Q.n 2 ∧ P.n 3 = Q.n 3 ∧ P.n 4 = Q.n 4 ∧ P.n 5 = Q.n 5) := by
      refine ⟨?_, ?_, ?_, ?_, ?_, ?_⟩ <;> omega
    refine (eqb_any _ _ _ _ _ _ _ hBa6 hBb6 (by omega) (by omega)).mono ?_
    rintro e w2 ⟨rfl, q, hw2⟩
    obtain ⟨W0, hW0⟩ : ∃ W0, W0 = ((w.alloc (.cells ca 44)).alloc (.cells cb 44)) := ⟨_, rfl⟩
    rw [← hW0] at hw2 HP HQ HKA HKB HBW
    have HB0 := HBW
    have HW0 : Hid (Below W0.heap.size W0 w2) := by show Below _ _ _; rw [hw2]; exact below_drewN (Below.refl _ _) q
    clear hw2 hW0
    by_cases hc : P.t 6 = Q.t 6
    · have hd : decide (P.t 6 = Q.t 6) = true := decide_eq_true hc
      have HC0 := Lib.hid hc
      clear hc a0 b0 a1 b1 a2 b2 a3 b3 a4 b4 a5 b5 a6 b6
      have hP := HP.out.below (HW0.out)
      have hQ := HQ.out.below (HW0.out)
      have kA := HKA.out.below (HW0.out) HKA.out.lt
      have kB := HKB.out.below (HW0.out) HKB.out.lt
      have a7 := (Blk.cell kA 7).trans (hP.ints 7 (by decide)).1
      have b7 := (Blk.cell kB 7).trans (hQ.ints 7 (by decide)).1
      have a8 := (Blk.cell kA 8).trans (hP.ints 8 (by decide)).1
      have b8 := (Blk.cell kB 8).trans (hQ.ints 8 (by decide)).1
      have a9 := (Blk.cell kA 9).trans (hP.nums 9 (by decide)).1
      have b9 := (Blk.cell kB 9).trans (hQ.nums 9 (by decide)).1
      have a10 := (Blk.cell kA 10).trans (hP.ints 10 (by decide)).1
      have b10 := (Blk.cell kB 10).trans (hQ.ints 10 (by decide)).1
      have a11 := (Blk.cell kA 11).trans (hP.nums 11 (by decide)).1
      have b11 := (Blk.cell kB 11).trans (hQ.nums 11 (by decide)).1
      have a12 := (Blk.cell kA 12).trans (hP.nums 12 (by decide)).1
      have b12 := (Blk.cell kB 12).trans (hQ.nums 12 (by decide)).1
      have a13 := (Blk.cell kA 13).trans (hP.ints 13 (by decide)).1
      have b13 := (Blk.cell kB 13).trans (hQ.ints 13 (by decide)).1
      have a14 := (Blk.cell kA 14).trans (hP.nums 14 (by decide)).1
      have b14 := (Blk.cell kB 14).trans (hQ.nums 14 (by decide)).1
      have a15 := (Blk.cell kA 15).trans (hP.nums 15 (by decide)).1
      have b15 := (Blk.cell kB 15).trans (hQ.nums 15 (by decide)).1
      have a16 := (Blk.cell kA 16).trans (hP.ints 16 (by decide)).1
      have b16 := (Blk.cell kB 16).trans (hQ.ints 16 (by decide)).1
      have a17 := (Blk.cell kA 17).trans (hP.nums 17 (by decide)).1
      have b17 := (Blk.cell kB 17).trans (hQ.nums 17 (by decide)).1
      obtain ⟨A18, c18, ha18, hBa18, _, _, hLa18⟩ := hP.txts 18 (by decide)
      have a18 := (Blk.cell kA 18).trans ha18
      clear ha18
      obtain ⟨B18, d18, hb18, hBb18, _, _, hLb18⟩ := hQ.txts 18 (by decide)
      have b18 := (Blk.cell kB 18).trans hb18
      clear hb18
      clear hP hQ kA kB
      go_wp2_with fail
      refine (ssays_any hBa18 hBb18 (by omega) (by omega)).mono ?_
      rintro e w3 ⟨rfl, hb⟩
      have HW1 : Hid (Below W0.heap.size W0 w3) := HW0.out.trans (hb.mono HW0.out.size)
      clear hb hd
      by_cases hc : (P.n 7 = Q.n 7 ∧ P.n 8 = Q.n 8 ∧ P.n 9 = Q.n 9 ∧ P.n 10 = Q.n 10 ∧ P.n 11 = Q.n 11 ∧ P.n 12 = Q.n 12 ∧ P.n 13 = Q.n 13 ∧ P.n 14 = Q.n 14 ∧ P.n 15 = Q.n 15 ∧ P.n 16 = Q.n 16 ∧ P.n 17 = Q.n 17) ∧ P.t 18 = Q.t 18
      · have hd : decide ((P.n 7 = Q.n 7 ∧ P.n 8 = Q.n 8 ∧ P.n 9 = Q.n 9 ∧ P.n 10 = Q.n 10 ∧ P.n 11 = Q.n 11 ∧ P.n 12 = Q.n 12 ∧ P.n 13 = Q.n 13 ∧ P.n 14 = Q.n 14 ∧ P.n 15 = Q.n 15 ∧ P.n 16 = Q.n 16 ∧ P.n 17 = Q.n 17) ∧ P.t 18 = Q.t 18) = true := decide_eq_true hc
        have HC1 := Lib.hid hc
        clear hc a7 b7 a8 b8 a9 b9 a10 b10 a11 b11 a12 b12 a13 b13 a14 b14 a15 b15 a16 b16 a17 b17 a18 b18
        have hP := HP.out.below (HW1.out)
        have hQ := HQ.out.below (HW1.out)
        have kA := HKA.out.below (HW1.out) HKA.out.lt
        have kB := HKB.out.below (HW1.out) HKB.out.lt
        have a19 := (Blk.cell kA 19).trans (hP.ints 19 (by decide)).1
        have b19 := (Blk.cell kB 19).trans (hQ.ints 19 (by decide)).1
        have a20 := (Blk.cell kA 20).trans (hP.nums 20 (by decide)).1
        have b20 := (Blk.cell kB 20).trans (hQ.nums 20 (by decide)).1
        have a21 := (Blk.cell kA 21).trans (hP.ints 21 (by decide)).1
        have b21 := (Blk.cell kB 21).trans (hQ.ints 21 (by decide)).1
        have a22 := (Blk.cell kA 22).trans (hP.nums 22 (by decide)).1
        have b22 := (Blk.cell kB 22).trans (hQ.nums 22 (by decide)).1
        have a23 := (Blk.cell kA 23).trans (hP.nums 23 (by decide)).1
        have b23 := (Blk.cell kB 23).trans (hQ.nums 23 (by decide)).1
        have a24 := (Blk.cell kA 24).trans (hP.nums 24 (by decide)).1
        have b24 := (Blk.cell kB 24).trans (hQ.nums 24 (by decide)).1
        have a25 := (Blk.cell kA 25).trans (hP.nums 25 (by decide)).1
        have b25 := (Blk.cell kB 25).trans (hQ.nums 25 (by decide)).1
        have a26 := (Blk.cell kA 26).trans (hP.ints 26 (by decide)).1
        have b26 := (Blk.cell kB 26).trans (hQ.ints 26 (by decide)).1
        obtain ⟨A27, c27, ha27, hBa27, _, _, hLa27⟩ := hP.txts 27 (by decide)
        have a27 := (Blk.cell kA 27).trans ha27
        clear ha27
        obtain ⟨B27, d27, hb27, hBb27, _, _, hLb27⟩ := hQ.txts 27 (by decide)
        have b27 := (Blk.cell kB 27).trans hb27
        clear hb27
        obtain ⟨A28, c28, ha28, hBa28, _, _, hLa28⟩ := hP.keep
        have a28 := (Blk.cell kA 28).trans ha28
        clear ha28
        obtain ⟨B28, d28, hb28, hBb28, _, _, hLb28⟩ := hQ.keep
        have b28 := (Blk.cell kB 28).trans hb28
        clear hb28
        clear hP hQ kA kB
        go_wp2_with fail
        refine (sreq_any hBa27 hBb27 (by omega) (by omega) hBa28 hBb28 (by omega) (by omega)).mono ?_
        rintro e w4 ⟨rfl, hb⟩
        have HW2 : Hid (Below W0.heap.size W0 w4) := HW1.out.trans (hb.mono HW1.out.size)
        clear hb hd
        by_cases hc : (P.n 19 = Q.n 19 ∧ P.n 20 = Q.n 20 ∧ P.n 21 = Q.n 21 ∧ P.n 22 = Q.n 22 ∧ P.n 23 = Q.n 23 ∧ P.n 24 = Q.n 24 ∧ P.n 25 = Q.n 25 ∧ P.n 26 = Q.n 26) ∧ P.t 27 = Q.t 27 ∧ P.k = Q.k
        · have hd : decide ((P.n 19 = Q.n 19 ∧ P.n 20 = Q.n 20 ∧ P.n 21 = Q.n 21 ∧ P.n 22 = Q.n 22 ∧ P.n 23 = Q.n 23 ∧ P.n 24 = Q.n 24 ∧ P.n 25 = Q.n 25 ∧ P.n 26 = Q.n 26) ∧ P.t 27 = Q.t 27 ∧ P.k = Q.k) = true := decide_eq_true hc
          have HC2 := Lib.hid hc
          clear hc a19 b19 a20 b20 a21 b21 a22 b22 a23 b23 a24 b24 a25 b25 a26 b26 a27 b27 a28 b28
          have hP := HP.out.below (HW2.out)
          have hQ := HQ.out.below (HW2.out)
          have kA := HKA.out.below (HW2.out) HKA.out.lt
          have kB := HKB.out.below (HW2.out) HKB.out.lt
          have a29 := (Blk.cell kA 29).trans (hP.ints 29 (by decide)).1
          have b29 := (Blk.cell kB 29).trans (hQ.ints 29 (by decide)).1
          have a30 := (Blk.cell kA 30).trans (hP.nums 30 (by decide)).1
          have b30 := (Blk.cell kB 30).trans (hQ.nums 30 (by decide)).1
          have a31 := (Blk.cell kA 31).trans (hP.ints 31 (by decide)).1
          have b31 := (Blk.cell kB 31).trans (hQ.ints 31 (by decide)).1
          have a32 := (Blk.cell kA 32).trans (hP.ints 32 (by decide)).1
          have b32 := (Blk.cell kB 32).trans (hQ.ints 32 (by decide)).1
          have a33 := (Blk.cell kA 33).trans (hP.nums 33 (by decide)).1
          have b33 := (Blk.cell kB 33).trans (hQ.nums 33 (by decide)).1
          have a34 := (Blk.cell kA 34).trans (hP.nums 34 (by decide)).1
          have b34 := (Blk.cell kB 34).trans (hQ.nums 34 (by decide)).1
          have a35 := (Blk.cell kA 35).trans (hP.nums 35 (by decide)).1
          have b35 := (Blk.cell kB 35).trans (hQ.nums 35 (by decide)).1
          have a36 := (Blk.cell kA 36).trans (hP.nums 36 (by decide)).1
          have b36 := (Blk.cell kB 36).trans (hQ.nums 36 (by decide)).1
          obtain ⟨A37, c37, ha37, hBa37, _, _, hLa37⟩ := hP.txts 37 (by decide)
          have a37 := (Blk.cell kA 37).trans ha37
          clear ha37
          obtain ⟨B37, d37, hb37, hBb37, _, _, hLb37⟩ := hQ.txts 37 (by decide)
          have b37 := (Blk.cell kB 37).trans hb37
          clear hb37
          clear hP hQ kA kB
          go_wp2_with fail
          refine (sresp_any hBa37 hBb37 (by omega) (by omega)).mono ?_
          rintro e w5 ⟨rfl, hb⟩
          have HW3 : Hid (Below W0.heap.size W0 w5) := HW2.out.trans (hb.mono HW2.out.size)
          clear hb hd
          by_cases hc : (P.n 29 = Q.n 29 ∧ P.n 30 = Q.n 30 ∧ P.n 31 = Q.n 31 ∧ P.n 32 = Q.n 32 ∧ P.n 33 = Q.n 33 ∧ P.n 34 = Q.n 34 ∧ P.n 35 = Q.n 35 ∧ P.n 36 = Q.n 36) ∧ P.t 37 = Q.t 37
          · have hd : decide ((P.n 29 = Q.n 29 ∧ P.n 30 = Q.n 30 ∧ P.n 31 = Q.n 31 ∧ P.n 32 = Q.n 32 ∧ P.n 33 = Q.n 33 ∧ P.n 34 = Q.n 34 ∧ P.n 35 = Q.n 35 ∧ P.n 36 = Q.n 36) ∧ P.t 37 = Q.t 37) = true := decide_eq_true hc
            have HC3 := Lib.hid hc
            clear hc a29 b29 a30 b30 a31 b31 a32 b32 a33 b33 a34 b34 a35 b35 a36 b36 a37 b37
            have hP := HP.out.below (HW3.out)
            have hQ := HQ.out.below (HW3.out)
            have kA := HKA.out.below (HW3.out) HKA.out.lt
            have kB := HKB.out.below (HW3.out) HKB.out.lt
            have a38 := (Blk.cell kA 38).trans (hP.ints 38 (by decide)).1
            have b38 := (Blk.cell kB 38).trans (hQ.ints 38 (by decide)).1
            have a39 := (Blk.cell kA 39).trans (hP.nums 39 (by decide)).1
            have b39 := (Blk.cell kB 39).trans (hQ.nums 39 (by decide)).1
            have a40 := (Blk.cell kA 40).trans (hP.nums 40 (by decide)).1
            have b40 := (Blk.cell kB 40).trans (hQ.nums 40 (by decide)).1
            have a41 := (Blk.cell kA 41).trans (hP.ints 41 (by decide)).1
            have b41 := (Blk.cell kB 41).trans (hQ.ints 41 (by decide)).1
            have a42 := (Blk.cell kA 42).trans (hP.ints 42 (by decide)).1
            have b42 := (Blk.cell kB 42).trans (hQ.ints 42 (by decide)).1
            have a43 := (Blk.cell kA 43).trans (hP.ints 43 (by decide)).1
            have b43 := (Blk.cell kB 43).trans (hQ.ints 43 (by decide)).1
            have a44 := (Blk.cell kA 44).trans (hP.nums 44 (by decide)).1
            have b44 := (Blk.cell kB 44).trans (hQ.nums 44 (by decide)).1
            have a45 := (Blk.cell kA 45).trans (hP.nums 45 (by decide)).1
            have b45 := (Blk.cell kB 45).trans (hQ.nums 45 (by decide)).1
            obtain ⟨A46, c46, ha46, hBa46, _, _, hLa46⟩ := hP.txts 46 (by decide)
            have a46 := (Blk.cell kA 46).trans ha46
            clear ha46
            obtain ⟨B46, d46, hb46, hBb46, _, _, hLb46⟩ := hQ.txts 46 (by decide)
            have b46 := (Blk.cell kB 46).trans hb46
            clear hb46
            clear hP hQ kA kB
            go_wp2_with fail
            refine (scall_any hBa46 hBb46 (by omega) (by omega)).mono ?_
            rintro e w6 ⟨rfl, hb⟩
            have HW4 : Hid (Below W0.heap.size W0 w6) := HW3.out.trans (hb.mono HW3.out.size)
            clear hb hd
            by_cases hc : (P.n 38 = Q.n 38 ∧ P.n 39 = Q.n 39 ∧ P.n 40 = Q.n 40 ∧ P.n 41 = Q.n 41 ∧ P.n 42 = Q.n 42 ∧ P.n 43 = Q.n 43 ∧ P.n 44 = Q.n 44 ∧ P.n 45 = Q.n 45) ∧ P.t 46 = Q.t 46
            · have hd : decide ((P.n 38 = Q.n 38 ∧ P.n 39 = Q.n 39 ∧ P.n 40 = Q.n 40 ∧ P.n 41 = Q.n 41 ∧ P.n 42 = Q.n 42 ∧ P.n 43 = Q.n 43 ∧ P.n 44 = Q.n 44 ∧ P.n 45 = Q.n 45) ∧ P.t 46 = Q.t 46) = true := decide_eq_true hc
              have HC4 := Lib.hid hc
              clear hc a38 b38 a39 b39 a40 b40 a41 b41 a42 b42 a43 b43 a44 b44 a45 b45 a46 b46
              have hP := HP.out.below (HW4.out)
              have hQ := HQ.out.below (HW4.out)
              have kA := HKA.out.below (HW4.out) HKA.out.lt
              have kB := HKB.out.below (HW4.out) HKB.out.lt
              have a47 := (Blk.cell kA 47).trans (hP.ints 47 (by decide)).1
              have b47 := (Blk.cell kB 47).trans (hQ.ints 47 (by decide)).1
              have a48 := (Blk.cell kA 48).trans (hP.nums 48 (by decide)).1
              have b48 := (Blk.cell kB 48).trans (hQ.nums 48 (by decide)).1
              have a49 := (Blk.cell kA 49).trans (hP.nums 49 (by decide)).1
              have b49 := (Blk.cell kB 49).trans (hQ.nums 49 (by decide)).1
              have a50 := (Blk.cell kA 50).trans (hP.ints 50 (by decide)).1
              have b50 := (Blk.cell kB 50).trans (hQ.ints 50 (by decide)).1
              have a51 := (Blk.cell kA 51).trans (hP.nums 51 (by decide)).1
              have b51 := (Blk.cell kB 51).trans (hQ.nums 51 (by decide)).1
              have a52 := (Blk.cell kA 52).trans (hP.ints 52 (by decide)).1
              have b52 := (Blk.cell kB 52).trans (hQ.ints 52 (by decide)).1
              have a53 := (Blk.cell kA 53).trans (hP.ints 53 (by decide)).1
              have b53 := (Blk.cell kB 53).trans (hQ.ints 53 (by decide)).1
              have a54 := (Blk.cell kA 54).trans (hP.nums 54 (by decide)).1
              have b54 := (Blk.cell kB 54).trans (hQ.nums 54 (by decide)).1
              obtain ⟨A55, c55, ha55, hBa55, _, _, hLa55⟩ := hP.txts 55 (by decide)
              have a55 := (Blk.cell kA 55).trans ha55
              clear ha55
              obtain ⟨B55, d55, hb55, hBb55, _, _, hLb55⟩ := hQ.txts 55 (by decide)
              have b55 := (Blk.cell kB 55).trans hb55
              clear hb55
              clear hP hQ kA kB
              go_wp2_with fail
              refine (sreply_any hBa55 hBb55 (by omega) (by omega)).mono ?_
              rintro e w7 ⟨rfl, hb⟩
              have HW5 : Hid (Below W0.heap.size W0 w7) := HW4.out.trans (hb.mono HW4.out.size)
              clear hb hd
              by_cases hc : (P.n 47 = Q.n 47 ∧ P.n 48 = Q.n 48 ∧ P.n 49 = Q.n 49 ∧ P.n 50 = Q.n 50 ∧ P.n 51 = Q.n 51 ∧ P.n 52 = Q.n 52 ∧ P.n 53 = Q.n 53 ∧ P.n 54 = Q.n 54) ∧ P.t 55 = Q.t 55
              · have hd : decide ((P.n 47 = Q.n 47 ∧ P.n 48 = Q.n 48 ∧ P.n 49 = Q.n 49 ∧ P.n 50 = Q.n 50 ∧ P.n 51 = Q.n 51 ∧ P.n 52 = Q.n 52 ∧ P.n 53 = Q.n 53 ∧ P.n 54 = Q.n 54) ∧ P.t 55 = Q.t 55) = true := decide_eq_true hc
                have HC5 := Lib.hid hc
                clear hc a47 b47 a48 b48 a49 b49 a50 b50 a51 b51 a52 b52 a53 b53 a54 b54 a55 b55
                go_wp2_with fail
                go_ret
                exact ⟨ret_bool (by symm; rw [decide_eq_true_iff]; exact ⟨HF.out.1, ⟨HF.out.2.1, HF.out.2.2.1, HF.out.2.2.2.1, HF.out.2.2.2.2.1, HF.out.2.2.2.2.2, HC0.out⟩, HC1.out, HC2.out, HC3.out, HC4.out, HC5.out⟩), HB0.out.trans (HW5.out.mono HB0.out.size)⟩
              · have hd : decide ((P.n 47 = Q.n 47 ∧ P.n 48 = Q.n 48 ∧ P.n 49 = Q.n 49 ∧ P.n 50 = Q.n 50 ∧ P.n 51 = Q.n 51 ∧ P.n 52 = Q.n 52 ∧ P.n 53 = Q.n 53 ∧ P.n 54 = Q.n 54) ∧ P.t 55 = Q.t 55) = false := decide_eq_false hc
                have HN := Lib.hid hc
                clear hc a47 b47 a48 b48 a49 b49 a50 b50 a51 b51 a52 b52 a53 b53 a54 b54 a55 b55
                go_wp2_with fail
                go_ret
                exact ⟨ret_bool (by symm; rw [decide_eq_false_iff_not]; intro h; exact HN.out h.2.2.2.2.2.2), HB0.out.trans (HW5.out.mono HB0.out.size)⟩
            · have hd : decide ((P.n 38 = Q.n 38 ∧ P.n 39 = Q.n 39 ∧ P.n 40 = Q.n 40 ∧ P.n 41 = Q.n 41 ∧ P.n 42 = Q.n 42 ∧ P.n 43 = Q.n 43 ∧ P.n 44 = Q.n 44 ∧ P.n 45 = Q.n 45) ∧ P.t 46 = Q.t 46) = false := decide_eq_false hc
              have HN := Lib.hid hc
              clear hc a38 b38 a39 b39 a40 b40 a41 b41 a42 b42 a43 b43 a44 b44 a45 b45 a46 b46
              go_wp2_with fail
              go_ret
              exact ⟨ret_bool (by symm; rw [decide_eq_false_iff_not]; intro h; exact HN.out h.2.2.2.2.2.1), HB0.out.trans (HW4.out.mono HB0.out.size)⟩
          · have hd : decide ((P.n 29 = Q.n 29 ∧ P.n 30 = Q.n 30 ∧ P.n 31 = Q.n 31 ∧ P.n 32 = Q.n 32 ∧ P.n 33 = Q.n 33 ∧ P.n 34 = Q.n 34 ∧ P.n 35 = Q.n 35 ∧ P.n 36 = Q.n 36) ∧ P.t 37 = Q.t 37) = false := decide_eq_false hc
            have HN := Lib.hid hc
            clear hc a29 b29 a30 b30 a31 b31 a32 b32 a33 b33 a34 b34 a35 b35 a36 b36 a37 b37
            go_wp2_with fail
            go_ret
            exact ⟨ret_bool (by symm; rw [decide_eq_false_iff_not]; intro h; exact HN.out h.2.2.2.2.1), HB0.out.trans (HW3.out.mono HB0.out.size)⟩
        · have hd : decide ((P.n 19 = Q.n 19 ∧ P.n 20 = Q.n 20 ∧ P.n 21 = Q.n 21 ∧ P.n 22 = Q.n 22 ∧ P.n 23 = Q.n 23 ∧ P.n 24 = Q.n 24 ∧ P.n 25 = Q.n 25 ∧ P.n 26 = Q.n 26) ∧ P.t 27 = Q.t 27 ∧ P.k = Q.k) = false := decide_eq_false hc
          have HN := Lib.hid hc
          clear hc a19 b19 a20 b20 a21 b21 a22 b22 a23 b23 a24 b24 a25 b25 a26 b26 a27 b27 a28 b28
          go_wp2_with fail
          go_ret
          exact ⟨ret_bool (by symm; rw [decide_eq_false_iff_not]; intro h; exact HN.out h.2.2.2.1), HB0.out.trans (HW2.out.mono HB0.out.size)⟩
      · have hd : decide ((P.n 7 = Q.n 7 ∧ P.n 8 = Q.n 8 ∧ P.n 9 = Q.n 9 ∧ P.n 10 = Q.n 10 ∧ P.n 11 = Q.n 11 ∧ P.n 12 = Q.n 12 ∧ P.n 13 = Q.n 13 ∧ P.n 14 = Q.n 14 ∧ P.n 15 = Q.n 15 ∧ P.n 16 = Q.n 16 ∧ P.n 17 = Q.n 17) ∧ P.t 18 = Q.t 18) = false := decide_eq_false hc
        have HN := Lib.hid hc
        clear hc a7 b7 a8 b8 a9 b9 a10 b10 a11 b11 a12 b12 a13 b13 a14 b14 a15 b15 a16 b16 a17 b17 a18 b18
        go_wp2_with fail
        go_ret
        exact ⟨ret_bool (by symm; rw [decide_eq_false_iff_not]; intro h; exact HN.out h.2.2.1), HB0.out.trans (HW1.out.mono HB0.out.size)⟩
    · have hd : decide (P.t 6 = Q.t 6) = false := decide_eq_false hc
      have HN := Lib.hid hc
      clear hc a0 b0 a1 b1 a2 b2 a3 b3 a4 b4 a5 b5 a6 b6
      go_wp2_with fail
      go_ret
      exact ⟨ret_bool (by symm; rw [decide_eq_false_iff_not]; intro h; exact HN.out h.2.1.2.2.2.2.2), HB0.out.trans (HW0.out.mono HB0.out.size)⟩
  all_goals
    go_ret
    exact ⟨ret_bool (by symm; rw [decide_eq_false_iff_not]; intro h; unfold PkEq at h; omega), HBW.out⟩
end Go.Proofs.YtdckdjkkaangmaaDoor
