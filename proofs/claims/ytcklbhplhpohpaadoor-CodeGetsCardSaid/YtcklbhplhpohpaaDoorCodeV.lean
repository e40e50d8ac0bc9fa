/- CodeNobody, walked. -/
import Derived.Test.YtcklbhplhpohpaaDoorCodeU
namespace Go.Proofs.YtcklbhplhpohpaaDoor
open Go.RowKit

theorem end_nil (w : World) : Calls Tryd.prog 29 #[.pointer none] w fun e w' => e = .returned (.int .i64 2) ∧ w = w' := by
  go_enter Tryd.func29, Tryd.ntmps29
  go_wp2_with fail
  refine (left_nil _).mono ?_
  rintro e w1 ⟨rfl, rfl⟩
  go_wp2_with fail
  refine (err_nil _).mono ?_
  rintro e w1 ⟨rfl, rfl⟩
  go_wp2_with fail
  go_ret
  exact ⟨rfl, rfl⟩
theorem stepP_empty (k m : Int) (f : Bool) : ∃ g, stepP k m [] f = (0, [], 0, g) := by
  cases f with
  | true => exact ⟨true, rfl⟩
  | false =>
    unfold stepP getP
    simp only [Bool.false_eq_true, if_false]
    by_cases h0 : k = 0
    · subst h0; exact ⟨true, rfl⟩
    by_cases h1 : k = 1
    · subst h1; exact ⟨true, rfl⟩
    by_cases h2 : k = 2
    · subst h2; exact ⟨true, rfl⟩
    by_cases h3 : k = 3
    · subst h3; exact ⟨true, rfl⟩
    · simp only [h0, h1, h2, h3, if_false]
      split
      · rename_i h
        split at h
        · rename_i hm
          simp only [List.length_nil] at hm
          obtain rfl : m = 0 := by omega
          simp at h
          obtain ⟨rfl, rfl, rfl⟩ := h
          exact ⟨false, rfl⟩
        · cases h
      · exact ⟨true, rfl⟩
theorem Pts.drop_val {w : World} {A : Option Addr} {l : List Pt} (h : Pts w A l) {k : Nat} (hk : k < l.length) : (l[k]).ok w := h.2 _ (List.getElem_mem hk)
/-- get of a reader in an interval. -/
theorem rdr_get (w : World) (lo hi r : Nat) (l : List UInt8) (q : Nat) (f : Bool) (p : Pt) (h : Rdr w lo hi r l q f) : Calls Tryd.prog 23 #[.pointer (some ⟨r, 0, none⟩), p.val] w fun e w' =>
    e = .returned (.tuple #[.int .u64 ((stepP p.k p.m.toInt (l.drop q) f).1 : Int), .string ⟨(stepP p.k p.m.toInt (l.drop q) f).2.1.toArray⟩]) ∧ Rdt lo hi r l q (stepP p.k p.m.toInt (l.drop q) f) w w' := by
  obtain ⟨A, c, h1, h2, h3, h4, h5⟩ := h
  exact (get_any r A c l q f p w h1 h5).mono fun e w' ⟨k1, k2⟩ => ⟨k1, Rdt.of h2 h3 h4 h5 k2⟩
/-- A zero reader. -/
theorem rdr_zero (w : World) : Rdr (w.alloc (.cells #[.slice none 0 0, .int .i64 0, .bool false] 58)) w.heap.size (w.heap.size + 1) w.heap.size [] 0 false :=
  ⟨none, 0, ⟨Blk.new _ _ _, Bytes.nil_ _ _, Nat.le_refl _, by omega, Nat.le_refl _, (fun _ e => by cases e), (fun _ e => by cases e)⟩, Nat.le_refl _, by omega, (fun _ e => by cases e), by simp⟩

set_option maxRecDepth 100000 in
set_option maxHeartbeats 2000000 in
theorem nobody_any (A : Option Addr) (c : Nat) (l : List Pt) (hl : l.length ≤ 9223372036854775807) (w : World) (h : Pts w A l) :
    Calls Tryd.prog 6 #[.slice A l.length c] w fun e w' => e = .returned (.bool true) ∧ Below w.heap.size w w' := by
  have H := Lib.hid h
  have HG := Lib.hid (great_any A c l hl w h)
  have HA := fun w => Lib.hid (awake_any w)
  clear h
  go_enter Tryd.func6, Tryd.ntmps6
  go_wp2_with fail
  refine HG.out.mono ?_
  rintro e w1 ⟨g, rfl, _, rfl⟩
  cases g with
  | true =>
    go_wp2_with fail
    refine (HA _).out.mono ?_
    rintro e w1 ⟨rfl, hb⟩
    have HB := Lib.hid hb
    clear hb
    go_wp2_with fail
    go_ret
    exact ⟨rfl, HB.out⟩
  | false =>
    obtain ⟨z, hz⟩ : ∃ z, z = w.heap.size := ⟨_, rfl⟩
    have hR := rdr_zero w
    rw [← hz] at hR
    have HR := Lib.hid hR
    have HZ := Lib.hid hz
    have hE := rdr_err _ z (z + 1) z [] 0 false hR
    have HE := Lib.hid hE
    clear hR hz hE
    go_wp2_with fail
    rw [← HZ.out]
    refine HE.out.mono ?_
    rintro e w1 ⟨rfl, rfl⟩
    have hE := rdr_end _ z (z + 1) z [] 0 false HR.out
    have HE2 := Lib.hid hE
    clear hE
    go_wp2_with fail
    refine HE2.out.mono ?_
    rintro e w2 ⟨rfl, hr2, hm2⟩
    have HB2 : Hid (Below z w w2) := Below.mod (S := Iv z (z + 1)) (by rw [HZ.out]; exact below_new _ _) hm2 (by rw [HZ.out]; simp) fun k hk => hk.1
    have HR2 := Lib.hid hr2
    clear hr2 hm2
    go_wp2_with fail
    go_loopw [5] (fun i wr => ∃ k : Nat, k ≤ l.length ∧ i = .int .i64 k ∧ (∃ f, Rdr wr z (z + 1) z [] 0 f) ∧ Below z w wr) (fun i _ => l.length - (intOf i).toNat)
    case atStart => exact ⟨0, Nat.zero_le _, rfl, ⟨_, HR2.out⟩, HB2.out⟩
    case round =>
      clear HR2 HB2
      obtain ⟨k, hk, rfl, ⟨f, hR⟩, hB⟩ := hrel
      have HR := Lib.hid hR
      have HB := Lib.hid hB
      have hzw : z ≤ wr.heap.size := by rw [HZ.out]; exact hB.size
      clear hR hB
      by_cases hlt : k < l.length
      · have hP : Pts wr A l := H.out.below (by have := HB.out; rw [HZ.out] at this; exact this)
        obtain ⟨b, o, rfl, hbl, c0, c1, c2, c3⟩ := hP.at_ hlt
        have HG1 := fun p => Lib.hid (getnil_any p wr)
        clear hP
        generalize l[k] = p at c0 c1 c2 c3
        unfold Pt.val at HG1
        go_wp2_with fail
        refine (HG1 p).out.mono ?_
        rintro e w3 ⟨rfl, hb3⟩
        have e0 := (hb3.cell (p := ⟨b, o + k * 4, none⟩) hbl).trans c0
        have e1 := (hb3.cell (p := ⟨b, o + k * 4 + 1, none⟩) hbl).trans c1
        have e2 := (hb3.cell (p := ⟨b, o + k * 4 + 2, none⟩) hbl).trans c2
        have e3 := (hb3.cell (p := ⟨b, o + k * 4 + 3, none⟩) hbl).trans c3
        have hR3 := HR.out.below hb3
        have HB3 : Hid (Below z w w3) := below_call HB.out hzw hb3
        obtain ⟨g, hst⟩ := stepP_empty p.k p.m.toInt f
        have hget := rdr_get w3 z (z + 1) z [] 0 f p hR3
        rw [List.drop_nil, hst] at hget
        unfold Pt.val at hget
        have HGET := Lib.hid hget
        have hz3 : z ≤ w3.heap.size := Nat.le_trans hzw hb3.size
        clear hget hst hR3 hb3 c0 c1 c2 c3
        go_wp2_with fail
        refine HGET.out.mono ?_
        rintro e w4 ⟨rfl, hr4, hm4⟩
        have HB4 : Hid (Below z w w4) := Below.mod HB3.out hm4 hz3 fun k hk => hk.1
        have HR4 : Hid (Rdr w4 z (z + 1) z [] 0 g) := hr4
        clear hr4 hm4
        go_wp2_with fail
        refine (fail_nil _).mono ?_
        rintro e w5 ⟨rfl, rfl⟩
        go_wp2_with fail
        refine (left_nil _).mono ?_
        rintro e w5 ⟨rfl, rfl⟩
        go_wp2_with fail
        refine (rdr_left w4 z (z + 1) z [] 0 g HR4.out).mono ?_
        rintro e w5 ⟨rfl, q, hq⟩
        have HB5 : Hid (Below z w w5) := by rw [hq]; exact HB4.out.trans (below_drewN (Below.refl _ _) q)
        have HR5 : Hid (Rdr w5 z (z + 1) z [] 0 g) := by rw [hq]; exact HR4.out.drewN q
        clear hq
        go_wp2_with fail
        refine (err_nil _).mono ?_
        rintro e w6 ⟨rfl, rfl⟩
        go_wp2_with fail
        go_roundw
        case rel => exact ⟨k + 1, by omega, by go_num, ⟨g, HR5.out⟩, HB5.out⟩
        case measure => simp [intOf]; omega
      · obtain rfl : k = l.length := by omega
        go_wp2_with fail
        refine (end_nil _).mono ?_
        rintro e w6 ⟨rfl, rfl⟩
        go_wp2_with fail
        refine (HA _).out.mono ?_
        rintro e w7 ⟨rfl, hb7⟩
        have HB7 := Lib.hid hb7
        clear hb7
        go_wp2_with fail
        go_ret
        refine ⟨rfl, ?_⟩
        have := below_call HB.out hzw HB7.out
        rw [HZ.out] at this
        exact this
namespace CodeNobody
theorem walk {w : World} (A : Option Addr) (l : List Pt) (c : Nat) (h : Pts w A l) (h1 : l.length ≤ c) (h2 : c ≤ 9223372036854775807) :
    Calls Tryd.prog 6 #[.slice A l.length c] w fun e w' => e = .returned (.bool true) ∧ Below w.heap.size w w' := nobody_any A c l (Nat.le_trans h1 h2) w h
end CodeNobody
end Go.Proofs.YtcklbhplhpohpaaDoor
