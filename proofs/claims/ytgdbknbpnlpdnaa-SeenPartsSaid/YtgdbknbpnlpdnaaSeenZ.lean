/- The walk of SeenParts. -/
import Derived.Test.YtgdbknbpnlpdnaaSeenW
namespace Go.Proofs.Ytgdbknbpnlpdnaa
open Go.RowKit

set_option maxRecDepth 100000 in
set_option maxHeartbeats 4000000 in
theorem partsLaw_any (A : Option Addr) (c : Nat) (l : List Mk) (fr : UInt64) (X : Option Addr) (xc : Nat) (a : List En) (Y : Option Addr) (yc : Nat) (b : List En) (w : World) (hA : Marks w A l) (hX : Entries w X a) (hY : Entries w Y b)
    (n1 : l.length ≤ 1000) (n2 : a.length ≤ 1000) (n3 : b.length ≤ 1000) (n4 : fr.toNat ≤ 2305843009213693952) (h6 : ∀ e ∈ a, e.n ≤ 9223372036854775807) (h7 : ∀ e ∈ b, e.n ≤ 9223372036854775807) :
    Calls Try.prog 6 #[.slice A l.length c, .int .u64 (fr.toNat : Int), .slice X a.length xc, .slice Y b.length yc] w fun e w' => e = .returned (.bool true) ∧ Below w.heap.size w w' := by
  have HL1 := Lib.hid (long_any X xc a w hX (by omega) h6)
  have HL2 := Lib.hid (long_any Y yc b w hY (by omega) h7)
  clear h6 h7
  go_enter Try.func6, Try.ntmps6
  go_wp2_with fail
  refine HL1.out.mono ?_
  rintro e w1 ⟨⟨b1, rfl, _⟩, rfl⟩
  cases b1 with
  | true =>
    go_wp2_with fail
    refine (awake_any _).mono ?_
    rintro e w2 ⟨rfl, hb2⟩
    go_wp2_with fail
    go_ret
    exact ⟨rfl, hb2⟩
  | false =>
    go_wp2_with fail
    refine HL2.out.mono ?_
    rintro e w1 ⟨⟨b2, rfl, _⟩, rfl⟩
    clear HL1 HL2
    cases b2 with
    | true =>
      go_wp2_with fail
      refine (awake_any _).mono ?_
      rintro e w2 ⟨rfl, hb2⟩
      go_wp2_with fail
      go_ret
      exact ⟨rfl, hb2⟩
    | false =>
      have hrA := En.row_one a
      have hrB := En.row_one b
      have hownA : (w.alloc (.cells #[] 30)).ownsRow w.heap.size 30 3 (.slice (some ⟨w.heap.size, 0, none⟩) 0 0) 0 [] := World.ownsRow_made _ _ _ (Nat.le_refl _) (by simp [maxLen]) rfl
      have hXa : Entries (w.alloc (.cells #[] 30)) X a := hX.below (below_new _ _)
      have hx1 : (0 + a.length) * 40 ≤ 140737488355328 := by omega
      have hx2 : (0 + a.length + b.length) * 40 ≤ 140737488355328 := by omega
      have hx3 : w.heap.size ≤ (w.alloc (.cells #[] 30)).heap.size := by rw [alloc_size]; omega
      go_wp2_with (first
        | (at_builtin
           refine app_list entries_ty rfl (s := .tmp 40) (x := .tmp 41) rfl hownA rfl hXa rfl hrA hx1 hx3 ?_
           intro v2 w2 hown2 hg2 _
           have hw2 : Below w.heap.size w w2 := (below_new _ _).grown hg2 hx3 (own_ge hownA)
           have hYb : Entries w2 Y b := hY.below hw2)
        | (at_builtin
           refine app_list entries_ty rfl (s := .tmp 42) (x := .tmp 43) rfl hown2 rfl hYb rfl hrB hx2 hw2.size ?_
           intro v3 w3 hown3 hg3 _
           have hw3 : Below w.heap.size w w3 := own_below hw2 hg3 hw2.size (own_ge hown2)
           obtain ⟨A3, c3, rfl, hc3, _⟩ := own_slice hown3))
      have hlen3 : 0 + a.length + b.length = (a ++ b).length := by rw [List.length_append]; omega
      have hAB : Entries w3 A3 (a ++ b) := by
        rw [List.nil_append, ← En.row_append, hlen3] at hown3
        exact Entries.of_own hown3
      have hlen4 : a.length + b.length = (a ++ b).length := by rw [List.length_append]
      rw [hlen4]
      clear hlen4
      clear hown3 hg3 hown2 hg2 hownA hXa hYb hw2 hx1 hx2 hx3 hrA hrB hlen3
      have k3 := hw3
      -- all
      have hp := take_any A c l fr A3 c3 (a ++ b) w3 (hA.below k3) hAB (by omega) (by rw [List.length_append]; omega)
      have l1 := takeS_le l fr (a ++ b)
      obtain ⟨e1, he1⟩ : ∃ e1, e1 = takeS l fr (a ++ b) := ⟨_, rfl⟩
      rw [← he1] at hp l1
      have HE1 := Lib.hid he1.symm
      clear he1
      refine hp.mono ?_
      clear hp
      rintro e w4 ⟨hq, hb4⟩
      obtain ⟨A4, c4, rfl, hown4⟩ := hq.form
      have hM4 := hown4.marks
      have k4 := below_call k3 k3.size hb4
      clear hq hown4
      go_wp2_with fail
      -- one
      have hp := take_any A c l fr X xc a w4 (hA.below k4) (hX.below k4) (by omega) (by omega)
      have l2 := takeS_le l fr a
      obtain ⟨e2, he2⟩ : ∃ e2, e2 = takeS l fr a := ⟨_, rfl⟩
      rw [← he2] at hp l2
      have HE2 := Lib.hid he2.symm
      clear he2
      refine hp.mono ?_
      clear hp
      rintro e w5 ⟨hq, hb5⟩
      obtain ⟨A5, c5, rfl, hown5⟩ := hq.form
      have hM5 := hown5.marks
      have k5 := below_call k4 k4.size hb5
      replace hM4 := hM4.below hb5
      clear hq hown5 hb4 hb5 hAB k3 k4
      cases e1 with
      | none =>
        rw [show outOf none = (1, []) from rfl]
        generalize outOf e2 = o2
        obtain ⟨o21, o22⟩ := o2
        simp only
        go_wp2_with fail
        refine (awake_any _).mono ?_
        rintro e w6 ⟨rfl, hb6⟩
        go_wp2_with fail
        go_ret
        exact ⟨rfl, below_call k5 k5.size hb6⟩
      | some g1 =>
        cases e2 with
        | none =>
          rw [show outOf none = (1, []) from rfl]
          cases g1 with
          | none =>
            rw [show outOf (some none) = (3, []) from rfl]
            go_wp2_with fail
            refine (awake_any _).mono ?_
            rintro e w6 ⟨rfl, hb6⟩
            go_wp2_with fail
            go_ret
            exact ⟨rfl, below_call k5 k5.size hb6⟩
          | some all =>
            rw [show outOf (some (some all)) = (0, all) from rfl]
            go_wp2_with fail
            refine (awake_any _).mono ?_
            rintro e w6 ⟨rfl, hb6⟩
            go_wp2_with fail
            go_ret
            exact ⟨rfl, below_call k5 k5.size hb6⟩
        | some g2 =>
          obtain ⟨hP1, hP2⟩ := parts_plain n4 n2 n3 HE1.out HE2.out
          cases g2 with
          | none =>
            have hg1 := hP1 rfl
            clear hP1 hP2
            subst hg1
            rw [show outOf (some none) = (3, []) from rfl]
            go_wp2_with fail
            refine (awake_any _).mono ?_
            rintro e w6 ⟨rfl, hb6⟩
            go_wp2_with fail
            go_ret
            exact ⟨rfl, below_call k5 k5.size hb6⟩
          | some one =>
            obtain ⟨p1, p2, p3, p4, p5⟩ := hP2 one rfl
            clear hP1 hP2
            have hoff : ((fr + UInt64.ofNat a.length).toNat : Int) = (fr.toNat : Int) + (a.length : Int) := off_at fr a.length (by omega)
            have HTWO := Lib.hid (fun W h1 h2 => take_any A5 c5 one (fr + UInt64.ofNat a.length) Y yc b W h1 h2 (by have := p1.1; omega) (by omega))
            have HSELF := Lib.hid (fun W h1 => join_any A5 c5 one A5 c5 one W h1 h1 (by have := p1.1; omega) (by have := p1.1; omega))
            have HAL := Lib.hid (fun W h2 => take_any none 0 [] (fr + UInt64.ofNat a.length) Y yc b W (Marks.nil_ W none) h2 (by simp) (by omega))
            have HJ := Lib.hid (fun B cb al W h1 h2 (h3 : al.length ≤ 10000) => join_any A5 c5 one B cb al W h1 h2 (by have := p1.1; omega) h3)
            have P1 := Lib.hid p1
            have P3 := Lib.hid p3
            have P5 := Lib.hid p5
            have lo := p1.1
            simp only [p2, p3, p4, hoff] at HTWO HSELF HAL
            clear p2 p3 p4 p5 p1 HE1 HE2
            rw [show outOf (some (some one)) = (0, one) from rfl] at hM5 l2 ⊢
            simp only at hM5 l2 ⊢
            have hle : (fr.toNat : Int) + (a.length : Int) ≤ 4611686018427387903 := by omega
            clear hoff
            cases g1 with
            | none =>
              go_wp2_with fail
              refine (HTWO.out _ hM5 (hY.below k5)).mono ?_
              clear HTWO
              rintro e w7 ⟨hq, hb6⟩
              have hq' : e = .returned (.tuple #[.slice none 0 0, .int .i64 3]) := hq
              subst hq'
              clear hq
              have k7 := below_call k5 k5.size hb6
              replace hM4 := hM4.below hb6
              replace hM5 := hM5.below hb6
              clear hb6 k5
              go_wp2_with fail
              refine (HSELF.out _ hM5).mono ?_
              rintro e w8 ⟨⟨v8, rfl, hown8⟩, hb8⟩
              obtain ⟨A8, c8, rfl, _, _⟩ := hown8.form
              have hM8 := hown8.marks
              have k8 := below_call k7 k7.size hb8
              replace hM4 := hM4.below hb8
              replace hM5 := hM5.below hb8
              clear hown8 hb8 k7 HSELF
              go_wp2_with fail
              have hs := same_b A8 A5 c8 c5 one one w8 hM8 hM5 (by omega) (by omega)
              rw [self_true] at hs
              refine hs.mono ?_
              clear hs
              rintro e w9 ⟨rfl, hb9⟩
              have k9 := below_call k8 k8.size hb9
              replace hM4 := hM4.below hb9
              replace hM5 := hM5.below hb9
              clear hb9 k8 hM8
              go_wp2_with fail
              refine (HAL.out _ (hY.below k9)).mono ?_
              clear HAL
              rintro e w10 ⟨hq, hb10⟩
              have k10 := below_call k9 k9.size hb10
              replace hM4 := hM4.below hb10
              replace hM5 := hM5.below hb10
              have p5 := P5.out
              clear P5
              generalize goesS [] (marksUp (fr + UInt64.ofNat a.length) b b.length) = ga at hq p5
              cases ga with
              | none =>
                have hq' : e = .returned (.tuple #[.slice none 0 0, .int .i64 3]) := hq
                subst hq'
                clear hq p5 hb10 k9
                go_wp2_with fail
                refine (awake_any _).mono ?_
                rintro e w11 ⟨rfl, hb11⟩
                go_wp2_with fail
                go_ret
                exact ⟨rfl, below_call k10 k10.size hb11⟩
              | some alone =>
                obtain ⟨pal, pj⟩ := p5 alone rfl
                obtain ⟨v10, rfl, hown10⟩ := hq
                obtain ⟨A10, c10, rfl, _, _⟩ := hown10.form
                have hM10 := hown10.marks
                have lal := pal.1
                clear hown10 hb10 k9 p5
                go_wp2_with fail
                refine (awake_any _).mono ?_
                rintro e w11 ⟨rfl, hb11⟩
                go_wp2_with fail
                go_ret
                exact ⟨rfl, below_call k10 k10.size hb11⟩
            | some all =>
              rw [show outOf (some (some all)) = (0, all) from rfl] at hM4 l1 ⊢
              simp only at hM4 l1 ⊢
              go_wp2_with fail
              refine (HTWO.out _ hM5 (hY.below k5)).mono ?_
              clear HTWO
              rintro e w6 ⟨⟨v6, rfl, hown6⟩, hb6⟩
              obtain ⟨A6, c6, rfl, _, _⟩ := hown6.form
              have hM6 := hown6.marks
              have k6 := below_call k5 k5.size hb6
              replace hM4 := hM4.below hb6
              replace hM5 := hM5.below hb6
              clear hown6 hb6 k5
              go_wp2_with fail
              have hs := same_b A6 A4 c6 c4 all all w6 hM6 hM4 (by omega) (by omega)
              rw [self_true] at hs
              refine hs.mono ?_
              clear hs
              rintro e w7 ⟨rfl, hb7⟩
              have k7 := below_call k6 k6.size hb7
              replace hM4 := hM4.below hb7
              replace hM5 := hM5.below hb7
              clear hb7 k6 hM6
              go_wp2_with fail
              refine (HSELF.out _ hM5).mono ?_
              rintro e w8 ⟨⟨v8, rfl, hown8⟩, hb8⟩
              obtain ⟨A8, c8, rfl, _, _⟩ := hown8.form
              have hM8 := hown8.marks
              have k8 := below_call k7 k7.size hb8
              replace hM4 := hM4.below hb8
              replace hM5 := hM5.below hb8
              clear hown8 hb8 k7 HSELF
              go_wp2_with fail
              have hs := same_b A8 A5 c8 c5 one one w8 hM8 hM5 (by omega) (by omega)
              rw [self_true] at hs
              refine hs.mono ?_
              clear hs
              rintro e w9 ⟨rfl, hb9⟩
              have k9 := below_call k8 k8.size hb9
              replace hM4 := hM4.below hb9
              replace hM5 := hM5.below hb9
              clear hb9 k8 hM8
              go_wp2_with fail
              refine (HAL.out _ (hY.below k9)).mono ?_
              clear HAL
              rintro e w10 ⟨hq, hb10⟩
              have k10 := below_call k9 k9.size hb10
              replace hM4 := hM4.below hb10
              replace hM5 := hM5.below hb10
              have p5 := P5.out
              clear P5
              generalize goesS [] (marksUp (fr + UInt64.ofNat a.length) b b.length) = ga at hq p5
              cases ga with
              | none =>
                have hq' : e = .returned (.tuple #[.slice none 0 0, .int .i64 3]) := hq
                subst hq'
                clear hq p5 hb10 k9
                go_wp2_with fail
                refine (awake_any _).mono ?_
                rintro e w11 ⟨rfl, hb11⟩
                go_wp2_with fail
                go_ret
                exact ⟨rfl, below_call k10 k10.size hb11⟩
              | some alone =>
                obtain ⟨pal, pj⟩ := p5 alone rfl
                obtain ⟨v10, rfl, hown10⟩ := hq
                obtain ⟨A10, c10, rfl, _, _⟩ := hown10.form
                have hM10 := hown10.marks
                have lal := pal.1
                clear hown10 hb10 k9 p5
                go_wp2_with fail
                have hj := HJ.out A10 c10 alone w10 hM5 hM10 (by omega)
                rw [pj all rfl] at hj
                refine hj.mono ?_
                clear hj
                rintro e w11 ⟨⟨v11, rfl, hown11⟩, hb11⟩
                obtain ⟨A11, c11, rfl, _, _⟩ := hown11.form
                have hM11 := hown11.marks
                have k11 := below_call k10 k10.size hb11
                replace hM4 := hM4.below hb11
                clear hown11 hb11 k10 HJ
                go_wp2_with fail
                have hs := same_b A11 A4 c11 c4 all all w11 hM11 hM4 (by omega) (by omega)
                rw [self_true] at hs
                refine hs.mono ?_
                clear hs
                rintro e w12 ⟨rfl, hb12⟩
                have k12 := below_call k11 k11.size hb12
                go_wp2_with fail
                refine (awake_any _).mono ?_
                rintro e w13 ⟨rfl, hb13⟩
                go_wp2_with fail
                go_ret
                exact ⟨rfl, below_call k12 k12.size hb13⟩
set_option maxRecDepth 100000 in
set_option maxHeartbeats 1000000 in
/-- Where something is too long. -/
theorem partsLaw_no (A : Option Addr) (c : Nat) (l : List Mk) (fr : UInt64) (X : Option Addr) (xc : Nat) (a : List En) (Y : Option Addr) (yc : Nat) (b : List En) (w : World) (hX : Entries w X a) (hY : Entries w Y b)
    (m2 : a.length ≤ 9223372036854775807) (m3 : b.length ≤ 9223372036854775807) (hno : ¬ (l.length ≤ 1000 ∧ a.length ≤ 1000 ∧ b.length ≤ 1000 ∧ fr.toNat ≤ 2305843009213693952)) (h6 : ∀ e ∈ a, e.n ≤ 9223372036854775807) (h7 : ∀ e ∈ b, e.n ≤ 9223372036854775807) :
    Calls Try.prog 6 #[.slice A l.length c, .int .u64 (fr.toNat : Int), .slice X a.length xc, .slice Y b.length yc] w fun e w' => e = .returned (.bool true) ∧ Below w.heap.size w w' := by
  have HL1 := Lib.hid (long_any X xc a w hX m2 h6)
  have HL2 := Lib.hid (long_any Y yc b w hY m3 h7)
  have HNO := Lib.hid hno
  clear h6 h7 hno m2 m3
  go_enter Try.func6, Try.ntmps6
  go_wp2_with fail
  refine HL1.out.mono ?_
  rintro e w1 ⟨⟨b1, rfl, g1⟩, rfl⟩
  cases b1 with
  | true =>
    clear g1
    go_wp2_with fail
    refine (awake_any _).mono ?_
    rintro e w2 ⟨rfl, hb2⟩
    go_wp2_with fail
    go_ret
    exact ⟨rfl, hb2⟩
  | false =>
    have G1 := Lib.hid (g1 rfl)
    clear g1
    go_wp2_with fail
    refine HL2.out.mono ?_
    rintro e w1 ⟨⟨b2, rfl, g2⟩, rfl⟩
    clear HL1 HL2
    cases b2 with
    | true =>
      clear g2
      go_wp2_with fail
      refine (awake_any _).mono ?_
      rintro e w2 ⟨rfl, hb2⟩
      go_wp2_with fail
      go_ret
      exact ⟨rfl, hb2⟩
    | false =>
      have g3 := g2 rfl
      clear g2
      by_cases n1 : 1000 < l.length
      · clear g3
        go_wp2_with fail
        refine (awake_any _).mono ?_
        rintro e w2 ⟨rfl, hb2⟩
        go_wp2_with fail
        go_ret
        exact ⟨rfl, hb2⟩
      · have n4 : 2305843009213693952 < fr.toNat := by
          have h1 := HNO.out
          have h2 := G1.out
          omega
        clear g3
        go_wp2_with fail
        refine (awake_any _).mono ?_
        rintro e w2 ⟨rfl, hb2⟩
        go_wp2_with fail
        go_ret
        exact ⟨rfl, hb2⟩

namespace SeenParts
theorem walk {w : World} (A : Option Addr) (l : List Mk) (c : Nat) (hA : Marks w A l) (_ : l.length ≤ c) (_ : c ≤ 9223372036854775807) (fr : UInt64) (X : Option Addr) (a : List En) (xc : Nat) (hX : Entries w X a) (_ : a.length ≤ xc) (_ : xc ≤ 9223372036854775807) (h6 : ∀ e ∈ a, e.n ≤ 9223372036854775807)
    (Y : Option Addr) (b : List En) (yc : Nat) (hY : Entries w Y b) (_ : b.length ≤ yc) (_ : yc ≤ 9223372036854775807) (h7 : ∀ e ∈ b, e.n ≤ 9223372036854775807) :
    Calls Try.prog 6 #[.slice A l.length c, .int .u64 (fr.toNat : Int), .slice X a.length xc, .slice Y b.length yc] w fun e w' => e = .returned (.bool true) ∧ Below w.heap.size w w' := by
  by_cases h : l.length ≤ 1000 ∧ a.length ≤ 1000 ∧ b.length ≤ 1000 ∧ fr.toNat ≤ 2305843009213693952
  · exact partsLaw_any A c l fr X xc a Y yc b w hA hX hY h.1 h.2.1 h.2.2.1 h.2.2.2 h6 h7
  · exact partsLaw_no A c l fr X xc a Y yc b w hX hY (by omega) (by omega) h h6 h7
end SeenParts
end Go.Proofs.Ytgdbknbpnlpdnaa
