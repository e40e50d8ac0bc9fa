/- The walk of SeenAsks. -/
import Derived.Test.YtgdbknbpnlpdnaaSeenS
namespace Go.Proofs.Ytgdbknbpnlpdnaa
set_option linter.unusedVariables false
set_option linter.unusedSimpArgs false
open Go.RowKit

theorem lastV_val (o : Option Mk) : lastV o = .tuple #[.agg #[.int .i64 (o.getD Mk.zero).p.toInt, .int .u64 ((o.getD Mk.zero).s.toNat : Int), .int .u64 ((o.getD Mk.zero).o.toNat : Int)], .bool o.isSome] := rfl

theorem same_b (A B : Option Addr) (c d : Nat) (xs ys : List Mk) (w : World) (hA : Marks w A xs) (hB : Marks w B ys) (hn : xs.length ≤ 9223372036854775807) (hm : ys.length ≤ 9223372036854775807) :
    Calls Try.prog 26 #[.slice A xs.length c, .slice B ys.length d] w fun e w' => e = .returned (.bool (decide (xs = ys))) ∧ Below w.heap.size w w' :=
  (same_any A B c d xs ys w hA hB hn hm).mono fun _ _ ⟨he, q, hq⟩ => ⟨he, by rw [hq]; exact below_drewN (Below.refl _ _) q⟩
theorem refsame_b (A B : Option Addr) (c d : Nat) (xs ys : List Mk) (w : World) (hA : Marks w A xs) (hB : Marks w B ys) (hn : xs.length ≤ 9223372036854775807) (hm : ys.length ≤ 9223372036854775807) :
    Calls Try.prog 21 #[.slice A xs.length c, .slice B ys.length d] w fun e w' => e = .returned (.bool (decide (xs = ys))) ∧ Below w.heap.size w w' :=
  (refsame_any A B c d xs ys w hA hB hn hm).mono fun _ _ ⟨he, q, hq⟩ => ⟨he, by rw [hq]; exact below_drewN (Below.refl _ _) q⟩

set_option maxRecDepth 100000 in
set_option maxHeartbeats 2000000 in
theorem asksLaw_any (A : Option Addr) (c : Nat) (l : List Mk) (B : Option Addr) (d : Nat) (m : List Mk) (q : Int64) (sq at_ : UInt64) (w : World) (hA : Marks w A l) (hB : Marks w B m)
    (h1 : l.length ≤ 9223372036854775807) (h2 : m.length ≤ 9223372036854775807) :
    Calls Try.prog 5 #[.slice A l.length c, .slice B m.length d, .int .i64 q.toInt, .int .u64 (sq.toNat : Int), .int .u64 (at_.toNat : Int)] w fun e w' => e = .returned (.bool true) ∧ Below w.heap.size w w' := by
  by_cases n1 : 1000 < l.length
  · clear hA hB
    go_enter Try.func5, Try.ntmps5
    go_wp2_with fail
    refine (awake_any _).mono ?_
    rintro e w1 ⟨rfl, hb1⟩
    go_wp2_with fail
    go_ret
    exact ⟨rfl, hb1⟩
  · by_cases n2 : 1000 < m.length
    · clear hA hB
      go_enter Try.func5, Try.ntmps5
      go_wp2_with fail
      refine (awake_any _).mono ?_
      rintro e w1 ⟨rfl, hb1⟩
      go_wp2_with fail
      go_ret
      exact ⟨rfl, hb1⟩
    · have hrA := Mk.row_one l
      have hownA : (w.alloc (.cells #[] 38)).ownsRow w.heap.size 38 3 (.slice (some ⟨w.heap.size, 0, none⟩) 0 0) 0 [] := World.ownsRow_made _ _ _ (Nat.le_refl _) (by simp [maxLen]) rfl
      have hAa : Marks (w.alloc (.cells #[] 38)) A l := hA.below (below_new _ _)
      have hx1 : (0 + l.length) * 24 ≤ 140737488355328 := by omega
      have hx3 : w.heap.size ≤ (w.alloc (.cells #[] 38)).heap.size := by rw [alloc_size]; omega
      go_enter Try.func5, Try.ntmps5
      go_wp2_with (first
        | (at_builtin
           refine app_list marks_ty rfl rfl hownA rfl hAa rfl hrA hx1 hx3 ?_
           intro v3 w3 hown3 hg3 _
           have hw3 : Below w.heap.size w w3 := (below_new _ _).grown hg3 hx3 (own_ge hownA)))
      have hwas : OwnM w3 w.heap.size v3 l := by unfold OwnM; simpa using hown3
      clear hown3 hg3 hownA hAa hx1 hx3 hrA
      have hl3 := hA.below hw3
      have ho3 := hB.below hw3
      clear hA hB
      obtain ⟨A2, c2, rfl, hc2, _⟩ := hwas.form
      have hwM := hwas.marks
      clear hwas
      have k3 : Below w3.heap.size w3 w3 := Below.refl _ _
      -- Last
      refine (last_any A c l q w3 hl3 (by omega)).mono ?_
      rintro e w4 ⟨rfl, hb4⟩
      have k4 : Below w3.heap.size w3 w4 := below_step k3 hb4 (Nat.le_refl _)
      obtain ⟨ol, hol⟩ : ∃ ol, ol = lastM l q := ⟨_, rfl⟩
      rw [← hol, lastV_val]
      have HOL := Lib.hid hol
      clear hol
      have rl := reflast_any A2 c2 l q (w4.alloc (.cells #[.int .i64 (ol.getD Mk.zero).p.toInt, .int .u64 ((ol.getD Mk.zero).s.toNat : Int), .int .u64 ((ol.getD Mk.zero).o.toNat : Int)] 38)) ((hwM.below k4).below (below_new _ _)) (by omega)
      rw [← HOL.out, lastV_val] at rl
      have HRL := Lib.hid rl
      clear rl
      generalize ol.isSome = ob at HRL ⊢
      generalize ol.getD Mk.zero = lm at HRL ⊢
      have hbk4 := Blk.new w4 38 #[.int .i64 lm.p.toInt, .int .u64 (lm.s.toNat : Int), .int .u64 (lm.o.toNat : Int)]
      go_wp2_with fail
      refine HRL.out.mono ?_
      rintro e w5 ⟨rfl, hb5⟩
      have k4' : Below w3.heap.size w3 (w4.alloc (.cells #[.int .i64 lm.p.toInt, .int .u64 (lm.s.toNat : Int), .int .u64 (lm.o.toNat : Int)] 38)) := k4.alloc k4.size _
      have k5 : Below w3.heap.size w3 w5 := below_step k4' hb5 (Nat.le_refl _)
      have hbk5 := hbk4.below hb5 hbk4.lt
      clear HRL k4' hbk4 hb5
      obtain ⟨w6, hw6e⟩ : ∃ w6 : World, w6 = w5.alloc (.cells #[.int .i64 lm.p.toInt, .int .u64 (lm.s.toNat : Int), .int .u64 (lm.o.toNat : Int)] 38) := ⟨_, rfl⟩
      have k6 : Below w3.heap.size w3 w6 := by rw [hw6e]; exact k5.alloc k5.size _
      have bA : Blk w6 w4.heap.size 38 #[.int .i64 lm.p.toInt, .int .u64 (lm.s.toNat : Int), .int .u64 (lm.o.toNat : Int)] := by rw [hw6e]; exact hbk5.alloc _
      have bB : Blk w6 w5.heap.size 38 #[.int .i64 lm.p.toInt, .int .u64 (lm.s.toNat : Int), .int .u64 (lm.o.toNat : Int)] := by rw [hw6e]; exact Blk.new _ _ _
      have HW6 := Lib.hid hw6e
      clear hw6e hbk5
      go_wp2_with fail
      rw [← HW6.out]
      refine (ask_any A c l q sq w6 (hl3.below k6) (by omega)).mono ?_
      rintro e w7 ⟨rfl, hb7⟩
      have k7 := below_step k6 hb7 (Nat.le_refl _)
      have ra := refask_any A2 c2 l q sq w7 (hwM.below k7) (by omega)
      replace bA := bA.below hb7 bA.lt
      replace bB := bB.below hb7 bB.lt
      generalize askOf (lastM l q) l.length sq = ak at ra ⊢
      obtain ⟨ak1, ak2⟩ := ak
      rw [show askV (ak1, ak2) = .tuple #[.int .i64 ak1, .int .u64 (ak2.toNat : Int)] from rfl] at ra ⊢
      have HRA := Lib.hid ra
      clear ra
      go_wp2_with fail
      refine HRA.out.mono ?_
      rintro e w8 ⟨rfl, hb8⟩
      have k8 := below_step k7 hb8 (Nat.le_refl _)
      replace bA := bA.below hb8 bA.lt
      replace bB := bB.below hb8 bB.lt
      clear HRA hb7 hb8 HW6 k6 k7 k5 k4 hb4 HOL
      go_wp2_with fail
      refine (seenmay_any A c l w8 (hl3.below k8) (by omega)).mono ?_
      rintro e w9 ⟨rfl, hb9⟩
      have k9 := below_step k8 hb9 (Nat.le_refl _)
      replace bA := bA.below hb9 bA.lt
      replace bB := bB.below hb9 bB.lt
      have rm := Lib.hid (refmay_any A2 c2 l w9 (hwM.below k9) (by omega))
      generalize mayB l = mb at rm ⊢
      go_wp2_with fail
      refine rm.out.mono ?_
      rintro e w10 ⟨rfl, hb10⟩
      have k10 := below_step k9 hb10 (Nat.le_refl _)
      replace bA := bA.below hb10 bA.lt
      replace bB := bB.below hb10 bB.lt
      clear rm hb9 hb10 k8 k9
      go_wp2_with fail
      have hs := same_b A B c d l m w10 (hl3.below k10) (ho3.below k10) (by omega) (by omega)
      have HRS := Lib.hid (fun W (k : Below w3.heap.size w3 W) => refsame_b A B c d l m W (hl3.below k) (ho3.below k) (by omega) (by omega))
      generalize decide (l = m) = sb at hs HRS ⊢
      refine hs.mono ?_
      clear hs
      rintro e w11 ⟨rfl, hb11⟩
      have k11 := below_step k10 hb11 (Nat.le_refl _)
      replace bA := bA.below hb11 bA.lt
      replace bB := bB.below hb11 bB.lt
      go_wp2_with fail
      refine (HRS.out _ k11).mono ?_
      rintro e w12 ⟨rfl, hb12⟩
      have k12 := below_step k11 hb12 (Nat.le_refl _)
      replace bA := bA.below hb12 bA.lt
      replace bB := bB.below hb12 bB.lt
      clear HRS
      go_wp2_with fail
      have hs := same_b A A c c l l w12 (hl3.below k12) (hl3.below k12) (by omega) (by omega)
      rw [self_true] at hs
      refine hs.mono ?_
      clear hs
      rintro e w14 ⟨rfl, hb14⟩
      have k13 := below_step k12 hb14 (Nat.le_refl _)
      have bA' := bA.below hb14 bA.lt
      have bB' := bB.below hb14 bB.lt
      have p0 : w14.cell? ⟨w4.heap.size, 0, none⟩ = some (.int .i64 lm.p.toInt) := bA'.cell 0
      have p1 : w14.cell? ⟨w4.heap.size, 1, none⟩ = some (.int .u64 (lm.s.toNat : Int)) := bA'.cell 1
      have p2 : w14.cell? ⟨w4.heap.size, 2, none⟩ = some (.int .u64 (lm.o.toNat : Int)) := bA'.cell 2
      have r0 : w14.cell? ⟨w5.heap.size, 0, none⟩ = some (.int .i64 lm.p.toInt) := bB'.cell 0
      have r1 : w14.cell? ⟨w5.heap.size, 1, none⟩ = some (.int .u64 (lm.s.toNat : Int)) := bB'.cell 1
      have r2 : w14.cell? ⟨w5.heap.size, 2, none⟩ = some (.int .u64 (lm.o.toNat : Int)) := bB'.cell 2
      have hel := mark_eql
      have hgd := mark_guard
      clear bA bB bA' bB' k10 k11 k12 hb11 hb12 hb14
      go_wp2_with fail
      refine (cut_any A c l at_ w14 (hl3.below k13) (by omega)).mono ?_
      rintro e w15 ⟨⟨v15, rfl, hown15⟩, hb15⟩
      obtain ⟨A15, c15, rfl, _, _⟩ := hown15.form
      have k15 := below_step k13 hb15 (Nat.le_refl _)
      have HRC := Lib.hid (refcut_any A2 c2 l at_ w15 (hwM.below k15) (by omega))
      have hfl : (l.filter fun m => decide (m.o.toNat < at_.toNat)).length ≤ l.length := List.length_filter_le _ _
      generalize (l.filter fun m => decide (m.o.toNat < at_.toNat)) = fl at hown15 HRC hfl ⊢
      clear p0 p1 p2 r0 r1 r2 hel hgd
      go_wp2_with fail
      refine HRC.out.mono ?_
      rintro e w16 ⟨⟨v16, rfl, hown16⟩, hb16⟩
      obtain ⟨A16, c16, rfl, _, _⟩ := hown16.form
      have k16 := below_step k15 hb16 (Nat.le_refl _)
      have his := is_any A15 fl.length c15 w14.heap.size fl rfl 0 A16 c16 fl 0 w16 (hown15.call hb16) hown16.marks (by omega) (by omega) (by have h5 := hb15.size; have h6 := hb16.size; omega)
      rw [same_true] at his
      have HIS := Lib.hid his
      clear his HRC
      go_wp2_with fail
      refine HIS.out.mono ?_
      rintro e w17 ⟨rfl, hb17⟩
      have k17 : Below w3.heap.size w3 w17 := k16.trans (hb17.mono k13.size)
      clear HIS hown15 hown16 hb15 hb16 hb17 k13 k15 k16
      go_wp2_with fail
      have hs1 := refsame_b A A2 c c2 l l w17 (hl3.below k17) (hwM.below k17) (by omega) (by omega)
      rw [self_true] at hs1
      refine hs1.mono ?_
      clear hs1
      rintro e w18 ⟨rfl, hb18⟩
      have k18 := below_step k17 hb18 (Nat.le_refl _)
      go_wp2_with fail
      refine (awake_any _).mono ?_
      rintro e w20 ⟨rfl, hb20⟩
      go_wp2_with fail
      go_ret
      exact ⟨rfl, hw3.trans ((below_step k18 hb20 (Nat.le_refl _)).mono hw3.size)⟩

namespace SeenAsks
theorem walk {w : World} (A : Option Addr) (l : List Mk) (c : Nat) (hA : Marks w A l) (h1 : l.length ≤ c) (h2 : c ≤ 9223372036854775807) (B : Option Addr) (m : List Mk) (d : Nat) (hB : Marks w B m) (h3 : m.length ≤ d) (h4 : d ≤ 9223372036854775807) (q : Int64) (sq at_ : UInt64) :
    Calls Try.prog 5 #[.slice A l.length c, .slice B m.length d, .int .i64 q.toInt, .int .u64 (sq.toNat : Int), .int .u64 (at_.toNat : Int)] w fun e w' => e = .returned (.bool true) ∧ Below w.heap.size w w' :=
  asksLaw_any A c l B d m q sq at_ w hA hB (Nat.le_trans h1 h2) (Nat.le_trans h3 h4)
end SeenAsks
end Go.Proofs.Ytgdbknbpnlpdnaa
