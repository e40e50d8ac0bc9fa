/- The walk of SeenGoes. -/
import Derived.Test.YtgdbknbpnlpdnaaSeenR
namespace Go.Proofs.Ytgdbknbpnlpdnaa
set_option linter.unusedVariables false
set_option linter.unusedSimpArgs false
open Go.RowKit

theorem below_step {B : Nat} {w0 w w' : World} (k : Below B w0 w) (hb : Below w.heap.size w w') (hB : B ≤ w0.heap.size) : Below B w0 w' := k.trans (hb.mono (Nat.le_trans hB k.size))
theorem same_true (e : Int) (L : List Mk) : decide (e = e ∧ L = L) = true := by simp
theorem self_true (L : List Mk) : decide (L = L) = true := by simp

theorem goesS_le {l more L : List Mk} (h : mayB l = true) (hm : ∀ m ∈ more, m.may = true) (hg : goesS l more = some L) : L.length ≤ 6 := ((goesS_eq more l (mayB_P.1 h) hm).2 L hg).1
theorem out_le (o : Option (List Mk)) (h : ∀ L, o = some L → L.length ≤ 6) : (outOf (some o)).2.length ≤ 6 := by
  cases o with
  | none => simp [outOf]
  | some L => exact h L rfl
theorem addS_le (ms : List Mk) (m : Mk) : (outOf (addS ms m)).2.length ≤ 6 := by
  unfold addS
  split
  · rename_i h
    rw [Bool.and_eq_true] at h
    exact out_le _ fun L hL => goesS_le h.1 (fun x hx => by simp at hx; exact hx ▸ h.2) hL
  · simp [outOf]
theorem joinS_le (a b : List Mk) : (outOf (joinS a b)).2.length ≤ 6 := by
  unfold joinS
  split
  · rename_i h
    rw [Bool.and_eq_true] at h
    exact out_le _ fun L hL => goesS_le h.1 (mayB_P.1 h.2).2.1 hL
  · simp [outOf]
theorem takeS_le (ms : List Mk) (fr : UInt64) (es : List En) : (outOf (takeS ms fr es)).2.length ≤ 6 := by
  unfold takeS
  split
  · rename_i h
    rw [Bool.and_eq_true, Bool.and_eq_true] at h
    exact out_le _ fun L hL => goesS_le h.1 (marksUp_may h.2.1 h.2.2) hL
  · simp [outOf]

set_option maxRecDepth 100000 in
set_option maxHeartbeats 2000000 in
theorem goesLaw_any (A : Option Addr) (c : Nat) (l : List Mk) (B : Option Addr) (d : Nat) (ot : List Mk) (m : Mk) (fr : UInt64) (E : Option Addr) (ec : Nat) (es : List En) (w : World) (hA : Marks w A l) (hB : Marks w B ot) (hE : Entries w E es)
    (h1 : l.length ≤ 9223372036854775807) (h2 : ot.length ≤ 9223372036854775807) (h3 : es.length ≤ 9223372036854775807) (h4 : ∀ e ∈ es, e.n ≤ 9223372036854775807) :
    Calls Try.prog 4 #[.slice A l.length c, .slice B ot.length d, m.val, .int .u64 (fr.toNat : Int), .slice E es.length ec] w fun e w' => e = .returned (.bool true) ∧ Below w.heap.size w w' := by
  unfold Mk.val
  by_cases n1 : 1000 < l.length
  · clear hA hB hE
    go_enter Try.func4, Try.ntmps4
    go_wp2_with fail
    refine (awake_any _).mono ?_
    rintro e w1 ⟨rfl, hb1⟩
    go_wp2_with fail
    go_ret
    exact ⟨rfl, below_call (below_new _ _) (by simp) hb1⟩
  · by_cases n2 : 1000 < ot.length
    · clear hA hB hE
      go_enter Try.func4, Try.ntmps4
      go_wp2_with fail
      refine (awake_any _).mono ?_
      rintro e w1 ⟨rfl, hb1⟩
      go_wp2_with fail
      go_ret
      exact ⟨rfl, below_call (below_new _ _) (by simp) hb1⟩
    · obtain ⟨w1, hw1e⟩ : ∃ w1 : World, w1 = w.alloc (.cells #[.int .i64 m.p.toInt, .int .u64 (m.s.toNat : Int), .int .u64 (m.o.toNat : Int)] 38) := ⟨_, rfl⟩
      have hw1 : Below w.heap.size w w1 := by rw [hw1e]; exact below_new _ _
      have hbk1 : Blk w1 w.heap.size 38 #[.int .i64 m.p.toInt, .int .u64 (m.s.toNat : Int), .int .u64 (m.o.toNat : Int)] := by rw [hw1e]; exact Blk.new _ _ _
      have HW1 := Lib.hid hw1e
      clear hw1e
      go_enter Try.func4, Try.ntmps4
      go_wp2_with fail
      rw [← HW1.out]
      refine (long_any E ec es w1 (hE.below hw1) h3 h4).mono ?_
      rintro e w1' ⟨⟨b, rfl, hlong⟩, rfl⟩
      cases b with
      | true =>
        go_wp2_with fail
        refine (awake_any _).mono ?_
        rintro e w2 ⟨rfl, hb2⟩
        go_wp2_with fail
        go_ret
        exact ⟨rfl, below_call hw1 hw1.size hb2⟩
      | false =>
        have n3 : es.length ≤ 1000 := hlong rfl
        clear hlong h4
        have hrA := Mk.row_one l
        have hrB := Mk.row_one ot
        have hownA : (w1.alloc (.cells #[] 38)).ownsRow w.heap.size 38 3 (.slice (some ⟨w1.heap.size, 0, none⟩) 0 0) 0 [] := World.ownsRow_made _ _ _ hw1.size (by simp [maxLen]) rfl
        have hAa : Marks (w1.alloc (.cells #[] 38)) A l := (hA.below hw1).below (below_new _ _)
        have hx1 : (0 + l.length) * 24 ≤ 140737488355328 := by omega
        have hx2 : (0 + ot.length) * 24 ≤ 140737488355328 := by omega
        have hx3 : w.heap.size ≤ (w1.alloc (.cells #[] 38)).heap.size := by have := hw1.size; rw [alloc_size]; omega
        go_wp2_with (first
          | (at_builtin
             refine app_list marks_ty rfl (s := .tmp 30) (x := .tmp 31) rfl hownA rfl hAa rfl hrA hx1 hx3 ?_
             intro v2 w2 hown2 hg2 _
             have hw2 : Below w.heap.size w w2 := (hw1.alloc hw1.size _).grown hg2 hx3 (own_ge hownA)
             have hbk2 : Blk w2 w.heap.size 38 #[.int .i64 m.p.toInt, .int .u64 (m.s.toNat : Int), .int .u64 (m.o.toNat : Int)] := (hbk1.alloc _).grown hg2 (fun h => by have h5 := hbk1.lt; simp [Value.ownBlock] at h; omega)
             have hownB : (w2.alloc (.cells #[] 38)).ownsRow w2.heap.size 38 3 (.slice (some ⟨w2.heap.size, 0, none⟩) 0 0) 0 [] := World.ownsRow_made _ _ _ (Nat.le_refl _) (by simp [maxLen]) rfl
             have hBb : Marks (w2.alloc (.cells #[] 38)) B ot := (hB.below hw2).below (below_new _ _)
             have hx4 : w2.heap.size ≤ (w2.alloc (.cells #[] 38)).heap.size := by rw [alloc_size]; omega)
          | (at_builtin
             refine app_list marks_ty rfl (s := .tmp 33) (x := .tmp 34) rfl hownB rfl hBb rfl hrB hx2 hx4 ?_
             intro v3 w3 hown3 hg3 _
             have hbb3 : Below w2.heap.size w2 w3 := (below_new _ _).grown hg3 hx4 (own_ge hownB)
             have hw3 : Below w.heap.size w w3 := below_call hw2 hw2.size hbb3
             have hbk3 := hbk2.below hbb3 hbk2.lt
             have m0 : w3.cell? ⟨w.heap.size, 0, none⟩ = some (.int .i64 m.p.toInt) := hbk3.cell 0
             have m1 : w3.cell? ⟨w.heap.size, 1, none⟩ = some (.int .u64 (m.s.toNat : Int)) := hbk3.cell 1
             have m2 : w3.cell? ⟨w.heap.size, 2, none⟩ = some (.int .u64 (m.o.toNat : Int)) := hbk3.cell 2))
        have hwas2 : OwnM w2 w.heap.size v2 l := by unfold OwnM; simpa using hown2
        have hotw : OwnM w3 w2.heap.size v3 ot := by unfold OwnM; simpa using hown3
        have hwas := hwas2.call hbb3
        clear hown2 hown3 hg2 hg3 hownA hownB hAa hBb hx1 hx2 hx3 hx4 hbk1 hbk2 hw1 hw2 hbb3 hwas2 HW1 hrA hrB
        have hl3 := hA.below hw3
        have ho3 := hB.below hw3
        have he3 := hE.below hw3
        clear hA hB hE
        obtain ⟨A2, c2, rfl, hc2, _⟩ := hwas.form
        obtain ⟨A3, c3, rfl, hc3, _⟩ := hotw.form
        have hwM := hwas.marks
        have hoM := hotw.marks
        clear hwas hotw
        have k3 : Below w3.heap.size w3 w3 := Below.refl _ _
        -- addS l m
        have hle4 := addS_le l m
        refine (add_any A c l m w3 hl3 (by omega)).mono ?_
        rintro e w4 ⟨hp, hb4⟩
        obtain ⟨A4, c4, rfl, hown4⟩ := hp.form
        clear hp
        have k4 : Below w3.heap.size w3 w4 := below_step k3 hb4 (Nat.le_refl _)
        have hbk4 := hbk3.below hb4 hbk3.lt
        clear m0 m1 m2
        have m0 : w4.cell? ⟨w.heap.size, 0, none⟩ = some (.int .i64 m.p.toInt) := hbk4.cell 0
        have m1 : w4.cell? ⟨w.heap.size, 1, none⟩ = some (.int .u64 (m.s.toNat : Int)) := hbk4.cell 1
        have m2 : w4.cell? ⟨w.heap.size, 2, none⟩ = some (.int .u64 (m.o.toNat : Int)) := hbk4.cell 2
        have hra := refadd_any A2 c2 l m w4 (hwM.below k4) (by omega)
        rw [← addS_eq] at hra
        have HRA := Lib.hid hra
        clear hra
        generalize addS l m = oo at hown4 HRA hle4 ⊢
        go_wp2_with fail
        refine HRA.out.mono ?_
        rintro e w5 ⟨hp, hb5⟩
        obtain ⟨A5, c5, rfl, hown5⟩ := hp.form
        clear hp HRA
        have k5 : Below w3.heap.size w3 w5 := below_step k4 hb5 (Nat.le_refl _)
        have hwn4 := hown4.call hb5
        have hmk5 := hown5.marks
        have his := is_any A4 (outOf oo).2.length c4 w3.heap.size (outOf oo).2 rfl (outOf oo).1 A5 c5 (outOf oo).2 (outOf oo).1 w5 hwn4 hmk5 (by omega) (by omega) (by have h5 := hb4.size; have h6 := hb5.size; omega)
        rw [same_true] at his
        have HIS := Lib.hid his
        clear his hown4 hown5 hwn4 hmk5
        generalize outOf oo = ol at HIS hle4 ⊢
        obtain ⟨oe, oL⟩ := ol
        simp only at HIS hle4 ⊢
        go_wp2_with fail
        refine HIS.out.mono ?_
        rintro e w5x ⟨rfl, hb5x⟩
        have k5x : Below w3.heap.size w3 w5x := k5.trans (hb5x.mono k3.size)
        clear HIS hb4 hb5 hb5x k4 k5 hle4
        go_wp2_with fail
        clear hbk3 hbk4 m0 m1 m2
        -- takeS l fr es
        have hle6 := takeS_le l fr es
        refine (take_any A c l fr E ec es w5x (hl3.below k5x) (he3.below k5x) (by omega) (by omega)).mono ?_
        rintro e w6 ⟨hp, hb6⟩
        obtain ⟨A6, c6, rfl, hown6⟩ := hp.form
        clear hp
        have k6 : Below w3.heap.size w3 w6 := below_step k5x hb6 (Nat.le_refl _)
        have hra := reftake_any A2 c2 l fr E ec es w6 (hwM.below k6) (he3.below k6) (by omega) (by omega)
        rw [← takeS_eq] at hra
        have HRA := Lib.hid hra
        clear hra
        generalize takeS l fr es = oo at hown6 HRA hle6 ⊢
        go_wp2_with fail
        refine HRA.out.mono ?_
        rintro e w7 ⟨hp, hb7⟩
        obtain ⟨A7, c7, rfl, hown7⟩ := hp.form
        clear hp HRA
        have k7 : Below w3.heap.size w3 w7 := below_step k6 hb7 (Nat.le_refl _)
        have hwn6 := hown6.call hb7
        have hmk7 := hown7.marks
        have his := is_any A6 (outOf oo).2.length c6 w5x.heap.size (outOf oo).2 rfl (outOf oo).1 A7 c7 (outOf oo).2 (outOf oo).1 w7 hwn6 hmk7 (by omega) (by omega) (by have h5 := hb6.size; have h6 := hb7.size; omega)
        rw [same_true] at his
        have HIS := Lib.hid his
        clear his hown6 hown7 hwn6 hmk7
        generalize outOf oo = ol at HIS hle6 ⊢
        obtain ⟨oe, oL⟩ := ol
        simp only at HIS hle6 ⊢
        go_wp2_with fail
        refine HIS.out.mono ?_
        rintro e w7x ⟨rfl, hb7x⟩
        have k7x : Below w3.heap.size w3 w7x := k7.trans (hb7x.mono k5x.size)
        clear HIS hb6 hb7 hb7x k6 k7 hle6
        go_wp2_with fail
        -- joinS l ot
        have hle8 := joinS_le l ot
        refine (join_any A c l B d ot w7x (hl3.below k7x) (ho3.below k7x) (by omega) (by omega)).mono ?_
        rintro e w8 ⟨hp, hb8⟩
        obtain ⟨A8, c8, rfl, hown8⟩ := hp.form
        clear hp
        have k8 : Below w3.heap.size w3 w8 := below_step k7x hb8 (Nat.le_refl _)
        have hra := refjoin_any A2 c2 l A3 c3 ot w8 (hwM.below k8) (hoM.below k8) (by omega) (by omega)
        rw [← joinS_eq] at hra
        have HRA := Lib.hid hra
        clear hra
        generalize joinS l ot = oo at hown8 HRA hle8 ⊢
        go_wp2_with fail
        refine HRA.out.mono ?_
        rintro e w9 ⟨hp, hb9⟩
        obtain ⟨A9, c9, rfl, hown9⟩ := hp.form
        clear hp HRA
        have k9 : Below w3.heap.size w3 w9 := below_step k8 hb9 (Nat.le_refl _)
        have hwn8 := hown8.call hb9
        have hmk9 := hown9.marks
        have his := is_any A8 (outOf oo).2.length c8 w7x.heap.size (outOf oo).2 rfl (outOf oo).1 A9 c9 (outOf oo).2 (outOf oo).1 w9 hwn8 hmk9 (by omega) (by omega) (by have h5 := hb8.size; have h6 := hb9.size; omega)
        rw [same_true] at his
        have HIS := Lib.hid his
        clear his hown8 hown9 hwn8 hmk9
        generalize outOf oo = ol at HIS hle8 ⊢
        obtain ⟨oe, oL⟩ := ol
        simp only at HIS hle8 ⊢
        go_wp2_with fail
        refine HIS.out.mono ?_
        rintro e w9x ⟨rfl, hb9x⟩
        have k9x : Below w3.heap.size w3 w9x := k9.trans (hb9x.mono k7x.size)
        clear HIS hb8 hb9 hb9x k8 k9 hle8
        go_wp2_with fail
        have hs1 := refsame_any A A2 c c2 l l w9x (hl3.below k9x) (hwM.below k9x) (by omega) (by omega)
        rw [self_true] at hs1
        refine hs1.mono ?_
        rintro e w10 ⟨rfl, q1, rfl⟩
        have k10 : Below w3.heap.size w3 (w9x.drewN q1) := below_drewN k9x q1
        go_wp2_with fail
        have hs2 := refsame_any B A3 d c3 ot ot (w9x.drewN q1) (ho3.below k10) (hoM.below k10) (by omega) (by omega)
        rw [self_true] at hs2
        refine hs2.mono ?_
        rintro e w11 ⟨rfl, q2, rfl⟩
        have k11 : Below w3.heap.size w3 ((w9x.drewN q1).drewN q2) := below_drewN k10 q2
        generalize (w9x.drewN q1).drewN q2 = w12 at k11 ⊢
        go_wp2_with fail
        refine (awake_any _).mono ?_
        rintro e w13 ⟨rfl, hb13⟩
        go_wp2_with fail
        go_ret
        exact ⟨rfl, hw3.trans ((below_step k11 hb13 (Nat.le_refl _)).mono hw3.size)⟩

namespace SeenGoes
theorem walk {w : World} (A : Option Addr) (l : List Mk) (c : Nat) (hA : Marks w A l) (h1 : l.length ≤ c) (h2 : c ≤ 9223372036854775807) (B : Option Addr) (ot : List Mk) (d : Nat) (hB : Marks w B ot) (h3 : ot.length ≤ d) (h4 : d ≤ 9223372036854775807) (m : Mk) (fr : UInt64)
    (E : Option Addr) (es : List En) (ec : Nat) (hE : Entries w E es) (h5 : es.length ≤ ec) (h6 : ec ≤ 9223372036854775807) (h7 : ∀ e ∈ es, e.n ≤ 9223372036854775807) :
    Calls Try.prog 4 #[.slice A l.length c, .slice B ot.length d, m.val, .int .u64 (fr.toNat : Int), .slice E es.length ec] w fun e w' => e = .returned (.bool true) ∧ Below w.heap.size w w' :=
  goesLaw_any A c l B d ot m fr E ec es w hA hB hE (Nat.le_trans h1 h2) (Nat.le_trans h3 h4) (Nat.le_trans h5 h6) h7
end SeenGoes
end Go.Proofs.Ytgdbknbpnlpdnaa
