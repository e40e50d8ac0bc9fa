/- The document's Same. -/
import Derived.Test.YtpjmolnkmlpfeaaGreatDoorJdD
namespace Go.Proofs.YtpjmolnkmlpfeaaGreatDoor
set_option linter.unusedVariables false
set_option linter.unusedSimpArgs false
set_option maxRecDepth 100000
open Go.RowKit

theorem sameM_of {M N : Mdl} : sameM M N = (decide (M.trim = N.trim) && decide ([M.cur.getD 0 0, M.cur.getD 1 0, M.cur.getD 2 0] = [N.cur.getD 0 0, N.cur.getD 1 0, N.cur.getD 2 0]) && decide (M.log = N.log)) := rfl
set_option maxHeartbeats 8000000 in
theorem rsame_any {K K' : Nat → Prop} {w : World} {vl vc ul uc : Value} {M N : Mdl} (h : MdF K w vl vc M) (h' : MdF K' w ul uc N) (hn : M.log.length ≤ 100000) :
  Calls Tryz.prog 23 #[.agg (mdL M vl vc).toArray, .agg (mdL N ul uc).toArray] w fun e w' => e = .returned (.bool (sameM M N)) ∧ Below w.heap.size w w' := by
 have HUM := Lib.hid h.2
 have HUN := Lib.hid h'.2
 have hvc := h.2.one
 have huc := h'.2.one
 obtain ⟨⟨A, c, E, rfl, hE, hr, hall, _⟩, _⟩ := id h
 obtain ⟨⟨B, d, F, rfl, hF, hr', hall', _⟩, _⟩ := id h'
 have hlE : M.log.length = E.length := by rw [← hE, List.length_map]
 have hlF : N.log.length = F.length := by rw [← hF, List.length_map]
 have HEF : Hid (logs E = M.log ∧ logs F = N.log) := ⟨hE, hF⟩
 have HLL : Hid (M.log.length = E.length ∧ N.log.length = F.length) := ⟨hlE, hlF⟩
 have HR := Lib.hid hr
 have HR2 := Lib.hid hr'
 have HALL := Lib.hid hall
 have HAL2 := Lib.hid hall'
 have hen : E.length ≤ 100000 := by omega
 have h1 : Blk ((w.alloc (.cells (mdL M (.slice A E.length c) vc).toArray 45)).alloc (.cells (mdL N (.slice B F.length d) uc).toArray 45)) w.heap.size 45 (mdL M (.slice A E.length c) vc).toArray := (Blk.new _ _ _).alloc _
 have h2 : Blk ((w.alloc (.cells (mdL M (.slice A E.length c) vc).toArray 45)).alloc (.cells (mdL N (.slice B F.length d) uc).toArray 45)) (w.heap.size + 1) 45 (mdL N (.slice B F.length d) uc).toArray := by
  have := Blk.new (w.alloc (.cells (mdL M (.slice A E.length c) vc).toArray 45)) 45 (mdL N (.slice B F.length d) uc).toArray
  rwa [alloc_size] at this
 have hT : Below w.heap.size w ((w.alloc (.cells (mdL M (.slice A E.length c) vc).toArray 45)).alloc (.cells (mdL N (.slice B F.length d) uc).toArray 45)) := ((Below.refl _ _).alloc (Nat.le_refl _) _).alloc (by simp) _
 have HT := Lib.hid hT
 have H1 := Lib.hid h1
 have H2 := Lib.hid h2
 clear h h' hn hE hF hr hr' hall hall' h1 h2 hT hlE hlF
 go_enter Tryz.func23, Tryz.ntmps23
 go_wp2_with fail
 generalize (w.alloc (.cells (mdL M (.slice A E.length c) vc).toArray 45)).alloc (.cells (mdL N (.slice B F.length d) uc).toArray 45) = w0 at HT H1 H2 ⊢
 have a0 := (H1.out.cell 0).trans (rfl : _ = some (Value.slice A E.length c))
 have a1 := (H1.out.cell 1).trans (rfl : _ = some (Value.int .u64 (M.trim : Int)))
 have b0 := (H2.out.cell 0).trans (rfl : _ = some (Value.slice B F.length d))
 have b1 := (H2.out.cell 1).trans (rfl : _ = some (Value.int .u64 (N.trim : Int)))
 obtain ⟨c1, hc1⟩ : ∃ c1, c1 = M.cur.getD 0 0 := ⟨_, rfl⟩
 obtain ⟨c2, hc2⟩ : ∃ c2, c2 = M.cur.getD 1 0 := ⟨_, rfl⟩
 obtain ⟨c3, hc3⟩ : ∃ c3, c3 = M.cur.getD 2 0 := ⟨_, rfl⟩
 obtain ⟨d1, hd1⟩ : ∃ d1, d1 = N.cur.getD 0 0 := ⟨_, rfl⟩
 obtain ⟨d2, hd2⟩ : ∃ d2, d2 = N.cur.getD 1 0 := ⟨_, rfl⟩
 obtain ⟨d3, hd3⟩ : ∃ d3, d3 = N.cur.getD 2 0 := ⟨_, rfl⟩
 have HCM : Hid (curS M 1 = c1 ∧ curS M 2 = c2 ∧ curS M 3 = c3) := by rw [hc1, hc2, hc3]; exact curS_own
 have HCN : Hid (curS N 1 = d1 ∧ curS N 2 = d2 ∧ curS N 3 = d3) := by rw [hd1, hd2, hd3]; exact curS_own
 have HP : Hid (sameM M N = (decide (M.trim = N.trim) && decide ([c1, c2, c3] = [d1, d2, d3]) && decide (M.log = N.log))) := by show _ = _; rw [sameM_of, hc1, hc2, hc3, hd1, hd2, hd3]
 clear hc1 hc2 hc3 hd1 hd2 hd3
 by_cases ht : M.trim = N.trim
 rotate_left
 ·skip
  have t0 : (M.trim != N.trim) = true := bne_iff_ne.2 ht
  have t1 : ((M.trim : Int) != (N.trim : Int)) = true := bne_iff_ne.2 (by omega)
  have HQ : Hid (sameM M N = false) := by show _ = _; rw [HP.out]; rw [decide_eq_false ht]; rfl
  clear ht
  refine PF.b (by kernel_rfl) (fun _ _ _ _ _ h => h) ?_
  have HT := Lib.hid HT.out.drew
  have H1 := Lib.hid H1.out.drew
  have H2 := Lib.hid H2.out.drew
  refine PF.t 0 (by kernel_rfl) rfl (by intro u; go_simp; try rfl) ?_
  try simp only [pz]
  refine PF.m 1 (w.heap.size) (by kernel_rfl) rfl (fun hcu => by go_simp; try rfl) ?_
  try simp only [pz]
  refine PF.t 2 (by kernel_rfl) rfl (by intro u; go_simp; try rfl) ?_
  try simp only [pz]
  refine PF.m 3 ((w.heap.size+1)) (by kernel_rfl) rfl (fun hcu => by go_simp; try rfl) ?_
  try simp only [pz]
  refine PF.t 4 (by kernel_rfl) rfl (by intro u; go_simp; try rfl) ?_
  try simp only [pz]
  refine PF.t 5 (by kernel_rfl) rfl (by intro u; go_simp; try rfl) ?_
  try simp only [pz]
  refine PF.s 6 (by kernel_rfl) rfl ?_
  refine PF.s 7 (by kernel_rfl) rfl ?_
  refine PF.s 8 (by kernel_rfl) rfl ?_
  refine PF.s 9 (by kernel_rfl) rfl ?_
  refine PF.s 10 (by kernel_rfl) rfl ?_
  refine PF.s 11 (by kernel_rfl) rfl ?_
  refine PF.s 12 (by kernel_rfl) rfl ?_
  try simp only [pz]
  refine PF.t 13 (by kernel_rfl) rfl (by intro u; go_simp; try rfl) ?_
  try simp only [pz]
  refine PF.t 14 (by kernel_rfl) rfl (by intro u; go_simp; try rfl) ?_
  try simp only [pz]
  refine PF.s 15 (by kernel_rfl) rfl ?_
  refine PF.s 17 (by kernel_rfl) rfl ?_
  refine PF.k 16 (by kernel_rfl) rfl ?_
  refine PF.k 18 (by kernel_rfl) rfl ?_
  refine PF.s 19 (by kernel_rfl) rfl ?_
  try simp only [pz]
  refine PF.t 20 (by kernel_rfl) rfl (by intro u; go_simp; try rfl) ?_
  try simp only [pz]
  refine PF.t 21 (by kernel_rfl) rfl (by intro u; go_simp; try rfl) ?_
  try simp only [pz]
  refine PF.s 22 (by kernel_rfl) rfl ?_
  refine PF.s 24 (by kernel_rfl) rfl ?_
  refine PF.k 23 (by kernel_rfl) rfl ?_
  refine PF.k 25 (by kernel_rfl) rfl ?_
  refine PF.s 26 (by kernel_rfl) rfl ?_
  try simp only [pz]
  refine PF.t 27 (by kernel_rfl) rfl (by intro u; go_simp; try rfl) ?_
  try simp only [pz]
  refine PF.t 28 (by kernel_rfl) rfl (by intro u; go_simp; try rfl) ?_
  try simp only [pz]
  refine PF.s 29 (by kernel_rfl) rfl ?_
  refine PF.s 31 (by kernel_rfl) rfl ?_
  refine PF.k 30 (by kernel_rfl) rfl ?_
  refine PF.k 32 (by kernel_rfl) rfl ?_
  refine PF.s 33 (by kernel_rfl) rfl ?_
  try simp only [pz]
  refine PF.t 34 (by kernel_rfl) rfl (by intro u; go_simp; try rfl) ?_
  try simp only [pz]
  refine PF.d (by kernel_rfl) ?_
  go_wp2_with fail
  go_ret
  exact ⟨by rw [HQ.out]; rfl, HT.out⟩
 have t0 : (M.trim != N.trim) = false := bne_eq_false_iff_eq.2 ht
 have t1 : ((M.trim : Int) != (N.trim : Int)) = false := bne_eq_false_iff_eq.2 (by omega)
 by_cases hl : E.length = F.length
 rotate_left
 ·skip
  have l0 : (E.length != F.length) = true := bne_iff_ne.2 hl
  have l1 : ((E.length : Int) != (F.length : Int)) = true := bne_iff_ne.2 (by omega)
  have HQ : Hid (sameM M N = false) := by show _ = _; rw [HP.out]; rw [decide_eq_false (fun e : M.log = N.log => hl (by rw [← HLL.out.1, ← HLL.out.2, e])), Bool.and_false]
  clear ht hl
  refine PF.b (by kernel_rfl) (fun _ _ _ _ _ h => h) ?_
  have HT := Lib.hid HT.out.drew
  have H1 := Lib.hid H1.out.drew
  have H2 := Lib.hid H2.out.drew
  refine PF.t 0 (by kernel_rfl) rfl (by intro u; go_simp; try rfl) ?_
  try simp only [pz]
  refine PF.m 1 (w.heap.size) (by kernel_rfl) rfl (fun hcu => by go_simp; try rfl) ?_
  try simp only [pz]
  refine PF.t 2 (by kernel_rfl) rfl (by intro u; go_simp; try rfl) ?_
  try simp only [pz]
  refine PF.m 3 ((w.heap.size+1)) (by kernel_rfl) rfl (fun hcu => by go_simp; try rfl) ?_
  try simp only [pz]
  refine PF.t 4 (by kernel_rfl) rfl (by intro u; go_simp; try rfl) ?_
  try simp only [pz]
  refine PF.t 5 (by kernel_rfl) rfl (by intro u; go_simp; try rfl) ?_
  try simp only [pz]
  refine PF.t 6 (by kernel_rfl) rfl (by intro u; go_simp; try rfl) ?_
  try simp only [pz]
  refine PF.m 7 (w.heap.size) (by kernel_rfl) rfl (fun hcu => by go_simp; try rfl) ?_
  try simp only [pz]
  refine PF.t 8 (by kernel_rfl) rfl (by intro u; go_simp; try rfl) ?_
  try simp only [pz]
  refine PF.t 9 (by kernel_rfl) rfl (by intro u; go_simp; try rfl) ?_
  try simp only [pz]
  refine PF.m 10 ((w.heap.size+1)) (by kernel_rfl) rfl (fun hcu => by go_simp; try rfl) ?_
  try simp only [pz]
  refine PF.t 11 (by kernel_rfl) rfl (by intro u; go_simp; try rfl) ?_
  try simp only [pz]
  refine PF.t 12 (by kernel_rfl) rfl (by intro u; go_simp; try rfl) ?_
  try simp only [pz]
  refine PF.t 13 (by kernel_rfl) rfl (by intro u; go_simp; try rfl) ?_
  try simp only [pz]
  refine PF.t 14 (by kernel_rfl) rfl (by intro u; go_simp; try rfl) ?_
  try simp only [pz]
  refine PF.s 15 (by kernel_rfl) rfl ?_
  refine PF.s 17 (by kernel_rfl) rfl ?_
  refine PF.k 16 (by kernel_rfl) rfl ?_
  refine PF.k 18 (by kernel_rfl) rfl ?_
  refine PF.s 19 (by kernel_rfl) rfl ?_
  try simp only [pz]
  refine PF.t 20 (by kernel_rfl) rfl (by intro u; go_simp; try rfl) ?_
  try simp only [pz]
  refine PF.t 21 (by kernel_rfl) rfl (by intro u; go_simp; try rfl) ?_
  try simp only [pz]
  refine PF.s 22 (by kernel_rfl) rfl ?_
  refine PF.s 24 (by kernel_rfl) rfl ?_
  refine PF.k 23 (by kernel_rfl) rfl ?_
  refine PF.k 25 (by kernel_rfl) rfl ?_
  refine PF.s 26 (by kernel_rfl) rfl ?_
  try simp only [pz]
  refine PF.t 27 (by kernel_rfl) rfl (by intro u; go_simp; try rfl) ?_
  try simp only [pz]
  refine PF.t 28 (by kernel_rfl) rfl (by intro u; go_simp; try rfl) ?_
  try simp only [pz]
  refine PF.s 29 (by kernel_rfl) rfl ?_
  refine PF.s 31 (by kernel_rfl) rfl ?_
  refine PF.k 30 (by kernel_rfl) rfl ?_
  refine PF.k 32 (by kernel_rfl) rfl ?_
  refine PF.s 33 (by kernel_rfl) rfl ?_
  try simp only [pz]
  refine PF.t 34 (by kernel_rfl) rfl (by intro u; go_simp; try rfl) ?_
  try simp only [pz]
  refine PF.d (by kernel_rfl) ?_
  go_wp2_with fail
  go_ret
  exact ⟨by rw [HQ.out]; rfl, HT.out⟩
 have l0 : (E.length != F.length) = false := bne_eq_false_iff_eq.2 hl
 have l1 : ((E.length : Int) != (F.length : Int)) = false := bne_eq_false_iff_eq.2 (by omega)
 by_cases he1 : c1 = d1
 rotate_left
 ·skip
  have e10 : (c1 != d1) = true := bne_iff_ne.2 he1
  have e11 : ((c1 : Int) != (d1 : Int)) = true := bne_iff_ne.2 (by omega)
  have HQ : Hid (sameM M N = false) := by show _ = _; rw [HP.out]; rw [decide_eq_false (fun e : [c1, c2, c3] = [d1, d2, d3] => he1 (by simp only [List.cons.injEq, and_true] at e; exact e.1)), Bool.and_false, Bool.false_and]
  clear ht hl he1
  refine PF.b (by kernel_rfl) (fun _ _ _ _ _ h => h) ?_
  have HT := Lib.hid HT.out.drew
  have H1 := Lib.hid H1.out.drew
  have H2 := Lib.hid H2.out.drew
  refine PF.t 0 (by kernel_rfl) rfl (by intro u; go_simp; try rfl) ?_
  try simp only [pz]
  refine PF.m 1 (w.heap.size) (by kernel_rfl) rfl (fun hcu => by go_simp; try rfl) ?_
  try simp only [pz]
  refine PF.t 2 (by kernel_rfl) rfl (by intro u; go_simp; try rfl) ?_
  try simp only [pz]
  refine PF.m 3 ((w.heap.size+1)) (by kernel_rfl) rfl (fun hcu => by go_simp; try rfl) ?_
  try simp only [pz]
  refine PF.t 4 (by kernel_rfl) rfl (by intro u; go_simp; try rfl) ?_
  try simp only [pz]
  refine PF.t 5 (by kernel_rfl) rfl (by intro u; go_simp; try rfl) ?_
  try simp only [pz]
  refine PF.t 6 (by kernel_rfl) rfl (by intro u; go_simp; try rfl) ?_
  try simp only [pz]
  refine PF.m 7 (w.heap.size) (by kernel_rfl) rfl (fun hcu => by go_simp; try rfl) ?_
  try simp only [pz]
  refine PF.t 8 (by kernel_rfl) rfl (by intro u; go_simp; try rfl) ?_
  try simp only [pz]
  refine PF.t 9 (by kernel_rfl) rfl (by intro u; go_simp; try rfl) ?_
  try simp only [pz]
  refine PF.m 10 ((w.heap.size+1)) (by kernel_rfl) rfl (fun hcu => by go_simp; try rfl) ?_
  try simp only [pz]
  refine PF.t 11 (by kernel_rfl) rfl (by intro u; go_simp; try rfl) ?_
  try simp only [pz]
  refine PF.t 12 (by kernel_rfl) rfl (by intro u; go_simp; try rfl) ?_
  try simp only [pz]
  refine PF.t 13 (by kernel_rfl) rfl (by intro u; go_simp; try rfl) ?_
  try simp only [pz]
  refine PF.t 14 (by kernel_rfl) rfl (by intro u; go_simp; try rfl) ?_
  try simp only [pz]
  refine PF.u 15 ((fun u => Blk u w.heap.size 45 (mdL M (.slice A E.length c) vc).toArray)) (by kernel_rfl) rfl (H1.out) (fun u hu => exec_load_blk rfl rfl hu Tryz.underlying45 rfl (info_model rfl)) ?_
  try simp only [pz]
  refine PF.u 17 ((fun u => Blk u (w.heap.size + 1) 45 (mdL N (.slice B F.length d) uc).toArray)) (by kernel_rfl) rfl (H2.out) (fun u hu => exec_load_blk rfl rfl hu Tryz.underlying45 rfl (info_model rfl)) ?_
  try simp only [pz]
  refine PF.e 16 (by kernel_rfl) rfl fun K hK => ?_
  go_simp
  refine (rcursor_any (M := M) (HUM.out.below HT.out) rfl 1 (by decide)).mono ?_
  rintro e v16 ⟨rfl, hb⟩
  rw [HCM.out.1]
  have HT := Tt HT hb
  have H1 := Bb H1 hb
  have H2 := Bb H2 hb
  clear hb
  refine hK (by repeat (first | exact PF.n | refine PF.l ?_ | refine PF.o (by decide +kernel) ?_ | refine PF.y (by first | exact H1.out | exact H2.out) ?_)) ?_
  clear hK K
  try simp only [pz]
  refine PF.e 18 (by kernel_rfl) rfl fun K hK => ?_
  go_simp
  refine (rcursor_any (M := N) (HUN.out.below HT.out) rfl 1 (by decide)).mono ?_
  rintro e v18 ⟨rfl, hb⟩
  rw [HCN.out.1]
  have HT := Tt HT hb
  have H1 := Bb H1 hb
  have H2 := Bb H2 hb
  clear hb
  refine hK (by repeat (first | exact PF.n | refine PF.l ?_ | refine PF.o (by decide +kernel) ?_ | refine PF.y (by first | exact H1.out | exact H2.out) ?_)) ?_
  clear hK K
  try simp only [pz]
  refine PF.t 19 (by kernel_rfl) rfl (by intro u; go_simp; try rfl) ?_
  try simp only [pz]
  refine PF.t 20 (by kernel_rfl) rfl (by intro u; go_simp; try rfl) ?_
  try simp only [pz]
  refine PF.t 21 (by kernel_rfl) rfl (by intro u; go_simp; try rfl) ?_
  try simp only [pz]
  refine PF.s 22 (by kernel_rfl) rfl ?_
  refine PF.s 24 (by kernel_rfl) rfl ?_
  refine PF.k 23 (by kernel_rfl) rfl ?_
  refine PF.k 25 (by kernel_rfl) rfl ?_
  refine PF.s 26 (by kernel_rfl) rfl ?_
  try simp only [pz]
  refine PF.t 27 (by kernel_rfl) rfl (by intro u; go_simp; try rfl) ?_
  try simp only [pz]
  refine PF.t 28 (by kernel_rfl) rfl (by intro u; go_simp; try rfl) ?_
  try simp only [pz]
  refine PF.s 29 (by kernel_rfl) rfl ?_
  refine PF.s 31 (by kernel_rfl) rfl ?_
  refine PF.k 30 (by kernel_rfl) rfl ?_
  refine PF.k 32 (by kernel_rfl) rfl ?_
  refine PF.s 33 (by kernel_rfl) rfl ?_
  try simp only [pz]
  refine PF.t 34 (by kernel_rfl) rfl (by intro u; go_simp; try rfl) ?_
  try simp only [pz]
  refine PF.d (by kernel_rfl) ?_
  go_wp2_with fail
  go_ret
  exact ⟨by rw [HQ.out]; rfl, HT.out⟩
 have e10 : (c1 != d1) = false := bne_eq_false_iff_eq.2 he1
 have e11 : ((c1 : Int) != (d1 : Int)) = false := bne_eq_false_iff_eq.2 (by omega)
 by_cases he2 : c2 = d2
 rotate_left
 ·skip
  have e20 : (c2 != d2) = true := bne_iff_ne.2 he2
  have e21 : ((c2 : Int) != (d2 : Int)) = true := bne_iff_ne.2 (by omega)
  have HQ : Hid (sameM M N = false) := by show _ = _; rw [HP.out]; rw [decide_eq_false (fun e : [c1, c2, c3] = [d1, d2, d3] => he2 (by simp only [List.cons.injEq, and_true] at e; exact e.2.1)), Bool.and_false, Bool.false_and]
  clear ht hl he1 he2
  refine PF.b (by kernel_rfl) (fun _ _ _ _ _ h => h) ?_
  have HT := Lib.hid HT.out.drew
  have H1 := Lib.hid H1.out.drew
  have H2 := Lib.hid H2.out.drew
  refine PF.t 0 (by kernel_rfl) rfl (by intro u; go_simp; try rfl) ?_
  try simp only [pz]
  refine PF.m 1 (w.heap.size) (by kernel_rfl) rfl (fun hcu => by go_simp; try rfl) ?_
  try simp only [pz]
  refine PF.t 2 (by kernel_rfl) rfl (by intro u; go_simp; try rfl) ?_
  try simp only [pz]
  refine PF.m 3 ((w.heap.size+1)) (by kernel_rfl) rfl (fun hcu => by go_simp; try rfl) ?_
  try simp only [pz]
  refine PF.t 4 (by kernel_rfl) rfl (by intro u; go_simp; try rfl) ?_
  try simp only [pz]
  refine PF.t 5 (by kernel_rfl) rfl (by intro u; go_simp; try rfl) ?_
  try simp only [pz]
  refine PF.t 6 (by kernel_rfl) rfl (by intro u; go_simp; try rfl) ?_
  try simp only [pz]
  refine PF.m 7 (w.heap.size) (by kernel_rfl) rfl (fun hcu => by go_simp; try rfl) ?_
  try simp only [pz]
  refine PF.t 8 (by kernel_rfl) rfl (by intro u; go_simp; try rfl) ?_
  try simp only [pz]
  refine PF.t 9 (by kernel_rfl) rfl (by intro u; go_simp; try rfl) ?_
  try simp only [pz]
  refine PF.m 10 ((w.heap.size+1)) (by kernel_rfl) rfl (fun hcu => by go_simp; try rfl) ?_
  try simp only [pz]
  refine PF.t 11 (by kernel_rfl) rfl (by intro u; go_simp; try rfl) ?_
  try simp only [pz]
  refine PF.t 12 (by kernel_rfl) rfl (by intro u; go_simp; try rfl) ?_
  try simp only [pz]
  refine PF.t 13 (by kernel_rfl) rfl (by intro u; go_simp; try rfl) ?_
  try simp only [pz]
  refine PF.t 14 (by kernel_rfl) rfl (by intro u; go_simp; try rfl) ?_
  try simp only [pz]
  refine PF.u 15 ((fun u => Blk u w.heap.size 45 (mdL M (.slice A E.length c) vc).toArray)) (by kernel_rfl) rfl (H1.out) (fun u hu => exec_load_blk rfl rfl hu Tryz.underlying45 rfl (info_model rfl)) ?_
  try simp only [pz]
  refine PF.u 17 ((fun u => Blk u (w.heap.size + 1) 45 (mdL N (.slice B F.length d) uc).toArray)) (by kernel_rfl) rfl (H2.out) (fun u hu => exec_load_blk rfl rfl hu Tryz.underlying45 rfl (info_model rfl)) ?_
  try simp only [pz]
  refine PF.e 16 (by kernel_rfl) rfl fun K hK => ?_
  go_simp
  refine (rcursor_any (M := M) (HUM.out.below HT.out) rfl 1 (by decide)).mono ?_
  rintro e v16 ⟨rfl, hb⟩
  rw [HCM.out.1]
  have HT := Tt HT hb
  have H1 := Bb H1 hb
  have H2 := Bb H2 hb
  clear hb
  refine hK (by repeat (first | exact PF.n | refine PF.l ?_ | refine PF.o (by decide +kernel) ?_ | refine PF.y (by first | exact H1.out | exact H2.out) ?_)) ?_
  clear hK K
  try simp only [pz]
  refine PF.e 18 (by kernel_rfl) rfl fun K hK => ?_
  go_simp
  refine (rcursor_any (M := N) (HUN.out.below HT.out) rfl 1 (by decide)).mono ?_
  rintro e v18 ⟨rfl, hb⟩
  rw [HCN.out.1]
  have HT := Tt HT hb
  have H1 := Bb H1 hb
  have H2 := Bb H2 hb
  clear hb
  refine hK (by repeat (first | exact PF.n | refine PF.l ?_ | refine PF.o (by decide +kernel) ?_ | refine PF.y (by first | exact H1.out | exact H2.out) ?_)) ?_
  clear hK K
  try simp only [pz]
  refine PF.t 19 (by kernel_rfl) rfl (by intro u; go_simp; try rfl) ?_
  try simp only [pz]
  refine PF.t 20 (by kernel_rfl) rfl (by intro u; go_simp; try rfl) ?_
  try simp only [pz]
  refine PF.t 21 (by kernel_rfl) rfl (by intro u; go_simp; try rfl) ?_
  try simp only [pz]
  refine PF.u 22 ((fun u => Blk u w.heap.size 45 (mdL M (.slice A E.length c) vc).toArray)) (by kernel_rfl) rfl (H1.out) (fun u hu => exec_load_blk rfl rfl hu Tryz.underlying45 rfl (info_model rfl)) ?_
  try simp only [pz]
  refine PF.u 24 ((fun u => Blk u (w.heap.size + 1) 45 (mdL N (.slice B F.length d) uc).toArray)) (by kernel_rfl) rfl (H2.out) (fun u hu => exec_load_blk rfl rfl hu Tryz.underlying45 rfl (info_model rfl)) ?_
  try simp only [pz]
  refine PF.e 23 (by kernel_rfl) rfl fun K hK => ?_
  go_simp
  refine (rcursor_any (M := M) (HUM.out.below HT.out) rfl 2 (by decide)).mono ?_
  rintro e v23 ⟨rfl, hb⟩
  rw [HCM.out.2.1]
  have HT := Tt HT hb
  have H1 := Bb H1 hb
  have H2 := Bb H2 hb
  clear hb
  refine hK (by repeat (first | exact PF.n | refine PF.l ?_ | refine PF.o (by decide +kernel) ?_ | refine PF.y (by first | exact H1.out | exact H2.out) ?_)) ?_
  clear hK K
  try simp only [pz]
  refine PF.e 25 (by kernel_rfl) rfl fun K hK => ?_
  go_simp
  refine (rcursor_any (M := N) (HUN.out.below HT.out) rfl 2 (by decide)).mono ?_
  rintro e v25 ⟨rfl, hb⟩
  rw [HCN.out.2.1]
  have HT := Tt HT hb
  have H1 := Bb H1 hb
  have H2 := Bb H2 hb
  clear hb
  refine hK (by repeat (first | exact PF.n | refine PF.l ?_ | refine PF.o (by decide +kernel) ?_ | refine PF.y (by first | exact H1.out | exact H2.out) ?_)) ?_
  clear hK K
  try simp only [pz]
  refine PF.t 26 (by kernel_rfl) rfl (by intro u; go_simp; try rfl) ?_
  try simp only [pz]
  refine PF.t 27 (by kernel_rfl) rfl (by intro u; go_simp; try rfl) ?_
  try simp only [pz]
  refine PF.t 28 (by kernel_rfl) rfl (by intro u; go_simp; try rfl) ?_
  try simp only [pz]
  refine PF.s 29 (by kernel_rfl) rfl ?_
  refine PF.s 31 (by kernel_rfl) rfl ?_
  refine PF.k 30 (by kernel_rfl) rfl ?_
  refine PF.k 32 (by kernel_rfl) rfl ?_
  refine PF.s 33 (by kernel_rfl) rfl ?_
  try simp only [pz]
  refine PF.t 34 (by kernel_rfl) rfl (by intro u; go_simp; try rfl) ?_
  try simp only [pz]
  refine PF.d (by kernel_rfl) ?_
  go_wp2_with fail
  go_ret
  exact ⟨by rw [HQ.out]; rfl, HT.out⟩
 have e20 : (c2 != d2) = false := bne_eq_false_iff_eq.2 he2
 have e21 : ((c2 : Int) != (d2 : Int)) = false := bne_eq_false_iff_eq.2 (by omega)
 by_cases he3 : c3 = d3
 rotate_left
 ·skip
  have e30 : (c3 != d3) = true := bne_iff_ne.2 he3
  have e31 : ((c3 : Int) != (d3 : Int)) = true := bne_iff_ne.2 (by omega)
  have HQ : Hid (sameM M N = false) := by show _ = _; rw [HP.out]; rw [decide_eq_false (fun e : [c1, c2, c3] = [d1, d2, d3] => he3 (by simp only [List.cons.injEq, and_true] at e; exact e.2.2)), Bool.and_false, Bool.false_and]
  clear ht hl he1 he2 he3
  refine PF.b (by kernel_rfl) (fun _ _ _ _ _ h => h) ?_
  have HT := Lib.hid HT.out.drew
  have H1 := Lib.hid H1.out.drew
  have H2 := Lib.hid H2.out.drew
  refine PF.t 0 (by kernel_rfl) rfl (by intro u; go_simp; try rfl) ?_
  try simp only [pz]
  refine PF.m 1 (w.heap.size) (by kernel_rfl) rfl (fun hcu => by go_simp; try rfl) ?_
  try simp only [pz]
  refine PF.t 2 (by kernel_rfl) rfl (by intro u; go_simp; try rfl) ?_
  try simp only [pz]
  refine PF.m 3 ((w.heap.size+1)) (by kernel_rfl) rfl (fun hcu => by go_simp; try rfl) ?_
  try simp only [pz]
  refine PF.t 4 (by kernel_rfl) rfl (by intro u; go_simp; try rfl) ?_
  try simp only [pz]
  refine PF.t 5 (by kernel_rfl) rfl (by intro u; go_simp; try rfl) ?_
  try simp only [pz]
  refine PF.t 6 (by kernel_rfl) rfl (by intro u; go_simp; try rfl) ?_
  try simp only [pz]
  refine PF.m 7 (w.heap.size) (by kernel_rfl) rfl (fun hcu => by go_simp; try rfl) ?_
  try simp only [pz]
  refine PF.t 8 (by kernel_rfl) rfl (by intro u; go_simp; try rfl) ?_
  try simp only [pz]
  refine PF.t 9 (by kernel_rfl) rfl (by intro u; go_simp; try rfl) ?_
  try simp only [pz]
  refine PF.m 10 ((w.heap.size+1)) (by kernel_rfl) rfl (fun hcu => by go_simp; try rfl) ?_
  try simp only [pz]
  refine PF.t 11 (by kernel_rfl) rfl (by intro u; go_simp; try rfl) ?_
  try simp only [pz]
  refine PF.t 12 (by kernel_rfl) rfl (by intro u; go_simp; try rfl) ?_
  try simp only [pz]
  refine PF.t 13 (by kernel_rfl) rfl (by intro u; go_simp; try rfl) ?_
  try simp only [pz]
  refine PF.t 14 (by kernel_rfl) rfl (by intro u; go_simp; try rfl) ?_
  try simp only [pz]
  refine PF.u 15 ((fun u => Blk u w.heap.size 45 (mdL M (.slice A E.length c) vc).toArray)) (by kernel_rfl) rfl (H1.out) (fun u hu => exec_load_blk rfl rfl hu Tryz.underlying45 rfl (info_model rfl)) ?_
  try simp only [pz]
  refine PF.u 17 ((fun u => Blk u (w.heap.size + 1) 45 (mdL N (.slice B F.length d) uc).toArray)) (by kernel_rfl) rfl (H2.out) (fun u hu => exec_load_blk rfl rfl hu Tryz.underlying45 rfl (info_model rfl)) ?_
  try simp only [pz]
  refine PF.e 16 (by kernel_rfl) rfl fun K hK => ?_
  go_simp
  refine (rcursor_any (M := M) (HUM.out.below HT.out) rfl 1 (by decide)).mono ?_
  rintro e v16 ⟨rfl, hb⟩
  rw [HCM.out.1]
  have HT := Tt HT hb
  have H1 := Bb H1 hb
  have H2 := Bb H2 hb
  clear hb
  refine hK (by repeat (first | exact PF.n | refine PF.l ?_ | refine PF.o (by decide +kernel) ?_ | refine PF.y (by first | exact H1.out | exact H2.out) ?_)) ?_
  clear hK K
  try simp only [pz]
  refine PF.e 18 (by kernel_rfl) rfl fun K hK => ?_
  go_simp
  refine (rcursor_any (M := N) (HUN.out.below HT.out) rfl 1 (by decide)).mono ?_
  rintro e v18 ⟨rfl, hb⟩
  rw [HCN.out.1]
  have HT := Tt HT hb
  have H1 := Bb H1 hb
  have H2 := Bb H2 hb
  clear hb
  refine hK (by repeat (first | exact PF.n | refine PF.l ?_ | refine PF.o (by decide +kernel) ?_ | refine PF.y (by first | exact H1.out | exact H2.out) ?_)) ?_
  clear hK K
  try simp only [pz]
  refine PF.t 19 (by kernel_rfl) rfl (by intro u; go_simp; try rfl) ?_
  try simp only [pz]
  refine PF.t 20 (by kernel_rfl) rfl (by intro u; go_simp; try rfl) ?_
  try simp only [pz]
  refine PF.t 21 (by kernel_rfl) rfl (by intro u; go_simp; try rfl) ?_
  try simp only [pz]
  refine PF.u 22 ((fun u => Blk u w.heap.size 45 (mdL M (.slice A E.length c) vc).toArray)) (by kernel_rfl) rfl (H1.out) (fun u hu => exec_load_blk rfl rfl hu Tryz.underlying45 rfl (info_model rfl)) ?_
  try simp only [pz]
  refine PF.u 24 ((fun u => Blk u (w.heap.size + 1) 45 (mdL N (.slice B F.length d) uc).toArray)) (by kernel_rfl) rfl (H2.out) (fun u hu => exec_load_blk rfl rfl hu Tryz.underlying45 rfl (info_model rfl)) ?_
  try simp only [pz]
  refine PF.e 23 (by kernel_rfl) rfl fun K hK => ?_
  go_simp
  refine (rcursor_any (M := M) (HUM.out.below HT.out) rfl 2 (by decide)).mono ?_
  rintro e v23 ⟨rfl, hb⟩
  rw [HCM.out.2.1]
  have HT := Tt HT hb
  have H1 := Bb H1 hb
  have H2 := Bb H2 hb
  clear hb
  refine hK (by repeat (first | exact PF.n | refine PF.l ?_ | refine PF.o (by decide +kernel) ?_ | refine PF.y (by first | exact H1.out | exact H2.out) ?_)) ?_
  clear hK K
  try simp only [pz]
  refine PF.e 25 (by kernel_rfl) rfl fun K hK => ?_
  go_simp
  refine (rcursor_any (M := N) (HUN.out.below HT.out) rfl 2 (by decide)).mono ?_
  rintro e v25 ⟨rfl, hb⟩
  rw [HCN.out.2.1]
  have HT := Tt HT hb
  have H1 := Bb H1 hb
  have H2 := Bb H2 hb
  clear hb
  refine hK (by repeat (first | exact PF.n | refine PF.l ?_ | refine PF.o (by decide +kernel) ?_ | refine PF.y (by first | exact H1.out | exact H2.out) ?_)) ?_
  clear hK K
  try simp only [pz]
  refine PF.t 26 (by kernel_rfl) rfl (by intro u; go_simp; try rfl) ?_
  try simp only [pz]
  refine PF.t 27 (by kernel_rfl) rfl (by intro u; go_simp; try rfl) ?_
  try simp only [pz]
  refine PF.t 28 (by kernel_rfl) rfl (by intro u; go_simp; try rfl) ?_
  try simp only [pz]
  refine PF.u 29 ((fun u => Blk u w.heap.size 45 (mdL M (.slice A E.length c) vc).toArray)) (by kernel_rfl) rfl (H1.out) (fun u hu => exec_load_blk rfl rfl hu Tryz.underlying45 rfl (info_model rfl)) ?_
  try simp only [pz]
  refine PF.u 31 ((fun u => Blk u (w.heap.size + 1) 45 (mdL N (.slice B F.length d) uc).toArray)) (by kernel_rfl) rfl (H2.out) (fun u hu => exec_load_blk rfl rfl hu Tryz.underlying45 rfl (info_model rfl)) ?_
  try simp only [pz]
  refine PF.e 30 (by kernel_rfl) rfl fun K hK => ?_
  go_simp
  refine (rcursor_any (M := M) (HUM.out.below HT.out) rfl 3 (by decide)).mono ?_
  rintro e v30 ⟨rfl, hb⟩
  rw [HCM.out.2.2]
  have HT := Tt HT hb
  have H1 := Bb H1 hb
  have H2 := Bb H2 hb
  clear hb
  refine hK (by repeat (first | exact PF.n | refine PF.l ?_ | refine PF.o (by decide +kernel) ?_ | refine PF.y (by first | exact H1.out | exact H2.out) ?_)) ?_
  clear hK K
  try simp only [pz]
  refine PF.e 32 (by kernel_rfl) rfl fun K hK => ?_
  go_simp
  refine (rcursor_any (M := N) (HUN.out.below HT.out) rfl 3 (by decide)).mono ?_
  rintro e v32 ⟨rfl, hb⟩
  rw [HCN.out.2.2]
  have HT := Tt HT hb
  have H1 := Bb H1 hb
  have H2 := Bb H2 hb
  clear hb
  refine hK (by repeat (first | exact PF.n | refine PF.l ?_ | refine PF.o (by decide +kernel) ?_ | refine PF.y (by first | exact H1.out | exact H2.out) ?_)) ?_
  clear hK K
  try simp only [pz]
  refine PF.t 33 (by kernel_rfl) rfl (by intro u; go_simp; try rfl) ?_
  try simp only [pz]
  refine PF.t 34 (by kernel_rfl) rfl (by intro u; go_simp; try rfl) ?_
  try simp only [pz]
  refine PF.d (by kernel_rfl) ?_
  go_wp2_with fail
  go_ret
  exact ⟨by rw [HQ.out]; rfl, HT.out⟩
 have e30 : (c3 != d3) = false := bne_eq_false_iff_eq.2 he3
 have e31 : ((c3 : Int) != (d3 : Int)) = false := bne_eq_false_iff_eq.2 (by omega)
 have HQ : Hid (sameM M N = decide (logs E = logs F)) := by
  show _ = _
  rw [HP.out, decide_eq_true ht, decide_eq_true (by rw [he1, he2, he3]), HEF.out.1, HEF.out.2]
  rfl
 have HLE : Hid (E.length = F.length) := hl
 clear he1 he2 he3 ht hl
 refine PF.b (by kernel_rfl) (fun _ _ _ _ _ h => h) ?_
 have HT := Lib.hid HT.out.drew
 have H1 := Lib.hid H1.out.drew
 have H2 := Lib.hid H2.out.drew
 refine PF.t 0 (by kernel_rfl) rfl (by intro u; go_simp; try rfl) ?_
 try simp only [pz]
 refine PF.m 1 (w.heap.size) (by kernel_rfl) rfl (fun hcu => by go_simp; try rfl) ?_
 try simp only [pz]
 refine PF.t 2 (by kernel_rfl) rfl (by intro u; go_simp; try rfl) ?_
 try simp only [pz]
 refine PF.m 3 ((w.heap.size+1)) (by kernel_rfl) rfl (fun hcu => by go_simp; try rfl) ?_
 try simp only [pz]
 refine PF.t 4 (by kernel_rfl) rfl (by intro u; go_simp; try rfl) ?_
 try simp only [pz]
 refine PF.t 5 (by kernel_rfl) rfl (by intro u; go_simp; try rfl) ?_
 try simp only [pz]
 refine PF.t 6 (by kernel_rfl) rfl (by intro u; go_simp; try rfl) ?_
 try simp only [pz]
 refine PF.m 7 (w.heap.size) (by kernel_rfl) rfl (fun hcu => by go_simp; try rfl) ?_
 try simp only [pz]
 refine PF.t 8 (by kernel_rfl) rfl (by intro u; go_simp; try rfl) ?_
 try simp only [pz]
 refine PF.t 9 (by kernel_rfl) rfl (by intro u; go_simp; try rfl) ?_
 try simp only [pz]
 refine PF.m 10 ((w.heap.size+1)) (by kernel_rfl) rfl (fun hcu => by go_simp; try rfl) ?_
 try simp only [pz]
 refine PF.t 11 (by kernel_rfl) rfl (by intro u; go_simp; try rfl) ?_
 try simp only [pz]
 refine PF.t 12 (by kernel_rfl) rfl (by intro u; go_simp; try rfl) ?_
 try simp only [pz]
 refine PF.t 13 (by kernel_rfl) rfl (by intro u; go_simp; try rfl) ?_
 try simp only [pz]
 refine PF.t 14 (by kernel_rfl) rfl (by intro u; go_simp; try rfl) ?_
 try simp only [pz]
 refine PF.u 15 ((fun u => Blk u w.heap.size 45 (mdL M (.slice A E.length c) vc).toArray)) (by kernel_rfl) rfl (H1.out) (fun u hu => exec_load_blk rfl rfl hu Tryz.underlying45 rfl (info_model rfl)) ?_
 try simp only [pz]
 refine PF.u 17 ((fun u => Blk u (w.heap.size + 1) 45 (mdL N (.slice B F.length d) uc).toArray)) (by kernel_rfl) rfl (H2.out) (fun u hu => exec_load_blk rfl rfl hu Tryz.underlying45 rfl (info_model rfl)) ?_
 try simp only [pz]
 refine PF.e 16 (by kernel_rfl) rfl fun K hK => ?_
 go_simp
 refine (rcursor_any (M := M) (HUM.out.below HT.out) rfl 1 (by decide)).mono ?_
 rintro e v16 ⟨rfl, hb⟩
 rw [HCM.out.1]
 have HT := Tt HT hb
 have H1 := Bb H1 hb
 have H2 := Bb H2 hb
 clear hb
 refine hK (by repeat (first | exact PF.n | refine PF.l ?_ | refine PF.o (by decide +kernel) ?_ | refine PF.y (by first | exact H1.out | exact H2.out) ?_)) ?_
 clear hK K
 try simp only [pz]
 refine PF.e 18 (by kernel_rfl) rfl fun K hK => ?_
 go_simp
 refine (rcursor_any (M := N) (HUN.out.below HT.out) rfl 1 (by decide)).mono ?_
 rintro e v18 ⟨rfl, hb⟩
 rw [HCN.out.1]
 have HT := Tt HT hb
 have H1 := Bb H1 hb
 have H2 := Bb H2 hb
 clear hb
 refine hK (by repeat (first | exact PF.n | refine PF.l ?_ | refine PF.o (by decide +kernel) ?_ | refine PF.y (by first | exact H1.out | exact H2.out) ?_)) ?_
 clear hK K
 try simp only [pz]
 refine PF.t 19 (by kernel_rfl) rfl (by intro u; go_simp; try rfl) ?_
 try simp only [pz]
 refine PF.t 20 (by kernel_rfl) rfl (by intro u; go_simp; try rfl) ?_
 try simp only [pz]
 refine PF.t 21 (by kernel_rfl) rfl (by intro u; go_simp; try rfl) ?_
 try simp only [pz]
 refine PF.u 22 ((fun u => Blk u w.heap.size 45 (mdL M (.slice A E.length c) vc).toArray)) (by kernel_rfl) rfl (H1.out) (fun u hu => exec_load_blk rfl rfl hu Tryz.underlying45 rfl (info_model rfl)) ?_
 try simp only [pz]
 refine PF.u 24 ((fun u => Blk u (w.heap.size + 1) 45 (mdL N (.slice B F.length d) uc).toArray)) (by kernel_rfl) rfl (H2.out) (fun u hu => exec_load_blk rfl rfl hu Tryz.underlying45 rfl (info_model rfl)) ?_
 try simp only [pz]
 refine PF.e 23 (by kernel_rfl) rfl fun K hK => ?_
 go_simp
 refine (rcursor_any (M := M) (HUM.out.below HT.out) rfl 2 (by decide)).mono ?_
 rintro e v23 ⟨rfl, hb⟩
 rw [HCM.out.2.1]
 have HT := Tt HT hb
 have H1 := Bb H1 hb
 have H2 := Bb H2 hb
 clear hb
 refine hK (by repeat (first | exact PF.n | refine PF.l ?_ | refine PF.o (by decide +kernel) ?_ | refine PF.y (by first | exact H1.out | exact H2.out) ?_)) ?_
 clear hK K
 try simp only [pz]
 refine PF.e 25 (by kernel_rfl) rfl fun K hK => ?_
 go_simp
 refine (rcursor_any (M := N) (HUN.out.below HT.out) rfl 2 (by decide)).mono ?_
 rintro e v25 ⟨rfl, hb⟩
 rw [HCN.out.2.1]
 have HT := Tt HT hb
 have H1 := Bb H1 hb
 have H2 := Bb H2 hb
 clear hb
 refine hK (by repeat (first | exact PF.n | refine PF.l ?_ | refine PF.o (by decide +kernel) ?_ | refine PF.y (by first | exact H1.out | exact H2.out) ?_)) ?_
 clear hK K
 try simp only [pz]
 refine PF.t 26 (by kernel_rfl) rfl (by intro u; go_simp; try rfl) ?_
 try simp only [pz]
 refine PF.t 27 (by kernel_rfl) rfl (by intro u; go_simp; try rfl) ?_
 try simp only [pz]
 refine PF.t 28 (by kernel_rfl) rfl (by intro u; go_simp; try rfl) ?_
 try simp only [pz]
 refine PF.u 29 ((fun u => Blk u w.heap.size 45 (mdL M (.slice A E.length c) vc).toArray)) (by kernel_rfl) rfl (H1.out) (fun u hu => exec_load_blk rfl rfl hu Tryz.underlying45 rfl (info_model rfl)) ?_
 try simp only [pz]
 refine PF.u 31 ((fun u => Blk u (w.heap.size + 1) 45 (mdL N (.slice B F.length d) uc).toArray)) (by kernel_rfl) rfl (H2.out) (fun u hu => exec_load_blk rfl rfl hu Tryz.underlying45 rfl (info_model rfl)) ?_
 try simp only [pz]
 refine PF.e 30 (by kernel_rfl) rfl fun K hK => ?_
 go_simp
 refine (rcursor_any (M := M) (HUM.out.below HT.out) rfl 3 (by decide)).mono ?_
 rintro e v30 ⟨rfl, hb⟩
 rw [HCM.out.2.2]
 have HT := Tt HT hb
 have H1 := Bb H1 hb
 have H2 := Bb H2 hb
 clear hb
 refine hK (by repeat (first | exact PF.n | refine PF.l ?_ | refine PF.o (by decide +kernel) ?_ | refine PF.y (by first | exact H1.out | exact H2.out) ?_)) ?_
 clear hK K
 try simp only [pz]
 refine PF.e 32 (by kernel_rfl) rfl fun K hK => ?_
 go_simp
 refine (rcursor_any (M := N) (HUN.out.below HT.out) rfl 3 (by decide)).mono ?_
 rintro e v32 ⟨rfl, hb⟩
 rw [HCN.out.2.2]
 have HT := Tt HT hb
 have H1 := Bb H1 hb
 have H2 := Bb H2 hb
 clear hb
 refine hK (by repeat (first | exact PF.n | refine PF.l ?_ | refine PF.o (by decide +kernel) ?_ | refine PF.y (by first | exact H1.out | exact H2.out) ?_)) ?_
 clear hK K
 try simp only [pz]
 refine PF.t 33 (by kernel_rfl) rfl (by intro u; go_simp; try rfl) ?_
 try simp only [pz]
 refine PF.t 34 (by kernel_rfl) rfl (by intro u; go_simp; try rfl) ?_
 try simp only [pz]
 refine PF.d (by kernel_rfl) ?_
 clear t0 t1 l0 l1 e10 e11 e20 e21 e30 e31 a0 a1 b0 b1
 obtain ⟨wm, hwm⟩ : ∃ wm : World, wm = v32 := ⟨_, rfl⟩
 go_wp2_with fail
 go_loopw [5] (fun iv wr => ∃ k : Nat, k ≤ E.length ∧ iv = .int .i64 k ∧ (logs E).take k = (logs F).take k ∧ Below v32.heap.size v32 wr) (fun iv _ => E.length - (intOf iv).toNat)
 case atStart => exact ⟨0, by omega, rfl, rfl, Below.refl _ _⟩
 case round =>
  obtain ⟨k, hk, rfl, htk, hb⟩ := hrel
  obtain ⟨wr, rfl⟩ : ∃ wo : World, wo = wr := ⟨_, rfl⟩
  have HTR := Tt HT hb
  have HBR := Lib.hid hb
  have H1r := Bb H1 hb
  have H2r := Bb H2 hb
  have a0 := (H1r.out.cell 0).trans (rfl : _ = some (Value.slice A E.length c))
  have b0 := (H2r.out.cell 0).trans (rfl : _ = some (Value.slice B F.length d))
  have HTK := Lib.hid htk
  clear hb htk hwm
  by_cases hlt : k < E.length
  ·have hlt2 : k < F.length := by have := HLE.out; omega
   have hr1 := HR.out.below HTR.out
   have hr2 := HR2.out.below HTR.out
   obtain ⟨b, o, eb, hbl, x0, x1, x2⟩ := en_cells hr1 hlt
   obtain ⟨b', o', eb', hbl', y0, y1, y2⟩ := en_cells hr2 hlt2
   have hx := (HALL.out _ (List.getElem_mem hlt)).below HTR.out
   have hy := (HAL2.out _ (List.getElem_mem hlt2)).below HTR.out
   have HM := Lib.hid (logs_take hlt hlt2 HTK.out)
   have HN : Hid (E[k].1 ≠ F[k].1 → logs E ≠ logs F) := logs_ne hlt hlt2
   generalize E[k] = p at x0 x1 x2 hx HM HN
   generalize F[k] = q at y0 y1 y2 hy HM HN
   obtain ⟨x, px⟩ := p
   obtain ⟨y, py⟩ := q
   obtain ⟨Dx, cx, ex, _⟩ := id hx
   obtain ⟨Dy, cy, ey, _⟩ := id hy
   simp only at ex ey x0 x1 x2 y0 y1 y2
   subst ex ey
   subst eb eb'
   have HX := Lib.hid hx
   have HY := Lib.hid hy
   have hlti : (k : Int) < (E.length : Int) := by omega
   have hltj : (k : Int) < (F.length : Int) := by omega
   have hwk : IntKind.i64.wrap ((k : Int) + 1) = (k : Int) + 1 := by rw [IntKind.wrap_i64]; omega
   clear hx hy hr1 hr2 hbl hbl'
   go_wp2_with fail
   refine PF.b (by kernel_rfl) (fun _ _ _ _ _ h => h) ?_
   refine PF.t 0 (by kernel_rfl) rfl (by intro u; go_simp; try rfl) ?_
   try simp only [pz]
   refine PF.m 1 (w.heap.size) (by kernel_rfl) rfl (fun hcu => by go_simp; try rfl) ?_
   try simp only [pz]
   refine PF.t 2 (by kernel_rfl) rfl (by intro u; go_simp; try rfl) ?_
   try simp only [pz]
   refine PF.t 3 (by kernel_rfl) rfl (by intro u; go_simp; try rfl) ?_
   try simp only [pz]
   refine PF.m 4 (b) (by kernel_rfl) rfl (fun hcu => by go_simp; try rfl) ?_
   try simp only [pz]
   refine PF.t 5 (by kernel_rfl) rfl (by intro u; go_simp; try rfl) ?_
   try simp only [pz]
   refine PF.m 6 ((w.heap.size+1)) (by kernel_rfl) rfl (fun hcu => by go_simp; try rfl) ?_
   try simp only [pz]
   refine PF.t 7 (by kernel_rfl) rfl (by intro u; go_simp; try rfl) ?_
   try simp only [pz]
   refine PF.t 8 (by kernel_rfl) rfl (by intro u; go_simp; try rfl) ?_
   try simp only [pz]
   refine PF.m 9 (b') (by kernel_rfl) rfl (fun hcu => by go_simp; try rfl) ?_
   try simp only [pz]
   refine PF.e 10 (by kernel_rfl) rfl fun K hK => ?_
   go_simp
   refine (r11same_any (a := x) (b := y) (HX.out.below ((Below.refl _ _).drew)) (HY.out.below ((Below.refl _ _).drew))).mono ?_
   rintro e w1 ⟨rfl, hb1⟩
   have hb1 := ((Below.refl wr.heap.size wr).drew).trans hb1
   have HB2 := Tt HBR hb1
   have HT2 := Tt HTR hb1
   clear hb1
   refine hK (by repeat (first | exact PF.n | refine PF.l ?_ | refine PF.o (by decide +kernel) ?_ | refine PF.y (by first | rfl | assumption | go_simp) ?_)) ?_
   clear hK K
   try simp only [pz]
   refine PF.t 11 (by kernel_rfl) rfl (by intro u; go_simp; try rfl) ?_
   try simp only [pz]
   refine PF.d (by kernel_rfl) ?_
   generalize hdd : decide (x = y) = dd
   clear x0 x1 x2 y0 y1 y2 a0 b0
   cases dd with
   | true =>
    have HM2 := Lib.hid (HM.out (of_decide_eq_true hdd))
    clear hdd HM HN
    go_wp2_with fail
    go_roundw
    case rel => exact ⟨k + 1, hlt, by go_num, HM2.out, HB2.out⟩
    case measure => simp [intOf]; omega
   | false =>
    have HZ : Hid (decide (logs E = logs F) = false) := decide_eq_false (HN.out (of_decide_eq_false hdd))
    clear hdd HM HN
    go_wp2_with fail
    go_ret
    exact ⟨by rw [HQ.out, HZ.out]; rfl, HT2.out⟩
  ·obtain rfl : k = E.length := by omega
   have HZ : Hid (decide (logs E = logs F) = true) := decide_eq_true (logs_all HLE.out HTK.out)
   go_wp2_with fail
   go_ret
   exact ⟨by rw [HQ.out, HZ.out]; rfl, HTR.out⟩
end Go.Proofs.YtpjmolnkmlpfeaaGreatDoor
