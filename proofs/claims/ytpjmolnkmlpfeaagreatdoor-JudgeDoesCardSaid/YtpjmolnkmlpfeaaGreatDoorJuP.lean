/- A call's name; whether two calls are alike. -/
import Derived.Test.YtpjmolnkmlpfeaaGreatDoorJS
import Derived.Test.YtpjmolnkmlpfeaaGreatDoorJY
import Derived.Laws.StructEq
namespace Go.Proofs.YtpjmolnkmlpfeaaGreatDoor
set_option linter.unusedVariables false
set_option linter.unusedSimpArgs false
set_option maxRecDepth 100000
open Go.RowKit

theorem zero_id (w : World) : (zeroValue 77).run Tryz.prog w = .ok (.agg #[.int .i64 0, .int .u64 0, .int .u64 0]) w := (zero_of_info (n := 3) (by kernel_rfl)).1 w
theorem info_id {cs : Array Value} (h : cs.size = 3) : (Tryz.prog.info? 77).map (·.size) = some cs.size := by rw [h]; kernel_rfl
set_option maxHeartbeats 4000000 in
theorem of_any {w : World} {C : Cal} {v : Value} (hv : v.oneCell' = true) :
  Calls Tryz.prog 34 #[.agg (calL C v).toArray] w fun e w' => e = .returned (idV (idOf C)) ∧ Below w.heap.size w w' := by
 have hB1 : Blk (w.alloc (.cells (calL C v).toArray 25)) w.heap.size 25 (calL C v).toArray := Blk.new _ _ _
 have hb1 := below_new w (.cells (calL C v).toArray 25)
 have HB1 := Lib.hid hB1
 have HT1 := Lib.hid hb1
 clear hB1 hb1
 go_enter Tryz.func34, Tryz.ntmps34
 go_wp2_with (refine wpList_alloc_blk rfl rfl zero_id ?_; rintro g w2 hg hB2 hb2; refine Hid.out ?_)
 refine Lib.hid ?_
 have HB2 := Bb HB1 hb2
 have HT2 := Lib.hid (below_call HT1.out HT1.out.size hb2)
 have HG : Hid (w.heap.size < g) := by
  show _ < _
  rw [← hg]
  simp
 have HR := Lib.hid hB2
 have c0 := (HB2.out.cell 0).trans (rfl : _ = some (Value.int .i64 C.cl))
 have c1 := (HB2.out.cell 1).trans (rfl : _ = some (Value.int .u64 (C.inc : Int)))
 have c2 := (HB2.out.cell 2).trans (rfl : _ = some (Value.int .u64 (C.n : Int)))
 have d0 := (hB2.cell 0).trans (rfl : _ = some (Value.int .i64 0))
 have d1 := (hB2.cell 1).trans (rfl : _ = some (Value.int .u64 0))
 have d2 := (hB2.cell 2).trans (rfl : _ = some (Value.int .u64 0))
 have y0 := hB2.free 0
 have y1 := hB2.free 1
 have y2 := hB2.free 2
 clear hB2 hb2 hg
 have HB9 : Hid (Blk (((w2.setCell ⟨g, 0, none⟩ (.int .i64 C.cl)).setCell ⟨g, 1, none⟩ (.int .u64 (C.inc : Int))).setCell ⟨g, 2, none⟩ (.int .u64 (C.n : Int))) g 77 #[.int .i64 C.cl, .int .u64 (C.inc : Int), .int .u64 (C.n : Int)]) := ((HR.out.put 0 (.int .i64 C.cl)).put 1 (.int .u64 (C.inc : Int))).put 2 (.int .u64 (C.n : Int))
 have HM9 : Hid (Mod (fun b => b = g) w2 (((w2.setCell ⟨g, 0, none⟩ (.int .i64 C.cl)).setCell ⟨g, 1, none⟩ (.int .u64 (C.inc : Int))).setCell ⟨g, 2, none⟩ (.int .u64 (C.n : Int)))) := Mod.set (S := fun b => b = g) (Mod.set (S := fun b => b = g) (Mod.set (S := fun b => b = g) (Mod.refl _ _) (p := ⟨g, 0, none⟩) (fun _ => rfl) _) (p := ⟨g, 1, none⟩) (fun _ => rfl) _) (p := ⟨g, 2, none⟩) (fun _ => rfl) _
 go_wp2_with fail
 refine bodyPost_ret (results_c Tryz.results34 _ HB9.out rfl Tryz.underlying77 rfl (info_id rfl)) rfl ?_
 exact ⟨rfl, HT2.out.trans (HM9.out.to_below HT2.out.size fun b hb e => by have := HG.out; omega)⟩
/- Names compared. -/
theorem id_cmp (w : World) (a b c a' b' c' : Int) : (binOp .eql 77 (.agg #[.int .i64 a, .int .u64 b, .int .u64 c]) (.agg #[.int .i64 a', .int .u64 b', .int .u64 c'])).run Tryz.prog w = .ok (.bool (decide (a = a' ∧ b = b' ∧ c = c'))) w := by
 have u3 := Tryz.underlying3
 have a3 := Tryz.isAgg3
 have z3 := Tryz.sizeOf3
 have u27 := Tryz.underlying22
 have a27 := Tryz.isAgg22
 have z27 := Tryz.sizeOf22
 have hS : Tryz.prog.underlying 77 = some (.struct (Tryz.prog.fieldsOf 77)) := by kernel_rfl
 have hp : Tryz.prog.stoodInHeld 77 = false := by kernel_rfl
 rw [run_eql_struct, show (10000 : Nat) = 9999 + 1 from rfl, run_equalIn_agg w 9999 77 _ _ hS hp]
 simp only [Program.fieldsOf, Tryz.underlying77]
 go_simp
 by_cases h1 : a = a' <;> by_cases h2 : b = b' <;> by_cases h3 : c = c' <;> simp [h1, h2, h3]
theorem id_cmpN (w : World) (a b c a' b' c' : Int) : (binOp .neq 77 (.agg #[.int .i64 a, .int .u64 b, .int .u64 c]) (.agg #[.int .i64 a', .int .u64 b', .int .u64 c'])).run Tryz.prog w = .ok (.bool (!decide (a = a' ∧ b = b' ∧ c = c'))) w := by
 have u3 := Tryz.underlying3
 have a3 := Tryz.isAgg3
 have z3 := Tryz.sizeOf3
 have u27 := Tryz.underlying22
 have a27 := Tryz.isAgg22
 have z27 := Tryz.sizeOf22
 have hS : Tryz.prog.underlying 77 = some (.struct (Tryz.prog.fieldsOf 77)) := by kernel_rfl
 have hp : Tryz.prog.stoodInHeld 77 = false := by kernel_rfl
 rw [run_neq_struct, show (10000 : Nat) = 9999 + 1 from rfl, run_equalIn_agg w 9999 77 _ _ hS hp]
 simp only [Program.fieldsOf, Tryz.underlying77]
 go_simp
 by_cases h1 : a = a' <;> by_cases h2 : b = b' <;> by_cases h3 : c = c' <;> simp [h1, h2, h3]
theorem id_guard : Tryz.prog.eqGuardType Tryz.prog.depth 77 = false := by kernel_rfl
theorem id_dec (i j : Idn) : decide (i.1 = j.1 ∧ (i.2.1 : Int) = (j.2.1 : Int) ∧ (i.2.2 : Int) = (j.2.2 : Int)) = decide (i = j) := by
 obtain ⟨a, b, c⟩ := i
 obtain ⟨a', b', c'⟩ := j
 by_cases h : (a, b, c) = (a', b', c')
 ·rw [decide_eq_true h]
  simp only [Prod.mk.injEq] at h
  obtain ⟨rfl, rfl, rfl⟩ := h
  exact decide_eq_true ⟨rfl, rfl, rfl⟩
 ·rw [decide_eq_false h]
  refine decide_eq_false fun e => h ?_
  simp only at e
  simp only [Prod.mk.injEq]
  exact ⟨e.1, by have := e.2.1; omega, by have := e.2.2; omega⟩
theorem eq_id (w : World) (i j : Idn) (b : Bool) (h : decide (i = j) = b) : (binOp .eql 77 (.agg #[.int .i64 i.1, .int .u64 (i.2.1 : Int), .int .u64 (i.2.2 : Int)]) (.agg #[.int .i64 j.1, .int .u64 (j.2.1 : Int), .int .u64 (j.2.2 : Int)])).run Tryz.prog w = .ok (.bool b) w := by
 rw [id_cmp, id_dec, h]
theorem ne_id (w : World) (i j : Idn) (b : Bool) (h : decide (i = j) = b) : (binOp .neq 77 (.agg #[.int .i64 i.1, .int .u64 (i.2.1 : Int), .int .u64 (i.2.2 : Int)]) (.agg #[.int .i64 j.1, .int .u64 (j.2.1 : Int), .int .u64 (j.2.2 : Int)])).run Tryz.prog w = .ok (.bool (!b)) w := by
 rw [id_cmpN, id_dec, h]
set_option maxHeartbeats 16000000 in
theorem alike_any {K K' : Nat → Prop} {w : World} {C D : Cal} {va vb : Value} (ha : SlB K w va C.body) (hb : SlB K' w vb D.body) (hna : C.body.length ≤ 1000000) (hnb : D.body.length ≤ 1000000) :
  Calls Tryz.prog 36 #[.agg (calL C va).toArray, .agg (calL D vb).toArray] w fun e w' => e = .returned (.bool (decide (C = D))) ∧ Below w.heap.size w w' := by
 obtain ⟨A, c, rfl, hA, _⟩ := ha
 obtain ⟨B, d, rfl, hB, _⟩ := hb
 obtain ⟨nb, hnb'⟩ : ∃ nb, nb = C.body.length := ⟨_, rfl⟩
 obtain ⟨nd, hnd'⟩ : ∃ nd, nd = D.body.length := ⟨_, rfl⟩
 rw [← hnb', ← hnd']
 obtain ⟨W0, hW0⟩ : ∃ W0, W0 = (w.alloc (.cells (calL C (.slice A nb c)).toArray 25)).alloc (.cells (calL D (.slice B nd d)).toArray 25) := ⟨_, rfl⟩
 have h1 : Blk W0 w.heap.size 25 (calL C (.slice A nb c)).toArray := by rw [hW0]; exact (Blk.new _ _ _).alloc _
 have h2 : Blk W0 (w.heap.size + 1) 25 (calL D (.slice B nd d)).toArray := by
  have := Blk.new (w.alloc (.cells (calL C (.slice A nb c)).toArray 25)) 25 (calL D (.slice B nd d)).toArray
  rw [alloc_size] at this
  rw [hW0]
  exact this
 have hT : Below w.heap.size w W0 := by rw [hW0]; exact ((Below.refl _ _).alloc (Nat.le_refl _) _).alloc (by simp) _
 have hsz : W0.heap.size = w.heap.size + 1 + 1 := by rw [hW0]; simp
 have H1 := Lib.hid h1
 have H2 := Lib.hid h2
 have HT := Lib.hid hT
 have HSZ := Lib.hid hsz
 have HE := Lib.hid (fun (u : World) (hu : Below W0.heap.size W0 u) => eqb_any A B c d C.body D.body u ((hA.below hT).below hu) ((hB.below hT).below hu) (Nat.le_trans hna (by decide)) (Nat.le_trans hnb (by decide)))
 rw [← hnb', ← hnd'] at HE
 have hgd := id_guard
 clear h2 hT hA hB hna hnb hsz
 have HNB := Lib.hid hnb'
 have HND := Lib.hid hnd'
 clear hnb' hnd'
 clear h1
 by_cases hi : idOf C = idOf D
 ·have hid := fun u => eq_id u (idOf C) (idOf D) true (decide_eq_true hi)
  unfold idOf at hid
  by_cases hkind : C.kind = D.kind
  ·skip
   have e3 : (C.kind == D.kind) = true := beq_iff_eq.2 hkind
   by_cases hch : C.ch = D.ch
   ·skip
    have e4 : (C.ch == D.ch) = true := beq_iff_eq.2 hch
    by_cases hsub : C.sub = D.sub
    ·skip
     have e5 : (C.sub == D.sub) = true := beq_iff_eq.2 hsub
     by_cases hseq : C.seq = D.seq
     ·skip
      have e6 : (C.seq == D.seq) = true := beq_iff_eq.2 hseq
      have f6 : ((C.seq : Int) == (D.seq : Int)) = true := beq_iff_eq.2 (by omega)
      by_cases hat : C.at_ = D.at_
      ·skip
       have e7 : (C.at_ == D.at_) = true := beq_iff_eq.2 hat
       have f7 : ((C.at_ : Int) == (D.at_ : Int)) = true := beq_iff_eq.2 (by omega)
       have HQ : Hid (decide (C = D) = decide (C.body = D.body)) := by
        show _ = _
        have hi' := hi
        unfold idOf at hi'
        simp only [Prod.mk.injEq] at hi'
        by_cases h : C.body = D.body
        ·rw [decide_eq_true h, decide_eq_true (Cal.ext' hi'.1 hi'.2.1 hi'.2.2 hkind hch hsub hseq hat h)]
        ·rw [decide_eq_false h, decide_eq_false fun e => h (by rw [e])]
       clear hi hkind hch hsub hseq hat
       have HW0 := Lib.hid hW0
       clear hW0
       go_enter Tryz.func36, Tryz.ntmps36
       go_wp2_with fail
       rw [← HW0.out]
       refine PF.b (by kernel_rfl) (fun _ _ _ _ _ h => h) ?_
       refine PF.u 0 (fun u => Blk u w.heap.size 25 (calL C (.slice A nb c)).toArray) (by kernel_rfl) rfl (H1.out) (fun u hu => exec_load_blk rfl rfl hu Tryz.underlying25 rfl (info_call rfl)) ?_
       try simp only [pz]
       refine PF.u 2 (fun u => Blk u (w.heap.size+1) 25 (calL D (.slice B nd d)).toArray) (by kernel_rfl) rfl (H2.out) (fun u hu => exec_load_blk rfl rfl hu Tryz.underlying25 rfl (info_call rfl)) ?_
       try simp only [pz]
       refine PF.e 1 (by kernel_rfl) rfl fun K hK => ?_
       go_simp
       refine (of_any rfl).mono ?_
       rintro e w1 ⟨rfl, hb1⟩
       have HT1 : Hid (Below W0.heap.size W0 w1) := ((Below.refl _ W0).drew).trans hb1
       clear hb1
       refine hK (by repeat (first | exact PF.n | refine PF.l ?_ | refine PF.o (by decide +kernel) ?_ | refine PF.y (by first | exact HT1.out.block _ (by have := HSZ.out; omega) | exact H2.out.below HT1.out (by have := HSZ.out; omega)) ?_)) ?_
       clear hK K
       try simp only [pz]
       refine PF.e 3 (by kernel_rfl) rfl fun K hK => ?_
       go_simp
       refine (of_any rfl).mono ?_
       rintro e w2 ⟨rfl, hb2⟩
       have HT2 : Hid (Below W0.heap.size W0 w2) := HT1.out.trans (hb2.mono HT1.out.size)
       clear hb2
       have H12 := H1.out.below HT2.out (by have := HSZ.out; omega)
       have H22 := H2.out.below HT2.out (by have := HSZ.out; omega)
       have c3 := (H12.cell 3).trans (rfl : _ = some (Value.int .i64 C.kind))
       have d3 := (H22.cell 3).trans (rfl : _ = some (Value.int .i64 D.kind))
       have c4 := (H12.cell 4).trans (rfl : _ = some (Value.int .i64 C.ch))
       have d4 := (H22.cell 4).trans (rfl : _ = some (Value.int .i64 D.ch))
       have c5 := (H12.cell 5).trans (rfl : _ = some (Value.int .i64 C.sub))
       have d5 := (H22.cell 5).trans (rfl : _ = some (Value.int .i64 D.sub))
       have c6 := (H12.cell 6).trans (rfl : _ = some (Value.int .u64 (C.seq : Int)))
       have d6 := (H22.cell 6).trans (rfl : _ = some (Value.int .u64 (D.seq : Int)))
       have c7 := (H12.cell 7).trans (rfl : _ = some (Value.int .u64 (C.at_ : Int)))
       have d7 := (H22.cell 7).trans (rfl : _ = some (Value.int .u64 (D.at_ : Int)))
       have c8 := (H12.cell 8).trans (rfl : _ = some (Value.slice A nb c))
       have d8 := (H22.cell 8).trans (rfl : _ = some (Value.slice B nd d))
       clear H12 H22
       refine hK (by repeat (first | exact PF.n | refine PF.l ?_ | refine PF.o (by decide +kernel) ?_ | refine PF.y (by exact HT2.out.block _ (by have := HSZ.out; omega)) ?_)) ?_
       clear hK K
       try simp only [pz]
       refine PF.t 4 (by kernel_rfl) rfl (by unfold idV idOf; go_simp; try rfl) ?_
       try simp only [pz]
       refine PF.t 5 (by kernel_rfl) rfl (by go_simp; try rfl) ?_
       try simp only [pz]
       refine PF.t 6 (by kernel_rfl) rfl (by go_simp; try rfl) ?_
       try simp only [pz]
       refine PF.m 7 (w.heap.size) (by kernel_rfl) rfl (fun hcu => by go_simp; try rfl) ?_
       try simp only [pz]
       refine PF.t 8 (by kernel_rfl) rfl (by go_simp; try rfl) ?_
       try simp only [pz]
       refine PF.m 9 ((w.heap.size+1)) (by kernel_rfl) rfl (fun hcu => by go_simp; try rfl) ?_
       try simp only [pz]
       refine PF.t 10 (by kernel_rfl) rfl (by go_simp; try rfl) ?_
       try simp only [pz]
       refine PF.t 11 (by kernel_rfl) rfl (by go_simp; try rfl) ?_
       try simp only [pz]
       refine PF.t 12 (by kernel_rfl) rfl (by go_simp; try rfl) ?_
       try simp only [pz]
       refine PF.t 13 (by kernel_rfl) rfl (by go_simp; try rfl) ?_
       try simp only [pz]
       refine PF.m 14 (w.heap.size) (by kernel_rfl) rfl (fun hcu => by go_simp; try rfl) ?_
       try simp only [pz]
       refine PF.t 15 (by kernel_rfl) rfl (by go_simp; try rfl) ?_
       try simp only [pz]
       refine PF.m 16 ((w.heap.size+1)) (by kernel_rfl) rfl (fun hcu => by go_simp; try rfl) ?_
       try simp only [pz]
       refine PF.t 17 (by kernel_rfl) rfl (by go_simp; try rfl) ?_
       try simp only [pz]
       refine PF.t 18 (by kernel_rfl) rfl (by go_simp; try rfl) ?_
       try simp only [pz]
       refine PF.t 19 (by kernel_rfl) rfl (by go_simp; try rfl) ?_
       try simp only [pz]
       refine PF.t 20 (by kernel_rfl) rfl (by go_simp; try rfl) ?_
       try simp only [pz]
       refine PF.m 21 (w.heap.size) (by kernel_rfl) rfl (fun hcu => by go_simp; try rfl) ?_
       try simp only [pz]
       refine PF.t 22 (by kernel_rfl) rfl (by go_simp; try rfl) ?_
       try simp only [pz]
       refine PF.m 23 ((w.heap.size+1)) (by kernel_rfl) rfl (fun hcu => by go_simp; try rfl) ?_
       try simp only [pz]
       refine PF.t 24 (by kernel_rfl) rfl (by go_simp; try rfl) ?_
       try simp only [pz]
       refine PF.t 25 (by kernel_rfl) rfl (by go_simp; try rfl) ?_
       try simp only [pz]
       refine PF.t 26 (by kernel_rfl) rfl (by go_simp; try rfl) ?_
       try simp only [pz]
       refine PF.t 27 (by kernel_rfl) rfl (by go_simp; try rfl) ?_
       try simp only [pz]
       refine PF.m 28 (w.heap.size) (by kernel_rfl) rfl (fun hcu => by go_simp; try rfl) ?_
       try simp only [pz]
       refine PF.t 29 (by kernel_rfl) rfl (by go_simp; try rfl) ?_
       try simp only [pz]
       refine PF.m 30 ((w.heap.size+1)) (by kernel_rfl) rfl (fun hcu => by go_simp; try rfl) ?_
       try simp only [pz]
       refine PF.t 31 (by kernel_rfl) rfl (by go_simp; try rfl) ?_
       try simp only [pz]
       refine PF.t 32 (by kernel_rfl) rfl (by go_simp; try rfl) ?_
       try simp only [pz]
       refine PF.t 33 (by kernel_rfl) rfl (by go_simp; try rfl) ?_
       try simp only [pz]
       refine PF.t 34 (by kernel_rfl) rfl (by go_simp; try rfl) ?_
       try simp only [pz]
       refine PF.m 35 (w.heap.size) (by kernel_rfl) rfl (fun hcu => by go_simp; try rfl) ?_
       try simp only [pz]
       refine PF.t 36 (by kernel_rfl) rfl (by go_simp; try rfl) ?_
       try simp only [pz]
       refine PF.m 37 ((w.heap.size+1)) (by kernel_rfl) rfl (fun hcu => by go_simp; try rfl) ?_
       try simp only [pz]
       refine PF.t 38 (by kernel_rfl) rfl (by go_simp; try rfl) ?_
       try simp only [pz]
       refine PF.t 39 (by kernel_rfl) rfl (by go_simp; try rfl) ?_
       try simp only [pz]
       refine PF.t 40 (by kernel_rfl) rfl (by go_simp; try rfl) ?_
       try simp only [pz]
       refine PF.t 41 (by kernel_rfl) rfl (by go_simp; try rfl) ?_
       try simp only [pz]
       refine PF.m 42 (w.heap.size) (by kernel_rfl) rfl (fun hcu => by go_simp; try rfl) ?_
       try simp only [pz]
       refine PF.t 43 (by kernel_rfl) rfl (by go_simp; try rfl) ?_
       try simp only [pz]
       refine PF.m 44 ((w.heap.size+1)) (by kernel_rfl) rfl (fun hcu => by go_simp; try rfl) ?_
       try simp only [pz]
       refine PF.e 45 (by kernel_rfl) rfl fun K hK => ?_
       go_simp
       refine (HE.out _ HT2.out).mono ?_
       rintro e w3 ⟨rfl, q, hq⟩
       have HQ3 := Lib.hid hq
       clear hq
       refine hK (by repeat (first | exact PF.n | refine PF.l ?_ | refine PF.o (by decide +kernel) ?_ | refine PF.y (by first | rfl | assumption | go_simp) ?_)) ?_
       clear hK K
       try simp only [pz]
       refine PF.t 46 (by kernel_rfl) rfl (by go_simp; try rfl) ?_
       try simp only [pz]
       refine PF.t 47 (by kernel_rfl) rfl (by go_simp; try rfl) ?_
       try simp only [pz]
       refine PF.d (by kernel_rfl) ?_
       go_wp2_with fail
       go_ret
       refine ⟨by rw [HQ.out]; rfl, ?_⟩
       rw [HQ3.out]
       exact below_drewN (HT.out.trans (HT2.out.mono HT.out.size)) q
      ·skip
       have e7 : (C.at_ == D.at_) = false := beq_eq_false_iff_ne.2 hat
       have f7 : ((C.at_ : Int) == (D.at_ : Int)) = false := beq_eq_false_iff_ne.2 (by omega)
       have HQ : Hid (decide (C = D) = false) := decide_eq_false fun e => hat (by rw [e])
       clear hi hkind hch hsub hseq hat
       have HW0 := Lib.hid hW0
       clear hW0
       go_enter Tryz.func36, Tryz.ntmps36
       go_wp2_with fail
       rw [← HW0.out]
       refine PF.b (by kernel_rfl) (fun _ _ _ _ _ h => h) ?_
       refine PF.u 0 (fun u => Blk u w.heap.size 25 (calL C (.slice A nb c)).toArray) (by kernel_rfl) rfl (H1.out) (fun u hu => exec_load_blk rfl rfl hu Tryz.underlying25 rfl (info_call rfl)) ?_
       try simp only [pz]
       refine PF.u 2 (fun u => Blk u (w.heap.size+1) 25 (calL D (.slice B nd d)).toArray) (by kernel_rfl) rfl (H2.out) (fun u hu => exec_load_blk rfl rfl hu Tryz.underlying25 rfl (info_call rfl)) ?_
       try simp only [pz]
       refine PF.e 1 (by kernel_rfl) rfl fun K hK => ?_
       go_simp
       refine (of_any rfl).mono ?_
       rintro e w1 ⟨rfl, hb1⟩
       have HT1 : Hid (Below W0.heap.size W0 w1) := ((Below.refl _ W0).drew).trans hb1
       clear hb1
       refine hK (by repeat (first | exact PF.n | refine PF.l ?_ | refine PF.o (by decide +kernel) ?_ | refine PF.y (by first | exact HT1.out.block _ (by have := HSZ.out; omega) | exact H2.out.below HT1.out (by have := HSZ.out; omega)) ?_)) ?_
       clear hK K
       try simp only [pz]
       refine PF.e 3 (by kernel_rfl) rfl fun K hK => ?_
       go_simp
       refine (of_any rfl).mono ?_
       rintro e w2 ⟨rfl, hb2⟩
       have HT2 : Hid (Below W0.heap.size W0 w2) := HT1.out.trans (hb2.mono HT1.out.size)
       clear hb2
       have H12 := H1.out.below HT2.out (by have := HSZ.out; omega)
       have H22 := H2.out.below HT2.out (by have := HSZ.out; omega)
       have c3 := (H12.cell 3).trans (rfl : _ = some (Value.int .i64 C.kind))
       have d3 := (H22.cell 3).trans (rfl : _ = some (Value.int .i64 D.kind))
       have c4 := (H12.cell 4).trans (rfl : _ = some (Value.int .i64 C.ch))
       have d4 := (H22.cell 4).trans (rfl : _ = some (Value.int .i64 D.ch))
       have c5 := (H12.cell 5).trans (rfl : _ = some (Value.int .i64 C.sub))
       have d5 := (H22.cell 5).trans (rfl : _ = some (Value.int .i64 D.sub))
       have c6 := (H12.cell 6).trans (rfl : _ = some (Value.int .u64 (C.seq : Int)))
       have d6 := (H22.cell 6).trans (rfl : _ = some (Value.int .u64 (D.seq : Int)))
       have c7 := (H12.cell 7).trans (rfl : _ = some (Value.int .u64 (C.at_ : Int)))
       have d7 := (H22.cell 7).trans (rfl : _ = some (Value.int .u64 (D.at_ : Int)))
       have c8 := (H12.cell 8).trans (rfl : _ = some (Value.slice A nb c))
       have d8 := (H22.cell 8).trans (rfl : _ = some (Value.slice B nd d))
       clear H12 H22
       refine hK (by repeat (first | exact PF.n | refine PF.l ?_ | refine PF.o (by decide +kernel) ?_ | refine PF.y (by exact HT2.out.block _ (by have := HSZ.out; omega)) ?_)) ?_
       clear hK K
       try simp only [pz]
       refine PF.t 4 (by kernel_rfl) rfl (by unfold idV idOf; go_simp; try rfl) ?_
       try simp only [pz]
       refine PF.t 5 (by kernel_rfl) rfl (by go_simp; try rfl) ?_
       try simp only [pz]
       refine PF.t 6 (by kernel_rfl) rfl (by go_simp; try rfl) ?_
       try simp only [pz]
       refine PF.m 7 (w.heap.size) (by kernel_rfl) rfl (fun hcu => by go_simp; try rfl) ?_
       try simp only [pz]
       refine PF.t 8 (by kernel_rfl) rfl (by go_simp; try rfl) ?_
       try simp only [pz]
       refine PF.m 9 ((w.heap.size+1)) (by kernel_rfl) rfl (fun hcu => by go_simp; try rfl) ?_
       try simp only [pz]
       refine PF.t 10 (by kernel_rfl) rfl (by go_simp; try rfl) ?_
       try simp only [pz]
       refine PF.t 11 (by kernel_rfl) rfl (by go_simp; try rfl) ?_
       try simp only [pz]
       refine PF.t 12 (by kernel_rfl) rfl (by go_simp; try rfl) ?_
       try simp only [pz]
       refine PF.t 13 (by kernel_rfl) rfl (by go_simp; try rfl) ?_
       try simp only [pz]
       refine PF.m 14 (w.heap.size) (by kernel_rfl) rfl (fun hcu => by go_simp; try rfl) ?_
       try simp only [pz]
       refine PF.t 15 (by kernel_rfl) rfl (by go_simp; try rfl) ?_
       try simp only [pz]
       refine PF.m 16 ((w.heap.size+1)) (by kernel_rfl) rfl (fun hcu => by go_simp; try rfl) ?_
       try simp only [pz]
       refine PF.t 17 (by kernel_rfl) rfl (by go_simp; try rfl) ?_
       try simp only [pz]
       refine PF.t 18 (by kernel_rfl) rfl (by go_simp; try rfl) ?_
       try simp only [pz]
       refine PF.t 19 (by kernel_rfl) rfl (by go_simp; try rfl) ?_
       try simp only [pz]
       refine PF.t 20 (by kernel_rfl) rfl (by go_simp; try rfl) ?_
       try simp only [pz]
       refine PF.m 21 (w.heap.size) (by kernel_rfl) rfl (fun hcu => by go_simp; try rfl) ?_
       try simp only [pz]
       refine PF.t 22 (by kernel_rfl) rfl (by go_simp; try rfl) ?_
       try simp only [pz]
       refine PF.m 23 ((w.heap.size+1)) (by kernel_rfl) rfl (fun hcu => by go_simp; try rfl) ?_
       try simp only [pz]
       refine PF.t 24 (by kernel_rfl) rfl (by go_simp; try rfl) ?_
       try simp only [pz]
       refine PF.t 25 (by kernel_rfl) rfl (by go_simp; try rfl) ?_
       try simp only [pz]
       refine PF.t 26 (by kernel_rfl) rfl (by go_simp; try rfl) ?_
       try simp only [pz]
       refine PF.t 27 (by kernel_rfl) rfl (by go_simp; try rfl) ?_
       try simp only [pz]
       refine PF.m 28 (w.heap.size) (by kernel_rfl) rfl (fun hcu => by go_simp; try rfl) ?_
       try simp only [pz]
       refine PF.t 29 (by kernel_rfl) rfl (by go_simp; try rfl) ?_
       try simp only [pz]
       refine PF.m 30 ((w.heap.size+1)) (by kernel_rfl) rfl (fun hcu => by go_simp; try rfl) ?_
       try simp only [pz]
       refine PF.t 31 (by kernel_rfl) rfl (by go_simp; try rfl) ?_
       try simp only [pz]
       refine PF.t 32 (by kernel_rfl) rfl (by go_simp; try rfl) ?_
       try simp only [pz]
       refine PF.t 33 (by kernel_rfl) rfl (by go_simp; try rfl) ?_
       try simp only [pz]
       refine PF.t 34 (by kernel_rfl) rfl (by go_simp; try rfl) ?_
       try simp only [pz]
       refine PF.m 35 (w.heap.size) (by kernel_rfl) rfl (fun hcu => by go_simp; try rfl) ?_
       try simp only [pz]
       refine PF.t 36 (by kernel_rfl) rfl (by go_simp; try rfl) ?_
       try simp only [pz]
       refine PF.m 37 ((w.heap.size+1)) (by kernel_rfl) rfl (fun hcu => by go_simp; try rfl) ?_
       try simp only [pz]
       refine PF.t 38 (by kernel_rfl) rfl (by go_simp; try rfl) ?_
       try simp only [pz]
       refine PF.t 39 (by kernel_rfl) rfl (by go_simp; try rfl) ?_
       try simp only [pz]
       refine PF.t 40 (by kernel_rfl) rfl (by go_simp; try rfl) ?_
       try simp only [pz]
       refine PF.s 41 (by kernel_rfl) rfl ?_
       refine PF.s 42 (by kernel_rfl) rfl ?_
       refine PF.s 43 (by kernel_rfl) rfl ?_
       refine PF.s 44 (by kernel_rfl) rfl ?_
       refine PF.k 45 (by kernel_rfl) rfl ?_
       try simp only [pz]
       refine PF.t 46 (by kernel_rfl) rfl (by go_simp; try rfl) ?_
       try simp only [pz]
       refine PF.t 47 (by kernel_rfl) rfl (by go_simp; try rfl) ?_
       try simp only [pz]
       refine PF.d (by kernel_rfl) ?_
       go_wp2_with fail
       go_ret
       refine ⟨by rw [HQ.out]; rfl, ?_⟩
       first | exact HT.out.trans (HT2.out.mono HT.out.size) | exact (HT.out.trans (HT2.out.mono HT.out.size)).drew
     ·skip
      have e7 : (C.seq == D.seq) = false := beq_eq_false_iff_ne.2 hseq
      have f7 : ((C.seq : Int) == (D.seq : Int)) = false := beq_eq_false_iff_ne.2 (by omega)
      have HQ : Hid (decide (C = D) = false) := decide_eq_false fun e => hseq (by rw [e])
      clear hi hkind hch hsub hseq
      have HW0 := Lib.hid hW0
      clear hW0
      go_enter Tryz.func36, Tryz.ntmps36
      go_wp2_with fail
      rw [← HW0.out]
      refine PF.b (by kernel_rfl) (fun _ _ _ _ _ h => h) ?_
      refine PF.u 0 (fun u => Blk u w.heap.size 25 (calL C (.slice A nb c)).toArray) (by kernel_rfl) rfl (H1.out) (fun u hu => exec_load_blk rfl rfl hu Tryz.underlying25 rfl (info_call rfl)) ?_
      try simp only [pz]
      refine PF.u 2 (fun u => Blk u (w.heap.size+1) 25 (calL D (.slice B nd d)).toArray) (by kernel_rfl) rfl (H2.out) (fun u hu => exec_load_blk rfl rfl hu Tryz.underlying25 rfl (info_call rfl)) ?_
      try simp only [pz]
      refine PF.e 1 (by kernel_rfl) rfl fun K hK => ?_
      go_simp
      refine (of_any rfl).mono ?_
      rintro e w1 ⟨rfl, hb1⟩
      have HT1 : Hid (Below W0.heap.size W0 w1) := ((Below.refl _ W0).drew).trans hb1
      clear hb1
      refine hK (by repeat (first | exact PF.n | refine PF.l ?_ | refine PF.o (by decide +kernel) ?_ | refine PF.y (by first | exact HT1.out.block _ (by have := HSZ.out; omega) | exact H2.out.below HT1.out (by have := HSZ.out; omega)) ?_)) ?_
      clear hK K
      try simp only [pz]
      refine PF.e 3 (by kernel_rfl) rfl fun K hK => ?_
      go_simp
      refine (of_any rfl).mono ?_
      rintro e w2 ⟨rfl, hb2⟩
      have HT2 : Hid (Below W0.heap.size W0 w2) := HT1.out.trans (hb2.mono HT1.out.size)
      clear hb2
      have H12 := H1.out.below HT2.out (by have := HSZ.out; omega)
      have H22 := H2.out.below HT2.out (by have := HSZ.out; omega)
      have c3 := (H12.cell 3).trans (rfl : _ = some (Value.int .i64 C.kind))
      have d3 := (H22.cell 3).trans (rfl : _ = some (Value.int .i64 D.kind))
      have c4 := (H12.cell 4).trans (rfl : _ = some (Value.int .i64 C.ch))
      have d4 := (H22.cell 4).trans (rfl : _ = some (Value.int .i64 D.ch))
      have c5 := (H12.cell 5).trans (rfl : _ = some (Value.int .i64 C.sub))
      have d5 := (H22.cell 5).trans (rfl : _ = some (Value.int .i64 D.sub))
      have c6 := (H12.cell 6).trans (rfl : _ = some (Value.int .u64 (C.seq : Int)))
      have d6 := (H22.cell 6).trans (rfl : _ = some (Value.int .u64 (D.seq : Int)))
      have c7 := (H12.cell 7).trans (rfl : _ = some (Value.int .u64 (C.at_ : Int)))
      have d7 := (H22.cell 7).trans (rfl : _ = some (Value.int .u64 (D.at_ : Int)))
      have c8 := (H12.cell 8).trans (rfl : _ = some (Value.slice A nb c))
      have d8 := (H22.cell 8).trans (rfl : _ = some (Value.slice B nd d))
      clear H12 H22
      refine hK (by repeat (first | exact PF.n | refine PF.l ?_ | refine PF.o (by decide +kernel) ?_ | refine PF.y (by exact HT2.out.block _ (by have := HSZ.out; omega)) ?_)) ?_
      clear hK K
      try simp only [pz]
      refine PF.t 4 (by kernel_rfl) rfl (by unfold idV idOf; go_simp; try rfl) ?_
      try simp only [pz]
      refine PF.t 5 (by kernel_rfl) rfl (by go_simp; try rfl) ?_
      try simp only [pz]
      refine PF.t 6 (by kernel_rfl) rfl (by go_simp; try rfl) ?_
      try simp only [pz]
      refine PF.m 7 (w.heap.size) (by kernel_rfl) rfl (fun hcu => by go_simp; try rfl) ?_
      try simp only [pz]
      refine PF.t 8 (by kernel_rfl) rfl (by go_simp; try rfl) ?_
      try simp only [pz]
      refine PF.m 9 ((w.heap.size+1)) (by kernel_rfl) rfl (fun hcu => by go_simp; try rfl) ?_
      try simp only [pz]
      refine PF.t 10 (by kernel_rfl) rfl (by go_simp; try rfl) ?_
      try simp only [pz]
      refine PF.t 11 (by kernel_rfl) rfl (by go_simp; try rfl) ?_
      try simp only [pz]
      refine PF.t 12 (by kernel_rfl) rfl (by go_simp; try rfl) ?_
      try simp only [pz]
      refine PF.t 13 (by kernel_rfl) rfl (by go_simp; try rfl) ?_
      try simp only [pz]
      refine PF.m 14 (w.heap.size) (by kernel_rfl) rfl (fun hcu => by go_simp; try rfl) ?_
      try simp only [pz]
      refine PF.t 15 (by kernel_rfl) rfl (by go_simp; try rfl) ?_
      try simp only [pz]
      refine PF.m 16 ((w.heap.size+1)) (by kernel_rfl) rfl (fun hcu => by go_simp; try rfl) ?_
      try simp only [pz]
      refine PF.t 17 (by kernel_rfl) rfl (by go_simp; try rfl) ?_
      try simp only [pz]
      refine PF.t 18 (by kernel_rfl) rfl (by go_simp; try rfl) ?_
      try simp only [pz]
      refine PF.t 19 (by kernel_rfl) rfl (by go_simp; try rfl) ?_
      try simp only [pz]
      refine PF.t 20 (by kernel_rfl) rfl (by go_simp; try rfl) ?_
      try simp only [pz]
      refine PF.m 21 (w.heap.size) (by kernel_rfl) rfl (fun hcu => by go_simp; try rfl) ?_
      try simp only [pz]
      refine PF.t 22 (by kernel_rfl) rfl (by go_simp; try rfl) ?_
      try simp only [pz]
      refine PF.m 23 ((w.heap.size+1)) (by kernel_rfl) rfl (fun hcu => by go_simp; try rfl) ?_
      try simp only [pz]
      refine PF.t 24 (by kernel_rfl) rfl (by go_simp; try rfl) ?_
      try simp only [pz]
      refine PF.t 25 (by kernel_rfl) rfl (by go_simp; try rfl) ?_
      try simp only [pz]
      refine PF.t 26 (by kernel_rfl) rfl (by go_simp; try rfl) ?_
      try simp only [pz]
      refine PF.t 27 (by kernel_rfl) rfl (by go_simp; try rfl) ?_
      try simp only [pz]
      refine PF.m 28 (w.heap.size) (by kernel_rfl) rfl (fun hcu => by go_simp; try rfl) ?_
      try simp only [pz]
      refine PF.t 29 (by kernel_rfl) rfl (by go_simp; try rfl) ?_
      try simp only [pz]
      refine PF.m 30 ((w.heap.size+1)) (by kernel_rfl) rfl (fun hcu => by go_simp; try rfl) ?_
      try simp only [pz]
      refine PF.t 31 (by kernel_rfl) rfl (by go_simp; try rfl) ?_
      try simp only [pz]
      refine PF.t 32 (by kernel_rfl) rfl (by go_simp; try rfl) ?_
      try simp only [pz]
      refine PF.t 33 (by kernel_rfl) rfl (by go_simp; try rfl) ?_
      try simp only [pz]
      refine PF.s 34 (by kernel_rfl) rfl ?_
      refine PF.s 35 (by kernel_rfl) rfl ?_
      refine PF.s 36 (by kernel_rfl) rfl ?_
      refine PF.s 37 (by kernel_rfl) rfl ?_
      refine PF.s 38 (by kernel_rfl) rfl ?_
      try simp only [pz]
      refine PF.t 39 (by kernel_rfl) rfl (by go_simp; try rfl) ?_
      try simp only [pz]
      refine PF.t 40 (by kernel_rfl) rfl (by go_simp; try rfl) ?_
      try simp only [pz]
      refine PF.s 41 (by kernel_rfl) rfl ?_
      refine PF.s 42 (by kernel_rfl) rfl ?_
      refine PF.s 43 (by kernel_rfl) rfl ?_
      refine PF.s 44 (by kernel_rfl) rfl ?_
      refine PF.k 45 (by kernel_rfl) rfl ?_
      try simp only [pz]
      refine PF.t 46 (by kernel_rfl) rfl (by go_simp; try rfl) ?_
      try simp only [pz]
      refine PF.t 47 (by kernel_rfl) rfl (by go_simp; try rfl) ?_
      try simp only [pz]
      refine PF.d (by kernel_rfl) ?_
      go_wp2_with fail
      go_ret
      refine ⟨by rw [HQ.out]; rfl, ?_⟩
      first | exact HT.out.trans (HT2.out.mono HT.out.size) | exact (HT.out.trans (HT2.out.mono HT.out.size)).drew
    ·skip
     have e7 : (C.sub == D.sub) = false := beq_eq_false_iff_ne.2 hsub
     have f7 : ((C.sub : Int) == (D.sub : Int)) = false := beq_eq_false_iff_ne.2 (by omega)
     have HQ : Hid (decide (C = D) = false) := decide_eq_false fun e => hsub (by rw [e])
     clear hi hkind hch hsub
     have HW0 := Lib.hid hW0
     clear hW0
     go_enter Tryz.func36, Tryz.ntmps36
     go_wp2_with fail
     rw [← HW0.out]
     refine PF.b (by kernel_rfl) (fun _ _ _ _ _ h => h) ?_
     refine PF.u 0 (fun u => Blk u w.heap.size 25 (calL C (.slice A nb c)).toArray) (by kernel_rfl) rfl (H1.out) (fun u hu => exec_load_blk rfl rfl hu Tryz.underlying25 rfl (info_call rfl)) ?_
     try simp only [pz]
     refine PF.u 2 (fun u => Blk u (w.heap.size+1) 25 (calL D (.slice B nd d)).toArray) (by kernel_rfl) rfl (H2.out) (fun u hu => exec_load_blk rfl rfl hu Tryz.underlying25 rfl (info_call rfl)) ?_
     try simp only [pz]
     refine PF.e 1 (by kernel_rfl) rfl fun K hK => ?_
     go_simp
     refine (of_any rfl).mono ?_
     rintro e w1 ⟨rfl, hb1⟩
     have HT1 : Hid (Below W0.heap.size W0 w1) := ((Below.refl _ W0).drew).trans hb1
     clear hb1
     refine hK (by repeat (first | exact PF.n | refine PF.l ?_ | refine PF.o (by decide +kernel) ?_ | refine PF.y (by first | exact HT1.out.block _ (by have := HSZ.out; omega) | exact H2.out.below HT1.out (by have := HSZ.out; omega)) ?_)) ?_
     clear hK K
     try simp only [pz]
     refine PF.e 3 (by kernel_rfl) rfl fun K hK => ?_
     go_simp
     refine (of_any rfl).mono ?_
     rintro e w2 ⟨rfl, hb2⟩
     have HT2 : Hid (Below W0.heap.size W0 w2) := HT1.out.trans (hb2.mono HT1.out.size)
     clear hb2
     have H12 := H1.out.below HT2.out (by have := HSZ.out; omega)
     have H22 := H2.out.below HT2.out (by have := HSZ.out; omega)
     have c3 := (H12.cell 3).trans (rfl : _ = some (Value.int .i64 C.kind))
     have d3 := (H22.cell 3).trans (rfl : _ = some (Value.int .i64 D.kind))
     have c4 := (H12.cell 4).trans (rfl : _ = some (Value.int .i64 C.ch))
     have d4 := (H22.cell 4).trans (rfl : _ = some (Value.int .i64 D.ch))
     have c5 := (H12.cell 5).trans (rfl : _ = some (Value.int .i64 C.sub))
     have d5 := (H22.cell 5).trans (rfl : _ = some (Value.int .i64 D.sub))
     have c6 := (H12.cell 6).trans (rfl : _ = some (Value.int .u64 (C.seq : Int)))
     have d6 := (H22.cell 6).trans (rfl : _ = some (Value.int .u64 (D.seq : Int)))
     have c7 := (H12.cell 7).trans (rfl : _ = some (Value.int .u64 (C.at_ : Int)))
     have d7 := (H22.cell 7).trans (rfl : _ = some (Value.int .u64 (D.at_ : Int)))
     have c8 := (H12.cell 8).trans (rfl : _ = some (Value.slice A nb c))
     have d8 := (H22.cell 8).trans (rfl : _ = some (Value.slice B nd d))
     clear H12 H22
     refine hK (by repeat (first | exact PF.n | refine PF.l ?_ | refine PF.o (by decide +kernel) ?_ | refine PF.y (by exact HT2.out.block _ (by have := HSZ.out; omega)) ?_)) ?_
     clear hK K
     try simp only [pz]
     refine PF.t 4 (by kernel_rfl) rfl (by unfold idV idOf; go_simp; try rfl) ?_
     try simp only [pz]
     refine PF.t 5 (by kernel_rfl) rfl (by go_simp; try rfl) ?_
     try simp only [pz]
     refine PF.t 6 (by kernel_rfl) rfl (by go_simp; try rfl) ?_
     try simp only [pz]
     refine PF.m 7 (w.heap.size) (by kernel_rfl) rfl (fun hcu => by go_simp; try rfl) ?_
     try simp only [pz]
     refine PF.t 8 (by kernel_rfl) rfl (by go_simp; try rfl) ?_
     try simp only [pz]
     refine PF.m 9 ((w.heap.size+1)) (by kernel_rfl) rfl (fun hcu => by go_simp; try rfl) ?_
     try simp only [pz]
     refine PF.t 10 (by kernel_rfl) rfl (by go_simp; try rfl) ?_
     try simp only [pz]
     refine PF.t 11 (by kernel_rfl) rfl (by go_simp; try rfl) ?_
     try simp only [pz]
     refine PF.t 12 (by kernel_rfl) rfl (by go_simp; try rfl) ?_
     try simp only [pz]
     refine PF.t 13 (by kernel_rfl) rfl (by go_simp; try rfl) ?_
     try simp only [pz]
     refine PF.m 14 (w.heap.size) (by kernel_rfl) rfl (fun hcu => by go_simp; try rfl) ?_
     try simp only [pz]
     refine PF.t 15 (by kernel_rfl) rfl (by go_simp; try rfl) ?_
     try simp only [pz]
     refine PF.m 16 ((w.heap.size+1)) (by kernel_rfl) rfl (fun hcu => by go_simp; try rfl) ?_
     try simp only [pz]
     refine PF.t 17 (by kernel_rfl) rfl (by go_simp; try rfl) ?_
     try simp only [pz]
     refine PF.t 18 (by kernel_rfl) rfl (by go_simp; try rfl) ?_
     try simp only [pz]
     refine PF.t 19 (by kernel_rfl) rfl (by go_simp; try rfl) ?_
     try simp only [pz]
     refine PF.t 20 (by kernel_rfl) rfl (by go_simp; try rfl) ?_
     try simp only [pz]
     refine PF.m 21 (w.heap.size) (by kernel_rfl) rfl (fun hcu => by go_simp; try rfl) ?_
     try simp only [pz]
     refine PF.t 22 (by kernel_rfl) rfl (by go_simp; try rfl) ?_
     try simp only [pz]
     refine PF.m 23 ((w.heap.size+1)) (by kernel_rfl) rfl (fun hcu => by go_simp; try rfl) ?_
     try simp only [pz]
     refine PF.t 24 (by kernel_rfl) rfl (by go_simp; try rfl) ?_
     try simp only [pz]
     refine PF.t 25 (by kernel_rfl) rfl (by go_simp; try rfl) ?_
     try simp only [pz]
     refine PF.t 26 (by kernel_rfl) rfl (by go_simp; try rfl) ?_
     try simp only [pz]
     refine PF.s 27 (by kernel_rfl) rfl ?_
     refine PF.s 28 (by kernel_rfl) rfl ?_
     refine PF.s 29 (by kernel_rfl) rfl ?_
     refine PF.s 30 (by kernel_rfl) rfl ?_
     refine PF.s 31 (by kernel_rfl) rfl ?_
     try simp only [pz]
     refine PF.t 32 (by kernel_rfl) rfl (by go_simp; try rfl) ?_
     try simp only [pz]
     refine PF.t 33 (by kernel_rfl) rfl (by go_simp; try rfl) ?_
     try simp only [pz]
     refine PF.s 34 (by kernel_rfl) rfl ?_
     refine PF.s 35 (by kernel_rfl) rfl ?_
     refine PF.s 36 (by kernel_rfl) rfl ?_
     refine PF.s 37 (by kernel_rfl) rfl ?_
     refine PF.s 38 (by kernel_rfl) rfl ?_
     try simp only [pz]
     refine PF.t 39 (by kernel_rfl) rfl (by go_simp; try rfl) ?_
     try simp only [pz]
     refine PF.t 40 (by kernel_rfl) rfl (by go_simp; try rfl) ?_
     try simp only [pz]
     refine PF.s 41 (by kernel_rfl) rfl ?_
     refine PF.s 42 (by kernel_rfl) rfl ?_
     refine PF.s 43 (by kernel_rfl) rfl ?_
     refine PF.s 44 (by kernel_rfl) rfl ?_
     refine PF.k 45 (by kernel_rfl) rfl ?_
     try simp only [pz]
     refine PF.t 46 (by kernel_rfl) rfl (by go_simp; try rfl) ?_
     try simp only [pz]
     refine PF.t 47 (by kernel_rfl) rfl (by go_simp; try rfl) ?_
     try simp only [pz]
     refine PF.d (by kernel_rfl) ?_
     go_wp2_with fail
     go_ret
     refine ⟨by rw [HQ.out]; rfl, ?_⟩
     first | exact HT.out.trans (HT2.out.mono HT.out.size) | exact (HT.out.trans (HT2.out.mono HT.out.size)).drew
   ·skip
    have e7 : (C.ch == D.ch) = false := beq_eq_false_iff_ne.2 hch
    have f7 : ((C.ch : Int) == (D.ch : Int)) = false := beq_eq_false_iff_ne.2 (by omega)
    have HQ : Hid (decide (C = D) = false) := decide_eq_false fun e => hch (by rw [e])
    clear hi hkind hch
    have HW0 := Lib.hid hW0
    clear hW0
    go_enter Tryz.func36, Tryz.ntmps36
    go_wp2_with fail
    rw [← HW0.out]
    refine PF.b (by kernel_rfl) (fun _ _ _ _ _ h => h) ?_
    refine PF.u 0 (fun u => Blk u w.heap.size 25 (calL C (.slice A nb c)).toArray) (by kernel_rfl) rfl (H1.out) (fun u hu => exec_load_blk rfl rfl hu Tryz.underlying25 rfl (info_call rfl)) ?_
    try simp only [pz]
    refine PF.u 2 (fun u => Blk u (w.heap.size+1) 25 (calL D (.slice B nd d)).toArray) (by kernel_rfl) rfl (H2.out) (fun u hu => exec_load_blk rfl rfl hu Tryz.underlying25 rfl (info_call rfl)) ?_
    try simp only [pz]
    refine PF.e 1 (by kernel_rfl) rfl fun K hK => ?_
    go_simp
    refine (of_any rfl).mono ?_
    rintro e w1 ⟨rfl, hb1⟩
    have HT1 : Hid (Below W0.heap.size W0 w1) := ((Below.refl _ W0).drew).trans hb1
    clear hb1
    refine hK (by repeat (first | exact PF.n | refine PF.l ?_ | refine PF.o (by decide +kernel) ?_ | refine PF.y (by first | exact HT1.out.block _ (by have := HSZ.out; omega) | exact H2.out.below HT1.out (by have := HSZ.out; omega)) ?_)) ?_
    clear hK K
    try simp only [pz]
    refine PF.e 3 (by kernel_rfl) rfl fun K hK => ?_
    go_simp
    refine (of_any rfl).mono ?_
    rintro e w2 ⟨rfl, hb2⟩
    have HT2 : Hid (Below W0.heap.size W0 w2) := HT1.out.trans (hb2.mono HT1.out.size)
    clear hb2
    have H12 := H1.out.below HT2.out (by have := HSZ.out; omega)
    have H22 := H2.out.below HT2.out (by have := HSZ.out; omega)
    have c3 := (H12.cell 3).trans (rfl : _ = some (Value.int .i64 C.kind))
    have d3 := (H22.cell 3).trans (rfl : _ = some (Value.int .i64 D.kind))
    have c4 := (H12.cell 4).trans (rfl : _ = some (Value.int .i64 C.ch))
    have d4 := (H22.cell 4).trans (rfl : _ = some (Value.int .i64 D.ch))
    have c5 := (H12.cell 5).trans (rfl : _ = some (Value.int .i64 C.sub))
    have d5 := (H22.cell 5).trans (rfl : _ = some (Value.int .i64 D.sub))
    have c6 := (H12.cell 6).trans (rfl : _ = some (Value.int .u64 (C.seq : Int)))
    have d6 := (H22.cell 6).trans (rfl : _ = some (Value.int .u64 (D.seq : Int)))
    have c7 := (H12.cell 7).trans (rfl : _ = some (Value.int .u64 (C.at_ : Int)))
    have d7 := (H22.cell 7).trans (rfl : _ = some (Value.int .u64 (D.at_ : Int)))
    have c8 := (H12.cell 8).trans (rfl : _ = some (Value.slice A nb c))
    have d8 := (H22.cell 8).trans (rfl : _ = some (Value.slice B nd d))
    clear H12 H22
    refine hK (by repeat (first | exact PF.n | refine PF.l ?_ | refine PF.o (by decide +kernel) ?_ | refine PF.y (by exact HT2.out.block _ (by have := HSZ.out; omega)) ?_)) ?_
    clear hK K
    try simp only [pz]
    refine PF.t 4 (by kernel_rfl) rfl (by unfold idV idOf; go_simp; try rfl) ?_
    try simp only [pz]
    refine PF.t 5 (by kernel_rfl) rfl (by go_simp; try rfl) ?_
    try simp only [pz]
    refine PF.t 6 (by kernel_rfl) rfl (by go_simp; try rfl) ?_
    try simp only [pz]
    refine PF.m 7 (w.heap.size) (by kernel_rfl) rfl (fun hcu => by go_simp; try rfl) ?_
    try simp only [pz]
    refine PF.t 8 (by kernel_rfl) rfl (by go_simp; try rfl) ?_
    try simp only [pz]
    refine PF.m 9 ((w.heap.size+1)) (by kernel_rfl) rfl (fun hcu => by go_simp; try rfl) ?_
    try simp only [pz]
    refine PF.t 10 (by kernel_rfl) rfl (by go_simp; try rfl) ?_
    try simp only [pz]
    refine PF.t 11 (by kernel_rfl) rfl (by go_simp; try rfl) ?_
    try simp only [pz]
    refine PF.t 12 (by kernel_rfl) rfl (by go_simp; try rfl) ?_
    try simp only [pz]
    refine PF.t 13 (by kernel_rfl) rfl (by go_simp; try rfl) ?_
    try simp only [pz]
    refine PF.m 14 (w.heap.size) (by kernel_rfl) rfl (fun hcu => by go_simp; try rfl) ?_
    try simp only [pz]
    refine PF.t 15 (by kernel_rfl) rfl (by go_simp; try rfl) ?_
    try simp only [pz]
    refine PF.m 16 ((w.heap.size+1)) (by kernel_rfl) rfl (fun hcu => by go_simp; try rfl) ?_
    try simp only [pz]
    refine PF.t 17 (by kernel_rfl) rfl (by go_simp; try rfl) ?_
    try simp only [pz]
    refine PF.t 18 (by kernel_rfl) rfl (by go_simp; try rfl) ?_
    try simp only [pz]
    refine PF.t 19 (by kernel_rfl) rfl (by go_simp; try rfl) ?_
    try simp only [pz]
    refine PF.s 20 (by kernel_rfl) rfl ?_
    refine PF.s 21 (by kernel_rfl) rfl ?_
    refine PF.s 22 (by kernel_rfl) rfl ?_
    refine PF.s 23 (by kernel_rfl) rfl ?_
    refine PF.s 24 (by kernel_rfl) rfl ?_
    try simp only [pz]
    refine PF.t 25 (by kernel_rfl) rfl (by go_simp; try rfl) ?_
    try simp only [pz]
    refine PF.t 26 (by kernel_rfl) rfl (by go_simp; try rfl) ?_
    try simp only [pz]
    refine PF.s 27 (by kernel_rfl) rfl ?_
    refine PF.s 28 (by kernel_rfl) rfl ?_
    refine PF.s 29 (by kernel_rfl) rfl ?_
    refine PF.s 30 (by kernel_rfl) rfl ?_
    refine PF.s 31 (by kernel_rfl) rfl ?_
    try simp only [pz]
    refine PF.t 32 (by kernel_rfl) rfl (by go_simp; try rfl) ?_
    try simp only [pz]
    refine PF.t 33 (by kernel_rfl) rfl (by go_simp; try rfl) ?_
    try simp only [pz]
    refine PF.s 34 (by kernel_rfl) rfl ?_
    refine PF.s 35 (by kernel_rfl) rfl ?_
    refine PF.s 36 (by kernel_rfl) rfl ?_
    refine PF.s 37 (by kernel_rfl) rfl ?_
    refine PF.s 38 (by kernel_rfl) rfl ?_
    try simp only [pz]
    refine PF.t 39 (by kernel_rfl) rfl (by go_simp; try rfl) ?_
    try simp only [pz]
    refine PF.t 40 (by kernel_rfl) rfl (by go_simp; try rfl) ?_
    try simp only [pz]
    refine PF.s 41 (by kernel_rfl) rfl ?_
    refine PF.s 42 (by kernel_rfl) rfl ?_
    refine PF.s 43 (by kernel_rfl) rfl ?_
    refine PF.s 44 (by kernel_rfl) rfl ?_
    refine PF.k 45 (by kernel_rfl) rfl ?_
    try simp only [pz]
    refine PF.t 46 (by kernel_rfl) rfl (by go_simp; try rfl) ?_
    try simp only [pz]
    refine PF.t 47 (by kernel_rfl) rfl (by go_simp; try rfl) ?_
    try simp only [pz]
    refine PF.d (by kernel_rfl) ?_
    go_wp2_with fail
    go_ret
    refine ⟨by rw [HQ.out]; rfl, ?_⟩
    first | exact HT.out.trans (HT2.out.mono HT.out.size) | exact (HT.out.trans (HT2.out.mono HT.out.size)).drew
  ·skip
   have e7 : (C.kind == D.kind) = false := beq_eq_false_iff_ne.2 hkind
   have f7 : ((C.kind : Int) == (D.kind : Int)) = false := beq_eq_false_iff_ne.2 (by omega)
   have HQ : Hid (decide (C = D) = false) := decide_eq_false fun e => hkind (by rw [e])
   clear hi hkind
   have HW0 := Lib.hid hW0
   clear hW0
   go_enter Tryz.func36, Tryz.ntmps36
   go_wp2_with fail
   rw [← HW0.out]
   refine PF.b (by kernel_rfl) (fun _ _ _ _ _ h => h) ?_
   refine PF.u 0 (fun u => Blk u w.heap.size 25 (calL C (.slice A nb c)).toArray) (by kernel_rfl) rfl (H1.out) (fun u hu => exec_load_blk rfl rfl hu Tryz.underlying25 rfl (info_call rfl)) ?_
   try simp only [pz]
   refine PF.u 2 (fun u => Blk u (w.heap.size+1) 25 (calL D (.slice B nd d)).toArray) (by kernel_rfl) rfl (H2.out) (fun u hu => exec_load_blk rfl rfl hu Tryz.underlying25 rfl (info_call rfl)) ?_
   try simp only [pz]
   refine PF.e 1 (by kernel_rfl) rfl fun K hK => ?_
   go_simp
   refine (of_any rfl).mono ?_
   rintro e w1 ⟨rfl, hb1⟩
   have HT1 : Hid (Below W0.heap.size W0 w1) := ((Below.refl _ W0).drew).trans hb1
   clear hb1
   refine hK (by repeat (first | exact PF.n | refine PF.l ?_ | refine PF.o (by decide +kernel) ?_ | refine PF.y (by first | exact HT1.out.block _ (by have := HSZ.out; omega) | exact H2.out.below HT1.out (by have := HSZ.out; omega)) ?_)) ?_
   clear hK K
   try simp only [pz]
   refine PF.e 3 (by kernel_rfl) rfl fun K hK => ?_
   go_simp
   refine (of_any rfl).mono ?_
   rintro e w2 ⟨rfl, hb2⟩
   have HT2 : Hid (Below W0.heap.size W0 w2) := HT1.out.trans (hb2.mono HT1.out.size)
   clear hb2
   have H12 := H1.out.below HT2.out (by have := HSZ.out; omega)
   have H22 := H2.out.below HT2.out (by have := HSZ.out; omega)
   have c3 := (H12.cell 3).trans (rfl : _ = some (Value.int .i64 C.kind))
   have d3 := (H22.cell 3).trans (rfl : _ = some (Value.int .i64 D.kind))
   have c4 := (H12.cell 4).trans (rfl : _ = some (Value.int .i64 C.ch))
   have d4 := (H22.cell 4).trans (rfl : _ = some (Value.int .i64 D.ch))
   have c5 := (H12.cell 5).trans (rfl : _ = some (Value.int .i64 C.sub))
   have d5 := (H22.cell 5).trans (rfl : _ = some (Value.int .i64 D.sub))
   have c6 := (H12.cell 6).trans (rfl : _ = some (Value.int .u64 (C.seq : Int)))
   have d6 := (H22.cell 6).trans (rfl : _ = some (Value.int .u64 (D.seq : Int)))
   have c7 := (H12.cell 7).trans (rfl : _ = some (Value.int .u64 (C.at_ : Int)))
   have d7 := (H22.cell 7).trans (rfl : _ = some (Value.int .u64 (D.at_ : Int)))
   have c8 := (H12.cell 8).trans (rfl : _ = some (Value.slice A nb c))
   have d8 := (H22.cell 8).trans (rfl : _ = some (Value.slice B nd d))
   clear H12 H22
   refine hK (by repeat (first | exact PF.n | refine PF.l ?_ | refine PF.o (by decide +kernel) ?_ | refine PF.y (by exact HT2.out.block _ (by have := HSZ.out; omega)) ?_)) ?_
   clear hK K
   try simp only [pz]
   refine PF.t 4 (by kernel_rfl) rfl (by unfold idV idOf; go_simp; try rfl) ?_
   try simp only [pz]
   refine PF.t 5 (by kernel_rfl) rfl (by go_simp; try rfl) ?_
   try simp only [pz]
   refine PF.t 6 (by kernel_rfl) rfl (by go_simp; try rfl) ?_
   try simp only [pz]
   refine PF.m 7 (w.heap.size) (by kernel_rfl) rfl (fun hcu => by go_simp; try rfl) ?_
   try simp only [pz]
   refine PF.t 8 (by kernel_rfl) rfl (by go_simp; try rfl) ?_
   try simp only [pz]
   refine PF.m 9 ((w.heap.size+1)) (by kernel_rfl) rfl (fun hcu => by go_simp; try rfl) ?_
   try simp only [pz]
   refine PF.t 10 (by kernel_rfl) rfl (by go_simp; try rfl) ?_
   try simp only [pz]
   refine PF.t 11 (by kernel_rfl) rfl (by go_simp; try rfl) ?_
   try simp only [pz]
   refine PF.t 12 (by kernel_rfl) rfl (by go_simp; try rfl) ?_
   try simp only [pz]
   refine PF.s 13 (by kernel_rfl) rfl ?_
   refine PF.s 14 (by kernel_rfl) rfl ?_
   refine PF.s 15 (by kernel_rfl) rfl ?_
   refine PF.s 16 (by kernel_rfl) rfl ?_
   refine PF.s 17 (by kernel_rfl) rfl ?_
   try simp only [pz]
   refine PF.t 18 (by kernel_rfl) rfl (by go_simp; try rfl) ?_
   try simp only [pz]
   refine PF.t 19 (by kernel_rfl) rfl (by go_simp; try rfl) ?_
   try simp only [pz]
   refine PF.s 20 (by kernel_rfl) rfl ?_
   refine PF.s 21 (by kernel_rfl) rfl ?_
   refine PF.s 22 (by kernel_rfl) rfl ?_
   refine PF.s 23 (by kernel_rfl) rfl ?_
   refine PF.s 24 (by kernel_rfl) rfl ?_
   try simp only [pz]
   refine PF.t 25 (by kernel_rfl) rfl (by go_simp; try rfl) ?_
   try simp only [pz]
   refine PF.t 26 (by kernel_rfl) rfl (by go_simp; try rfl) ?_
   try simp only [pz]
   refine PF.s 27 (by kernel_rfl) rfl ?_
   refine PF.s 28 (by kernel_rfl) rfl ?_
   refine PF.s 29 (by kernel_rfl) rfl ?_
   refine PF.s 30 (by kernel_rfl) rfl ?_
   refine PF.s 31 (by kernel_rfl) rfl ?_
   try simp only [pz]
   refine PF.t 32 (by kernel_rfl) rfl (by go_simp; try rfl) ?_
   try simp only [pz]
   refine PF.t 33 (by kernel_rfl) rfl (by go_simp; try rfl) ?_
   try simp only [pz]
   refine PF.s 34 (by kernel_rfl) rfl ?_
   refine PF.s 35 (by kernel_rfl) rfl ?_
   refine PF.s 36 (by kernel_rfl) rfl ?_
   refine PF.s 37 (by kernel_rfl) rfl ?_
   refine PF.s 38 (by kernel_rfl) rfl ?_
   try simp only [pz]
   refine PF.t 39 (by kernel_rfl) rfl (by go_simp; try rfl) ?_
   try simp only [pz]
   refine PF.t 40 (by kernel_rfl) rfl (by go_simp; try rfl) ?_
   try simp only [pz]
   refine PF.s 41 (by kernel_rfl) rfl ?_
   refine PF.s 42 (by kernel_rfl) rfl ?_
   refine PF.s 43 (by kernel_rfl) rfl ?_
   refine PF.s 44 (by kernel_rfl) rfl ?_
   refine PF.k 45 (by kernel_rfl) rfl ?_
   try simp only [pz]
   refine PF.t 46 (by kernel_rfl) rfl (by go_simp; try rfl) ?_
   try simp only [pz]
   refine PF.t 47 (by kernel_rfl) rfl (by go_simp; try rfl) ?_
   try simp only [pz]
   refine PF.d (by kernel_rfl) ?_
   go_wp2_with fail
   go_ret
   refine ⟨by rw [HQ.out]; rfl, ?_⟩
   first | exact HT.out.trans (HT2.out.mono HT.out.size) | exact (HT.out.trans (HT2.out.mono HT.out.size)).drew
 ·have hid := fun u => eq_id u (idOf C) (idOf D) false (decide_eq_false hi)
  unfold idOf at hid
  have HQ : Hid (decide (C = D) = false) := decide_eq_false fun e => hi (by rw [e])
  clear hi
  have HW0 := Lib.hid hW0
  clear hW0
  go_enter Tryz.func36, Tryz.ntmps36
  go_wp2_with fail
  rw [← HW0.out]
  refine PF.b (by kernel_rfl) (fun _ _ _ _ _ h => h) ?_
  refine PF.u 0 (fun u => Blk u w.heap.size 25 (calL C (.slice A nb c)).toArray) (by kernel_rfl) rfl (H1.out) (fun u hu => exec_load_blk rfl rfl hu Tryz.underlying25 rfl (info_call rfl)) ?_
  try simp only [pz]
  refine PF.u 2 (fun u => Blk u (w.heap.size+1) 25 (calL D (.slice B nd d)).toArray) (by kernel_rfl) rfl (H2.out) (fun u hu => exec_load_blk rfl rfl hu Tryz.underlying25 rfl (info_call rfl)) ?_
  try simp only [pz]
  refine PF.e 1 (by kernel_rfl) rfl fun K hK => ?_
  go_simp
  refine (of_any rfl).mono ?_
  rintro e w1 ⟨rfl, hb1⟩
  have HT1 : Hid (Below W0.heap.size W0 w1) := ((Below.refl _ W0).drew).trans hb1
  clear hb1
  refine hK (by repeat (first | exact PF.n | refine PF.l ?_ | refine PF.o (by decide +kernel) ?_ | refine PF.y (by first | exact HT1.out.block _ (by have := HSZ.out; omega) | exact H2.out.below HT1.out (by have := HSZ.out; omega)) ?_)) ?_
  clear hK K
  try simp only [pz]
  refine PF.e 3 (by kernel_rfl) rfl fun K hK => ?_
  go_simp
  refine (of_any rfl).mono ?_
  rintro e w2 ⟨rfl, hb2⟩
  have HT2 : Hid (Below W0.heap.size W0 w2) := HT1.out.trans (hb2.mono HT1.out.size)
  clear hb2
  have H12 := H1.out.below HT2.out (by have := HSZ.out; omega)
  have H22 := H2.out.below HT2.out (by have := HSZ.out; omega)
  have c3 := (H12.cell 3).trans (rfl : _ = some (Value.int .i64 C.kind))
  have d3 := (H22.cell 3).trans (rfl : _ = some (Value.int .i64 D.kind))
  have c4 := (H12.cell 4).trans (rfl : _ = some (Value.int .i64 C.ch))
  have d4 := (H22.cell 4).trans (rfl : _ = some (Value.int .i64 D.ch))
  have c5 := (H12.cell 5).trans (rfl : _ = some (Value.int .i64 C.sub))
  have d5 := (H22.cell 5).trans (rfl : _ = some (Value.int .i64 D.sub))
  have c6 := (H12.cell 6).trans (rfl : _ = some (Value.int .u64 (C.seq : Int)))
  have d6 := (H22.cell 6).trans (rfl : _ = some (Value.int .u64 (D.seq : Int)))
  have c7 := (H12.cell 7).trans (rfl : _ = some (Value.int .u64 (C.at_ : Int)))
  have d7 := (H22.cell 7).trans (rfl : _ = some (Value.int .u64 (D.at_ : Int)))
  have c8 := (H12.cell 8).trans (rfl : _ = some (Value.slice A nb c))
  have d8 := (H22.cell 8).trans (rfl : _ = some (Value.slice B nd d))
  clear H12 H22
  refine hK (by repeat (first | exact PF.n | refine PF.l ?_ | refine PF.o (by decide +kernel) ?_ | refine PF.y (by exact HT2.out.block _ (by have := HSZ.out; omega)) ?_)) ?_
  clear hK K
  try simp only [pz]
  refine PF.t 4 (by kernel_rfl) rfl (by unfold idV idOf; go_simp; try rfl) ?_
  try simp only [pz]
  refine PF.t 5 (by kernel_rfl) rfl (by go_simp; try rfl) ?_
  try simp only [pz]
  refine PF.s 6 (by kernel_rfl) rfl ?_
  refine PF.s 7 (by kernel_rfl) rfl ?_
  refine PF.s 8 (by kernel_rfl) rfl ?_
  refine PF.s 9 (by kernel_rfl) rfl ?_
  refine PF.s 10 (by kernel_rfl) rfl ?_
  try simp only [pz]
  refine PF.t 11 (by kernel_rfl) rfl (by go_simp; try rfl) ?_
  try simp only [pz]
  refine PF.t 12 (by kernel_rfl) rfl (by go_simp; try rfl) ?_
  try simp only [pz]
  refine PF.s 13 (by kernel_rfl) rfl ?_
  refine PF.s 14 (by kernel_rfl) rfl ?_
  refine PF.s 15 (by kernel_rfl) rfl ?_
  refine PF.s 16 (by kernel_rfl) rfl ?_
  refine PF.s 17 (by kernel_rfl) rfl ?_
  try simp only [pz]
  refine PF.t 18 (by kernel_rfl) rfl (by go_simp; try rfl) ?_
  try simp only [pz]
  refine PF.t 19 (by kernel_rfl) rfl (by go_simp; try rfl) ?_
  try simp only [pz]
  refine PF.s 20 (by kernel_rfl) rfl ?_
  refine PF.s 21 (by kernel_rfl) rfl ?_
  refine PF.s 22 (by kernel_rfl) rfl ?_
  refine PF.s 23 (by kernel_rfl) rfl ?_
  refine PF.s 24 (by kernel_rfl) rfl ?_
  try simp only [pz]
  refine PF.t 25 (by kernel_rfl) rfl (by go_simp; try rfl) ?_
  try simp only [pz]
  refine PF.t 26 (by kernel_rfl) rfl (by go_simp; try rfl) ?_
  try simp only [pz]
  refine PF.s 27 (by kernel_rfl) rfl ?_
  refine PF.s 28 (by kernel_rfl) rfl ?_
  refine PF.s 29 (by kernel_rfl) rfl ?_
  refine PF.s 30 (by kernel_rfl) rfl ?_
  refine PF.s 31 (by kernel_rfl) rfl ?_
  try simp only [pz]
  refine PF.t 32 (by kernel_rfl) rfl (by go_simp; try rfl) ?_
  try simp only [pz]
  refine PF.t 33 (by kernel_rfl) rfl (by go_simp; try rfl) ?_
  try simp only [pz]
  refine PF.s 34 (by kernel_rfl) rfl ?_
  refine PF.s 35 (by kernel_rfl) rfl ?_
  refine PF.s 36 (by kernel_rfl) rfl ?_
  refine PF.s 37 (by kernel_rfl) rfl ?_
  refine PF.s 38 (by kernel_rfl) rfl ?_
  try simp only [pz]
  refine PF.t 39 (by kernel_rfl) rfl (by go_simp; try rfl) ?_
  try simp only [pz]
  refine PF.t 40 (by kernel_rfl) rfl (by go_simp; try rfl) ?_
  try simp only [pz]
  refine PF.s 41 (by kernel_rfl) rfl ?_
  refine PF.s 42 (by kernel_rfl) rfl ?_
  refine PF.s 43 (by kernel_rfl) rfl ?_
  refine PF.s 44 (by kernel_rfl) rfl ?_
  refine PF.k 45 (by kernel_rfl) rfl ?_
  try simp only [pz]
  refine PF.t 46 (by kernel_rfl) rfl (by go_simp; try rfl) ?_
  try simp only [pz]
  refine PF.t 47 (by kernel_rfl) rfl (by go_simp; try rfl) ?_
  try simp only [pz]
  refine PF.d (by kernel_rfl) ?_
  go_wp2_with fail
  go_ret
  refine ⟨by rw [HQ.out]; rfl, ?_⟩
  first | exact HT.out.trans (HT2.out.mono HT.out.size) | exact (HT.out.trans (HT2.out.mono HT.out.size)).drew
end Go.Proofs.YtpjmolnkmlpfeaaGreatDoor
