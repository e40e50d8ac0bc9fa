/- The document: two calls' names, two calls: some answer. -/
import Derived.Test.YtpjmolnkmlpfeaaGreatDoorJuLg
namespace Go.Proofs.YtpjmolnkmlpfeaaGreatDoor
set_option linter.unusedVariables false
set_option linter.unusedSimpArgs false
set_option maxRecDepth 100000
open Go.RowKit

set_option maxRecDepth 100000 in
set_option maxHeartbeats 8000000 in
theorem sameid_any {w : World} {C D : Cal} {u v : Value} : Calls Tryz.prog 41 #[.agg (calL C u).toArray, .agg (calL D v).toArray] w fun e w' => e = .returned (.bool (decide (idOf C = idOf D))) ∧ Below w.heap.size w w' := by
  have hB1 : Blk ((w.alloc (.cells (calL C u).toArray 25)).alloc (.cells (calL D v).toArray 25)) w.heap.size 25 (calL C u).toArray := (Blk.new _ _ _).alloc _
  have hB2 : Blk ((w.alloc (.cells (calL C u).toArray 25)).alloc (.cells (calL D v).toArray 25)) (w.heap.size + 1) 25 (calL D v).toArray := by
    have := Blk.new (w.alloc (.cells (calL C u).toArray 25)) 25 (calL D v).toArray
    rwa [alloc_size] at this
  have HT : Hid (Below w.heap.size w ((w.alloc (.cells (calL C u).toArray 25)).alloc (.cells (calL D v).toArray 25))) := ((Below.refl _ _).alloc (Nat.le_refl _) _).alloc (by simp) _
  have a0 := (hB1.cell 0).trans (rfl : _ = some (Value.int .i64 C.cl))
  have a1 := (hB1.cell 1).trans (rfl : _ = some (Value.int .u64 (C.inc : Int)))
  have a2 := (hB1.cell 2).trans (rfl : _ = some (Value.int .u64 (C.n : Int)))
  have b0 := (hB2.cell 0).trans (rfl : _ = some (Value.int .i64 D.cl))
  have b1 := (hB2.cell 1).trans (rfl : _ = some (Value.int .u64 (D.inc : Int)))
  have b2 := (hB2.cell 2).trans (rfl : _ = some (Value.int .u64 (D.n : Int)))
  clear hB1 hB2
  by_cases h0 : C.cl = D.cl
  · have e0 : (C.cl == D.cl) = true := beq_iff_eq.2 h0
    by_cases h1 : C.inc = D.inc
    · have e1 : (C.inc == D.inc) = true := beq_iff_eq.2 h1
      have f1 : ((C.inc : Int) == (D.inc : Int)) = true := beq_iff_eq.2 (by omega)
      by_cases h2 : C.n = D.n
      · have e2 : (C.n == D.n) = true := beq_iff_eq.2 h2
        have f2 : ((C.n : Int) == (D.n : Int)) = true := beq_iff_eq.2 (by omega)
        have HR : Hid (decide (idOf C = idOf D) = true) := decide_eq_true (by unfold idOf; rw [h0, h1, h2])
        clear h0 h1 h2
        go_enter Tryz.func41, Tryz.ntmps41
        go_wp2_with fail
        go_ret
        exact ⟨by rw [HR.out]; rfl, HT.out⟩
      · have e2 : (C.n == D.n) = false := beq_eq_false_iff_ne.2 h2
        have f2 : ((C.n : Int) == (D.n : Int)) = false := beq_eq_false_iff_ne.2 (by omega)
        have HR : Hid (decide (idOf C = idOf D) = false) := decide_eq_false (by intro e; simp only [idOf, Prod.mk.injEq] at e; exact h2 e.2.2)
        clear h0 h1 h2
        go_enter Tryz.func41, Tryz.ntmps41
        go_wp2_with fail
        go_ret
        exact ⟨by rw [HR.out]; rfl, HT.out⟩
    · have e1 : (C.inc == D.inc) = false := beq_eq_false_iff_ne.2 h1
      have f1 : ((C.inc : Int) == (D.inc : Int)) = false := beq_eq_false_iff_ne.2 (by omega)
      have HR : Hid (decide (idOf C = idOf D) = false) := decide_eq_false (by intro e; simp only [idOf, Prod.mk.injEq] at e; exact h1 e.2.1)
      clear h0 h1
      go_enter Tryz.func41, Tryz.ntmps41
      go_wp2_with fail
      go_ret
      exact ⟨by rw [HR.out]; rfl, HT.out⟩
  · have e0 : (C.cl == D.cl) = false := beq_eq_false_iff_ne.2 h0
    have HR : Hid (decide (idOf C = idOf D) = false) := decide_eq_false (by intro e; simp only [idOf, Prod.mk.injEq] at e; exact h0 e.1)
    clear h0
    go_enter Tryz.func41, Tryz.ntmps41
    go_wp2_with fail
    go_ret
    exact ⟨by rw [HR.out]; rfl, HT.out⟩
set_option maxRecDepth 100000 in
set_option maxHeartbeats 16000000 in
theorem samecall_any {K : Nat → Prop} {w : World} {C D : Cal} {u v : Value} (hu : SlB K w u C.body) (hv : SlB K w v D.body) : Calls Tryz.prog 42 #[.agg (calL C u).toArray, .agg (calL D v).toArray] w fun e w' => e = .returned (.bool (decide (C = D))) ∧ Below w.heap.size w w'   := by
  obtain ⟨A1, c1, rfl, hu1, _⟩ := hu
  obtain ⟨A2, c2, rfl, hv1, _⟩ := hv
  have hB1 : Blk ((w.alloc (.cells (calL C (.slice A1 C.body.length c1)).toArray 25)).alloc (.cells (calL D (.slice A2 D.body.length c2)).toArray 25)) w.heap.size 25 (calL C (.slice A1 C.body.length c1)).toArray := (Blk.new _ _ _).alloc _
  have hB2 : Blk ((w.alloc (.cells (calL C (.slice A1 C.body.length c1)).toArray 25)).alloc (.cells (calL D (.slice A2 D.body.length c2)).toArray 25)) (w.heap.size + 1) 25 (calL D (.slice A2 D.body.length c2)).toArray := by
    have := Blk.new (w.alloc (.cells (calL C (.slice A1 C.body.length c1)).toArray 25)) 25 (calL D (.slice A2 D.body.length c2)).toArray
    rwa [alloc_size] at this
  have hT : Below w.heap.size w ((w.alloc (.cells (calL C (.slice A1 C.body.length c1)).toArray 25)).alloc (.cells (calL D (.slice A2 D.body.length c2)).toArray 25)) := ((Below.refl _ _).alloc (Nat.le_refl _) _).alloc (by simp) _
  have HT := Lib.hid hT
  have r1 := hu1.below hT
  have r2 := hv1.below hT
  have v1 := conv_str (P := Tryz.prog) (n := C.body.length) (c := c1) Tryz.underlying23 Tryz.underlying5 Tryz.underlying9 r1 rfl
  have v2 := conv_str (P := Tryz.prog) (n := D.body.length) (c := c2) Tryz.underlying23 Tryz.underlying5 Tryz.underlying9 r2 rfl
  have a0 := (hB1.cell 0).trans (rfl : _ = some (Value.int .i64 C.cl))
  have a1 := (hB1.cell 1).trans (rfl : _ = some (Value.int .u64 (C.inc : Int)))
  have a2 := (hB1.cell 2).trans (rfl : _ = some (Value.int .u64 (C.n : Int)))
  have a3 := (hB1.cell 3).trans (rfl : _ = some (Value.int .i64 C.kind))
  have a4 := (hB1.cell 4).trans (rfl : _ = some (Value.int .i64 C.ch))
  have a5 := (hB1.cell 5).trans (rfl : _ = some (Value.int .i64 C.sub))
  have a6 := (hB1.cell 6).trans (rfl : _ = some (Value.int .u64 (C.seq : Int)))
  have a7 := (hB1.cell 7).trans (rfl : _ = some (Value.int .u64 (C.at_ : Int)))
  have a8 := (hB1.cell 8).trans (rfl : _ = some (Value.slice A1 C.body.length c1))
  have b0 := (hB2.cell 0).trans (rfl : _ = some (Value.int .i64 D.cl))
  have b1 := (hB2.cell 1).trans (rfl : _ = some (Value.int .u64 (D.inc : Int)))
  have b2 := (hB2.cell 2).trans (rfl : _ = some (Value.int .u64 (D.n : Int)))
  have b3 := (hB2.cell 3).trans (rfl : _ = some (Value.int .i64 D.kind))
  have b4 := (hB2.cell 4).trans (rfl : _ = some (Value.int .i64 D.ch))
  have b5 := (hB2.cell 5).trans (rfl : _ = some (Value.int .i64 D.sub))
  have b6 := (hB2.cell 6).trans (rfl : _ = some (Value.int .u64 (D.seq : Int)))
  have b7 := (hB2.cell 7).trans (rfl : _ = some (Value.int .u64 (D.at_ : Int)))
  have b8 := (hB2.cell 8).trans (rfl : _ = some (Value.slice A2 D.body.length c2))
  clear hB1 hB2 hT r1 r2 hu1 hv1
  -- CASES
  by_cases h0 : C.cl = D.cl
  · skip
    have e0 : (C.cl == D.cl) = true := beq_iff_eq.2 h0
    by_cases h1 : C.inc = D.inc
    · skip
      have e1 : (C.inc == D.inc) = true := beq_iff_eq.2 h1
      have f1 : ((C.inc : Int) == (D.inc : Int)) = true := beq_iff_eq.2 (by omega)
      by_cases h2 : C.n = D.n
      · skip
        have e2 : (C.n == D.n) = true := beq_iff_eq.2 h2
        have f2 : ((C.n : Int) == (D.n : Int)) = true := beq_iff_eq.2 (by omega)
        by_cases h3 : C.kind = D.kind
        · skip
          have e3 : (C.kind == D.kind) = true := beq_iff_eq.2 h3
          by_cases h4 : C.ch = D.ch
          · skip
            have e4 : (C.ch == D.ch) = true := beq_iff_eq.2 h4
            by_cases h5 : C.sub = D.sub
            · skip
              have e5 : (C.sub == D.sub) = true := beq_iff_eq.2 h5
              by_cases h6 : C.seq = D.seq
              · skip
                have e6 : (C.seq == D.seq) = true := beq_iff_eq.2 h6
                have f6 : ((C.seq : Int) == (D.seq : Int)) = true := beq_iff_eq.2 (by omega)
                by_cases h7 : C.at_ = D.at_
                · skip
                  have e7 : (C.at_ == D.at_) = true := beq_iff_eq.2 h7
                  have f7 : ((C.at_ : Int) == (D.at_ : Int)) = true := beq_iff_eq.2 (by omega)
                  by_cases h8 : C.body = D.body
                  · skip
                    have e8 : (C.body == D.body) = true := beq_iff_eq.2 h8
                    have HR : Hid (decide (C = D) = true) := decide_eq_true (Cal.ext' h0 h1 h2 h3 h4 h5 h6 h7 h8)
                    clear h0 h1 h2 h3 h4 h5 h6 h7 h8
                    go_enter Tryz.func42, Tryz.ntmps42
                    go_wp2_with fail
                    go_ret
                    exact ⟨by rw [HR.out]; rfl, HT.out⟩
                  · skip
                    have e8 : (C.body == D.body) = false := beq_eq_false_iff_ne.2 h8
                    have HR : Hid (decide (C = D) = false) := decide_eq_false (fun e => h8 (by rw [e]))
                    clear h0 h1 h2 h3 h4 h5 h6 h7 h8
                    go_enter Tryz.func42, Tryz.ntmps42
                    go_wp2_with fail
                    go_ret
                    exact ⟨by rw [HR.out]; rfl, HT.out⟩
                · skip
                  have e7 : (C.at_ == D.at_) = false := beq_eq_false_iff_ne.2 h7
                  have f7 : ((C.at_ : Int) == (D.at_ : Int)) = false := beq_eq_false_iff_ne.2 (by omega)
                  have HR : Hid (decide (C = D) = false) := decide_eq_false (fun e => h7 (by rw [e]))
                  clear h0 h1 h2 h3 h4 h5 h6 h7
                  go_enter Tryz.func42, Tryz.ntmps42
                  go_wp2_with fail
                  go_ret
                  exact ⟨by rw [HR.out]; rfl, HT.out⟩
              · skip
                have e6 : (C.seq == D.seq) = false := beq_eq_false_iff_ne.2 h6
                have f6 : ((C.seq : Int) == (D.seq : Int)) = false := beq_eq_false_iff_ne.2 (by omega)
                have HR : Hid (decide (C = D) = false) := decide_eq_false (fun e => h6 (by rw [e]))
                clear h0 h1 h2 h3 h4 h5 h6
                go_enter Tryz.func42, Tryz.ntmps42
                go_wp2_with fail
                go_ret
                exact ⟨by rw [HR.out]; rfl, HT.out⟩
            · skip
              have e5 : (C.sub == D.sub) = false := beq_eq_false_iff_ne.2 h5
              have HR : Hid (decide (C = D) = false) := decide_eq_false (fun e => h5 (by rw [e]))
              clear h0 h1 h2 h3 h4 h5
              go_enter Tryz.func42, Tryz.ntmps42
              go_wp2_with fail
              go_ret
              exact ⟨by rw [HR.out]; rfl, HT.out⟩
          · skip
            have e4 : (C.ch == D.ch) = false := beq_eq_false_iff_ne.2 h4
            have HR : Hid (decide (C = D) = false) := decide_eq_false (fun e => h4 (by rw [e]))
            clear h0 h1 h2 h3 h4
            go_enter Tryz.func42, Tryz.ntmps42
            go_wp2_with fail
            go_ret
            exact ⟨by rw [HR.out]; rfl, HT.out⟩
        · skip
          have e3 : (C.kind == D.kind) = false := beq_eq_false_iff_ne.2 h3
          have HR : Hid (decide (C = D) = false) := decide_eq_false (fun e => h3 (by rw [e]))
          clear h0 h1 h2 h3
          go_enter Tryz.func42, Tryz.ntmps42
          go_wp2_with fail
          go_ret
          exact ⟨by rw [HR.out]; rfl, HT.out⟩
      · skip
        have e2 : (C.n == D.n) = false := beq_eq_false_iff_ne.2 h2
        have f2 : ((C.n : Int) == (D.n : Int)) = false := beq_eq_false_iff_ne.2 (by omega)
        have HR : Hid (decide (C = D) = false) := decide_eq_false (fun e => h2 (by rw [e]))
        clear h0 h1 h2
        go_enter Tryz.func42, Tryz.ntmps42
        go_wp2_with fail
        go_ret
        exact ⟨by rw [HR.out]; rfl, HT.out⟩
    · skip
      have e1 : (C.inc == D.inc) = false := beq_eq_false_iff_ne.2 h1
      have f1 : ((C.inc : Int) == (D.inc : Int)) = false := beq_eq_false_iff_ne.2 (by omega)
      have HR : Hid (decide (C = D) = false) := decide_eq_false (fun e => h1 (by rw [e]))
      clear h0 h1
      go_enter Tryz.func42, Tryz.ntmps42
      go_wp2_with fail
      go_ret
      exact ⟨by rw [HR.out]; rfl, HT.out⟩
  · skip
    have e0 : (C.cl == D.cl) = false := beq_eq_false_iff_ne.2 h0
    have HR : Hid (decide (C = D) = false) := decide_eq_false (fun e => h0 (by rw [e]))
    clear h0
    go_enter Tryz.func42, Tryz.ntmps42
    go_wp2_with fail
    go_ret
    exact ⟨by rw [HR.out]; rfl, HT.out⟩
end Go.Proofs.YtpjmolnkmlpfeaaGreatDoor
