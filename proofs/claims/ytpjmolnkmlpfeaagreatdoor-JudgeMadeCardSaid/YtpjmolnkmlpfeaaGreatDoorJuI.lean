/- Whether two entries are the same; what a publish does. -/
import Derived.Test.YtpjmolnkmlpfeaaGreatDoorJuH
import Derived.Test.YtpjmolnkmlpfeaaGreatDoorJuEq
namespace Go.Proofs.YtpjmolnkmlpfeaaGreatDoor
set_option linter.unusedVariables false
set_option linter.unusedSimpArgs false
set_option maxRecDepth 100000
open Go.RowKit

set_option maxRecDepth 100000 in
set_option maxHeartbeats 4000000 in
theorem esame_any {K K' : Nat → Prop} {w : World} {a b : Ent} {va vb : Value} (ha : SlB K w va a.body) (hb : SlB K' w vb b.body) (hna : a.body.length ≤ 1000000) (hnb : b.body.length ≤ 140737488351232) :
    Calls Tryz.prog 45 #[.agg (enL (a, va)).toArray, .agg (enL (b, vb)).toArray] w fun e w' => e = .returned (.bool (decide (a = b))) ∧ Below w.heap.size w w' := by
  obtain ⟨A, c, rfl, hA, hA1, hA2, _⟩ := ha
  obtain ⟨B, d, rfl, hB, hB1, hB2, _⟩ := hb
  have h1 : Blk ((w.alloc (.cells (enL (a, .slice A a.body.length c)).toArray 73)).alloc (.cells (enL (b, .slice B b.body.length d)).toArray 73)) w.heap.size 73 (enL (a, .slice A a.body.length c)).toArray := (Blk.new _ _ _).alloc _
  have h2 : Blk ((w.alloc (.cells (enL (a, .slice A a.body.length c)).toArray 73)).alloc (.cells (enL (b, .slice B b.body.length d)).toArray 73)) (w.heap.size + 1) 73 (enL (b, .slice B b.body.length d)).toArray := by
    have := Blk.new (w.alloc (.cells (enL (a, .slice A a.body.length c)).toArray 73)) 73 (enL (b, .slice B b.body.length d)).toArray
    rwa [alloc_size] at this
  have hT : Below w.heap.size w ((w.alloc (.cells (enL (a, .slice A a.body.length c)).toArray 73)).alloc (.cells (enL (b, .slice B b.body.length d)).toArray 73)) := ((Below.refl _ _).alloc (Nat.le_refl _) _).alloc (by simp) _
  have a0 := (h1.cell 0).trans (rfl : _ = some (Value.int .i64 a.prod))
  have a1 := (h1.cell 1).trans (rfl : _ = some (Value.int .u64 (a.seq : Int)))
  have a2 := (h1.cell 2).trans (rfl : _ = some (Value.slice A a.body.length c))
  have b0 := (h2.cell 0).trans (rfl : _ = some (Value.int .i64 b.prod))
  have b1 := (h2.cell 1).trans (rfl : _ = some (Value.int .u64 (b.seq : Int)))
  have b2 := (h2.cell 2).trans (rfl : _ = some (Value.slice B b.body.length d))
  have HT := Lib.hid hT
  have HE := Lib.hid (eqb_any A B c d a.body b.body _ (hA.below hT) (hB.below hT) (by omega) (by omega))
  clear h1 h2 hT hA hB hA1 hA2 hB1 hB2 hna hnb
  by_cases hp : a.prod = b.prod
  · have p0 : decide (a.prod = b.prod) = true := decide_eq_true hp
    have p1 : (a.prod == b.prod) = true := beq_iff_eq.2 hp
    by_cases hs : a.seq = b.seq
    · have s0 : decide (a.seq = b.seq) = true := decide_eq_true hs
      have s1 : (a.seq == b.seq) = true := beq_iff_eq.2 hs
      have s2 : ((a.seq : Int) == (b.seq : Int)) = true := beq_iff_eq.2 (by omega)
      have HR : Hid (decide (a = b) = decide (a.body = b.body)) := by
        show _ = _
        by_cases h : a.body = b.body
        · rw [decide_eq_true h, decide_eq_true (Ent.ext' hp hs h)]
        · rw [decide_eq_false h, decide_eq_false fun e => h (by rw [e])]
      clear hp hs
      go_enter Tryz.func45, Tryz.ntmps45
      go_wp2_with fail
      refine HE.out.mono ?_
      rintro e w1 ⟨rfl, q, hq⟩
      have HQ := Lib.hid hq
      clear hq
      go_wp2_with fail
      go_ret
      refine ⟨by rw [HR.out]; rfl, ?_⟩
      rw [HQ.out]
      exact below_drewN HT.out q
    · have s0 : decide (a.seq = b.seq) = false := decide_eq_false hs
      have s1 : (a.seq == b.seq) = false := beq_eq_false_iff_ne.2 hs
      have s2 : ((a.seq : Int) == (b.seq : Int)) = false := beq_eq_false_iff_ne.2 (by omega)
      have HR : Hid (decide (a = b) = false) := decide_eq_false fun e => hs (by rw [e])
      clear hp hs
      go_enter Tryz.func45, Tryz.ntmps45
      go_wp2_with fail
      go_ret
      exact ⟨by rw [HR.out]; rfl, HT.out⟩
  · have p0 : decide (a.prod = b.prod) = false := decide_eq_false hp
    have p1 : (a.prod == b.prod) = false := beq_eq_false_iff_ne.2 hp
    have HR : Hid (decide (a = b) = false) := decide_eq_false fun e => hp (by rw [e])
    clear hp
    go_enter Tryz.func45, Tryz.ntmps45
    go_wp2_with fail
    go_ret
    exact ⟨by rw [HR.out]; rfl, HT.out⟩
end Go.Proofs.YtpjmolnkmlpfeaaGreatDoor
