/- The chapter's examples: plain. -/
import Derived.Test.YtdckdjkkaangmaaDoorWireC2
namespace Go.Proofs.YtdckdjkkaangmaaDoor
set_option linter.unusedVariables false
set_option linter.unusedSimpArgs false
set_option maxRecDepth 100000
open Go.RowKit

/-- The chapter's packets. -/
def pkC : Pk := { n := fun o => if o = 0 then 5 else if o = 38 then 9 else if o = 39 then 1 else if o = 40 then 1 else if o = 41 then 1 else if o = 42 then 2 else if o = 44 then 3 else 0, t := fun o => if o = 46 then [97, 98] else [], k := [] }
def pkA : Pk := { n := fun o => if o = 0 then 1 else if o = 1 then 1 else if o = 2 then 1 else if o = 3 then 300 else if o = 4 then 4 else if o = 5 then 1 else 0, t := fun _ => [], k := [] }
def pkQ : Pk := { n := fun o => if o = 0 then 3 else if o = 19 then 4 else if o = 20 then 1 else if o = 21 then 4 else if o = 23 then 7 else 0, t := fun _ => [], k := [2, 3] }
theorem short_300 : short 300 = [172, 2] := by rw [short_high (by decide), show 300 / 128 = 2 from rfl, short_low (by decide)]; rfl
theorem enc_c : enc pkC = ([5, 9, 1, 1, 1, 2, 0, 3, 0, 2, 97, 98], false) := by
  have s : ∀ x, x < 128 → short x = [UInt8.ofNat x] := fun x h => short_low h
  unfold enc encS
  rw [if_neg (by decide), gF_fold]
  have e : (schema (pkC.n 0)).flatMap (wb pkC.n) = [9, 1, 1, 1, 2, 0, 3, 0] := by
    show (short 9 ++ (short 1 ++ (short 1 ++ (short 1 ++ (short 2 ++ (short 0 ++ (short 3 ++ (short 0 ++ [])))))))) = _
    simp only [s 9 (by decide), s 1 (by decide), s 2 (by decide), s 0 (by decide), s 3 (by decide)]
    rfl
  rw [e]
  show ([5] ++ [9, 1, 1, 1, 2, 0, 3, 0] ++ (short 2 ++ [97, 98]), _) = _
  rw [s 2 (by decide)]
  rfl
theorem enc_a : enc pkA = ([1, 1, 1, 172, 2, 4, 1, 0], false) := by
  have s : ∀ x, x < 128 → short x = [UInt8.ofNat x] := fun x h => short_low h
  unfold enc encS
  rw [if_neg (by decide), gF_fold]
  have e : (schema (pkA.n 0)).flatMap (wb pkA.n) = [1, 1, 172, 2, 4, 1] := by
    show (short 1 ++ (short 1 ++ (short 300 ++ (short 4 ++ (short 1 ++ []))))) = _
    simp only [s 1 (by decide), s 4 (by decide), short_300]
    rfl
  rw [e]
  show ([1] ++ [1, 1, 172, 2, 4, 1] ++ (short 0 ++ []), _) = _
  rw [s 0 (by decide)]
  rfl
theorem enc_q : enc pkQ = ([3, 4, 1, 4, 0, 7, 0, 0, 0, 0, 2, 2, 3], false) := by
  have s : ∀ x, x < 128 → short x = [UInt8.ofNat x] := fun x h => short_low h
  unfold enc encS
  rw [if_pos (by decide), gF_fold]
  have e : (schema (pkQ.n 0)).flatMap (wb pkQ.n) = [4, 1, 4, 0, 7, 0, 0, 0] := by
    show (short 4 ++ (short 1 ++ (short 4 ++ (short 0 ++ (short 7 ++ (short 0 ++ (short 0 ++ (short 0 ++ [])))))))) = _
    simp only [s 4 (by decide), s 1 (by decide), s 0 (by decide), s 7 (by decide)]
    rfl
  rw [e]
  show ((([3] ++ [4, 1, 4, 0, 7, 0, 0, 0] ++ (short 0 ++ [])) ++ short 2 ++ (short 2 ++ (short 3 ++ []))), _) = _
  rw [s 0 (by decide), s 2 (by decide), s 3 (by decide)]
  rfl
theorem ok_c : OkP pkC := ⟨by decide, by decide, by rw [enc_c], by decide⟩
theorem ok_a : OkP pkA := ⟨by decide, by decide, by rw [enc_a], by decide⟩
theorem ok_q : OkP pkQ := ⟨by decide, by decide, by rw [enc_q], by decide⟩
/-- The packets' cells. -/
def csC (v : Value) : Array Value := putL (zPk.setIfInBounds 0 (.int .i64 5)) 38 [.int .i64 9, .int .u64 1, .int .u64 1, .int .i64 1, .int .i64 2, .int .i64 0, .int .u64 3, .int .u64 0, v]
def csA : Array Value := putL (zPk.setIfInBounds 0 (.int .i64 1)) 1 [.int .i64 1, .int .i64 1, .int .u64 300, .int .i64 4, .int .u64 1, .slice none 0 0]
def csQ (v : Value) : Array Value := putL (zPk.setIfInBounds 0 (.int .i64 3)) 19 [.int .i64 4, .int .u64 1, .int .i64 4, .int .u64 0, .int .u64 7, .int .u64 0, .int .u64 0, .int .i64 0, .slice none 0 0, v]
set_option maxHeartbeats 4000000 in
theorem pkv_c {w : World} {A : Option Addr} {c : Nat} (h : Bytes w A [97, 98]) (h1 : 2 ≤ c) (h2 : c ≤ 9223372036854775807) : PkV w (csC (.slice A 2 c)) pkC := by
  refine ⟨rfl, ⟨rfl, by decide, by decide⟩, fun o ho => ?_, fun o ho => ?_, fun o ho => ?_, ⟨none, 0, rfl, Reads.nil_ _ _ _, Nat.le_refl _, by decide, by decide⟩, (fun x hx => by cases hx), fun A n c e ad ea => ?_⟩
  · simp only [intOffs, List.mem_cons, List.not_mem_nil, or_false] at ho
    rcases ho with rfl | rfl | rfl | rfl | rfl | rfl | rfl | rfl | rfl | rfl | rfl | rfl | rfl | rfl | rfl | rfl | rfl | rfl | rfl | rfl | rfl | rfl <;> exact ⟨rfl, by decide, by decide⟩
  · simp only [numOffs, List.mem_cons, List.not_mem_nil, or_false] at ho
    rcases ho with rfl | rfl | rfl | rfl | rfl | rfl | rfl | rfl | rfl | rfl | rfl | rfl | rfl | rfl | rfl | rfl | rfl | rfl | rfl | rfl | rfl | rfl | rfl | rfl | rfl | rfl <;> exact ⟨rfl, by decide, by decide⟩
  · simp only [txtOffs, List.mem_cons, List.not_mem_nil, or_false] at ho
    rcases ho with rfl | rfl | rfl | rfl | rfl | rfl
    · exact ⟨none, 0, rfl, Bytes.nil_ _ _, Nat.le_refl _, by decide, by decide⟩
    · exact ⟨none, 0, rfl, Bytes.nil_ _ _, Nat.le_refl _, by decide, by decide⟩
    · exact ⟨none, 0, rfl, Bytes.nil_ _ _, Nat.le_refl _, by decide, by decide⟩
    · exact ⟨none, 0, rfl, Bytes.nil_ _ _, Nat.le_refl _, by decide, by decide⟩
    · exact ⟨A, c, rfl, h, h1, h2, by decide⟩
    · exact ⟨none, 0, rfl, Bytes.nil_ _ _, Nat.le_refl _, by decide, by decide⟩
  · have e : some (Value.slice none 0 0) = some (.slice A n c) := e
    injection e with e
    injection e with e
    rw [ea] at e
    cases e
set_option maxHeartbeats 4000000 in
theorem pkv_a (w : World) : PkV w csA pkA := by
  refine ⟨rfl, ⟨rfl, by decide, by decide⟩, fun o ho => ?_, fun o ho => ?_, fun o ho => ?_, ⟨none, 0, rfl, Reads.nil_ _ _ _, Nat.le_refl _, by decide, by decide⟩, (fun x hx => by cases hx), fun A n c e ad ea => ?_⟩
  · simp only [intOffs, List.mem_cons, List.not_mem_nil, or_false] at ho
    rcases ho with rfl | rfl | rfl | rfl | rfl | rfl | rfl | rfl | rfl | rfl | rfl | rfl | rfl | rfl | rfl | rfl | rfl | rfl | rfl | rfl | rfl | rfl <;> exact ⟨rfl, by decide, by decide⟩
  · simp only [numOffs, List.mem_cons, List.not_mem_nil, or_false] at ho
    rcases ho with rfl | rfl | rfl | rfl | rfl | rfl | rfl | rfl | rfl | rfl | rfl | rfl | rfl | rfl | rfl | rfl | rfl | rfl | rfl | rfl | rfl | rfl | rfl | rfl | rfl | rfl <;> exact ⟨rfl, by decide, by decide⟩
  · simp only [txtOffs, List.mem_cons, List.not_mem_nil, or_false] at ho
    rcases ho with rfl | rfl | rfl | rfl | rfl | rfl <;> exact ⟨none, 0, rfl, Bytes.nil_ _ _, Nat.le_refl _, by decide, by decide⟩
  · have e : some (Value.slice none 0 0) = some (.slice A n c) := e
    injection e with e
    injection e with e
    rw [ea] at e
    cases e
set_option maxHeartbeats 4000000 in
theorem pkv_q {w : World} {A : Option Addr} {c : Nat} (h : Keeps w A [2, 3]) (h1 : 2 ≤ c) (h2 : c ≤ 9223372036854775807) (h3 : ∀ ad, A = some ad → ad.block < w.heap.size) : PkV w (csQ (.slice A 2 c)) pkQ := by
  refine ⟨rfl, ⟨rfl, by decide, by decide⟩, fun o ho => ?_, fun o ho => ?_, fun o ho => ?_, ⟨A, c, rfl, h, h1, h2, by decide⟩, (fun x hx => by simp only [pkQ, List.mem_cons, List.not_mem_nil, or_false] at hx; omega), fun A' n c e ad ea => ?_⟩
  · simp only [intOffs, List.mem_cons, List.not_mem_nil, or_false] at ho
    rcases ho with rfl | rfl | rfl | rfl | rfl | rfl | rfl | rfl | rfl | rfl | rfl | rfl | rfl | rfl | rfl | rfl | rfl | rfl | rfl | rfl | rfl | rfl <;> exact ⟨rfl, by decide, by decide⟩
  · simp only [numOffs, List.mem_cons, List.not_mem_nil, or_false] at ho
    rcases ho with rfl | rfl | rfl | rfl | rfl | rfl | rfl | rfl | rfl | rfl | rfl | rfl | rfl | rfl | rfl | rfl | rfl | rfl | rfl | rfl | rfl | rfl | rfl | rfl | rfl | rfl <;> exact ⟨rfl, by decide, by decide⟩
  · simp only [txtOffs, List.mem_cons, List.not_mem_nil, or_false] at ho
    rcases ho with rfl | rfl | rfl | rfl | rfl | rfl <;> exact ⟨none, 0, rfl, Bytes.nil_ _ _, Nat.le_refl _, by decide, by decide⟩
  · have e : some (Value.slice A 2 _) = some (.slice A' n c) := e
    injection e with e
    injection e with e
    exact h3 ad (e.trans ea)
end Go.Proofs.YtdckdjkkaangmaaDoor
