/- The law's small functions: sort, great, put, get. -/
import Derived.Test.YtcklbhplhpohpaaDoorCodeP
import Derived.Test.YtcklbhplhpohpaaDoorWrC
import Derived.Test.YtcklbhplhpohpaaDoorPart
namespace Go.Proofs.YtcklbhplhpohpaaDoor
open Go.RowKit

namespace Pt
/-- A part's sort. -/
def k (p : Pt) : Int := p.s.toInt % 5
theorem k_lt (p : Pt) : 0 ≤ p.k ∧ p.k < 5 := by unfold k; omega
def n (p : Pt) : Nat := p.x.toNat
theorem n_lt (p : Pt) : p.n < 18446744073709551616 := p.x.toNat_lt
/-- A part's bytes, by the document. -/
def put (p : Pt) : List UInt8 := putP p.k p.n p.b
/-- A part as a block. -/
def obj (p : Pt) : Obj := .cells #[.int .i64 p.s.toInt, .int .i64 p.m.toInt, .int .u64 (p.x.toNat : Int), .slice p.A p.b.length p.c] 36
end Pt
theorem i64_lo (x : Int64) : -9223372036854775808 ≤ x.toInt := by have := x.le_toInt; omega
theorem i64_hi (x : Int64) : x.toInt ≤ 9223372036854775807 := by have := x.toInt_lt; omega
theorem sort_any (p : Pt) (w : World) : Calls Tryd.prog 24 #[p.val] w fun e w' => e = .returned (.int .i64 p.k) ∧ Below w.heap.size w w' := by
  have h1 := i64_lo p.s
  have h2 := i64_hi p.s
  unfold Pt.val Pt.k
  generalize p.s.toInt = s at h1 h2
  have hb := below_new w (.cells #[.int .i64 s, .int .i64 p.m.toInt, .int .u64 (p.x.toNat : Int), .slice p.A p.b.length p.c] 36)
  have hm : s.tmod 5 = s % 5 ∨ (s.tmod 5 < 0 ∧ -5 < s.tmod 5 ∧ s.tmod 5 + 5 = s % 5) := by
    rcases Int.lt_or_le s 0 with h | h
    · have e : s.tmod 5 = -((-s) % 5) := by rw [← Int.tmod_eq_emod_of_nonneg (by omega), Int.neg_tmod, Int.neg_neg]
      omega
    · exact .inl (Int.tmod_eq_emod_of_nonneg h)
  have hr : -5 < s.tmod 5 ∧ s.tmod 5 < 5 := ⟨by rcases hm with h | ⟨h, h2, h3⟩ <;> omega, by rcases hm with h | ⟨h, h2, h3⟩ <;> omega⟩
  have HB := Lib.hid hb
  have HM := Lib.hid hm
  clear hb hm
  by_cases hn : s.tmod 5 < 0
  · have hf : s.tmod 5 + 5 = s % 5 := by rcases HM.out with h | h <;> omega
    have HF := Lib.hid hf
    clear hf
    go_enter Tryd.func24, Tryd.ntmps24
    go_wp2_with fail
    go_ret
    exact ⟨ret_int HF.out, HB.out⟩
  · have hf : s.tmod 5 = s % 5 := by rcases HM.out with h | h <;> omega
    have HF := Lib.hid hf
    clear hf
    go_enter Tryd.func24, Tryd.ntmps24
    go_wp2_with fail
    go_ret
    exact ⟨ret_int HF.out, HB.out⟩
/-- How much there is of parts. -/
def bulk (l : List Pt) : Nat := l.length + (l.map fun p => p.b.length / 20).sum
theorem bulk_le {l : List Pt} (h : bulk l ≤ 2000) : l.length ≤ 2000 ∧ (l.map fun p => p.b.length).sum ≤ 80000 := by
  have key : ∀ l : List Pt, (l.map fun p => p.b.length).sum ≤ 20 * (l.map fun p => p.b.length / 20).sum + 19 * l.length := by
    intro l
    induction l with
    | nil => simp
    | cons p l ih =>
      simp only [List.map_cons, List.sum_cons, List.length_cons]
      omega
  have := key l
  unfold bulk at h
  omega
def Grt (l : List Pt) (w : World) (e : Ending) (w' : World) : Prop := ∃ g, e = .returned (.bool g) ∧ (g = false → bulk l ≤ 2000) ∧ w = w'
set_option maxHeartbeats 400000 in
theorem great_any (A : Option Addr) (c : Nat) (l : List Pt) (hl : l.length ≤ 9223372036854775807) (w : World) (h : Pts w A l) : Calls Tryd.prog 10 #[.slice A l.length c] w (Grt l w) := by
  have H := Lib.hid h
  clear h
  go_enter Tryd.func10, Tryd.ntmps10
  go_wp2_with fail
  go_loop [3, 4] (fun n i => ∃ k m : Nat, k ≤ l.length ∧ i = .int .i64 k ∧ n = .int .i64 m ∧ m = l.length + ((l.take k).map fun p => p.b.length / 20).sum ∧ m ≤ 9223372036854775807) (fun _ i => l.length - (intOf i).toNat)
  case atStart => exact ⟨0, l.length, Nat.zero_le _, rfl, rfl, by simp, by omega⟩
  case round =>
    obtain ⟨k, m, hk, rfl, rfl, hm, hm63⟩ := hrel
    have HM := Lib.hid hm
    clear hm
    by_cases h2000 : m ≤ 2000
    · by_cases hlt : k < l.length
      · obtain ⟨b, o, rfl, hb, _, _, _, c3⟩ := H.out.at_ hlt
        have hbl := (H.out.2 l[k] (List.getElem_mem hlt)).2
        have hts : ((l.take (k + 1)).map fun p => p.b.length / 20).sum = ((l.take k).map fun p => p.b.length / 20).sum + l[k].b.length / 20 := by
          rw [List.take_succ_eq_append_getElem hlt, List.map_append, List.sum_append]
          simp
        have HT := Lib.hid hts
        clear hts
        generalize l[k] = p at c3 hbl HT
        generalize p.b.length = j at c3 hbl HT
        have hj : j ≤ 9223372036854775807 := by omega
        have hd1 : decide (k < l.length) = true := by simpa using hlt
        have hd2 : decide ((m : Int) ≤ 2000) = true := by rw [decide_eq_true_iff]; omega
        go_wp2_with fail
        go_round
        case rel => exact ⟨k + 1, m + j / 20, by omega, by go_num, by go_num, by rw [HT.out, HM.out]; omega, by omega⟩
        case measure => simp [intOf]; omega
      · obtain rfl : k = l.length := by omega
        have hd1 : decide (l.length < l.length) = false := by simp
        have hd2 : decide (2000 < (m : Int)) = false := by rw [decide_eq_false_iff_not]; omega
        go_wp2_with fail
        go_ret
        refine ⟨false, rfl, fun _ => ?_, rfl⟩
        have := HM.out
        rw [List.take_length] at this
        unfold bulk
        omega
    · have hd2 : decide ((m : Int) ≤ 2000) = false := by rw [decide_eq_false_iff_not]; omega
      have hd3 : decide (2000 < (m : Int)) = true := by rw [decide_eq_true_iff]; omega
      by_cases hlt : k < l.length
      all_goals
        go_wp2_with fail
        go_ret
        refine ⟨true, rfl, ?_, rfl⟩
        intro h
        cases h
end Go.Proofs.YtcklbhplhpohpaaDoor
