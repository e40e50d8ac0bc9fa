/- A client's calls: slices.Index at numbers. -/
import Derived.Test.YtpbaofabflgpkaaCliB
namespace Go.Proofs.Ytpbaofabflgpkaa
set_option linter.unusedVariables false
set_option linter.unusedSimpArgs false
open Go.RowKit

def idxI (xs : List Int) (x : Int) : Int := match xs.findIdx? (fun b => decide (b = x)) with | some k => (k : Int) | none => -1
theorem idx_some {xs : List Int} {x : Int} {k : Nat} (hk : k < xs.length) (he : xs[k] = x) (hn : ∀ j, j < k → ∀ y, xs[j]? = some y → y ≠ x) : xs.findIdx? (fun b => decide (b = x)) = some k := by
  rw [List.findIdx?_eq_some_iff_getElem]
  refine ⟨hk, by simp [he], fun j hj => ?_⟩
  have := hn j hj xs[j] (List.getElem?_eq_getElem (by omega))
  simp [this]
theorem idx_none {xs : List Int} {x : Int} (hn : ∀ j, j < xs.length → ∀ y, xs[j]? = some y → y ≠ x) : xs.findIdx? (fun b => decide (b = x)) = none := by
  rw [List.findIdx?_eq_none_iff]
  intro y hy
  obtain ⟨j, hj, rfl⟩ := List.getElem_of_mem hy
  have := hn j hj xs[j] (List.getElem?_eq_getElem hj)
  simp [this]
set_option maxHeartbeats 4000000 in
theorem index_any {K : Nat → Prop} {w : World} {v : Value} {xs : List Int} (h : SlI K w v xs) (x : Int) (hn : xs.length ≤ 1000000) :
    Calls Try.prog 27 #[v, .int .i64 x] w fun e w' => e = .returned (.int .i64 (idxI xs x)) ∧ w' = w := by
  obtain ⟨A, c, rfl, hr, _⟩ := h
  have HR := Lib.hid hr
  clear hr
  go_enter Try.func27, Try.ntmps27
  go_wp2_with fail
  go_loopw [8] (fun i wr => ∃ k : Nat, k ≤ xs.length ∧ i = .int .i64 k ∧ wr = w ∧ ∀ j, j < k → ∀ y, xs[j]? = some y → y ≠ x) (fun i _ => xs.length - (intOf i).toNat)
  case atStart => exact ⟨0, by omega, rfl, rfl, by intro j hj; omega⟩
  case round =>
    obtain ⟨k, hk, rfl, hw, hnot⟩ := hrel
    subst hw
    have HNOT := Lib.hid hnot
    clear hnot
    by_cases hlt : k < xs.length
    · obtain ⟨b, o, rfl, _, hc⟩ := Reads.flat HR.out (by omega) (by decide)
      have c0 := hc k (iv xs[k]) (by rw [List.getElem?_map, List.getElem?_eq_getElem hlt]; rfl)
      have HK : Hid (xs[k]? = some xs[k]) := List.getElem?_eq_getElem hlt
      have HKK : ∃ y, xs[k] = y := ⟨_, rfl⟩
      obtain ⟨y, HKK⟩ := HKK
      rw [HKK] at c0 HK
      have HKK := Lib.hid HKK
      unfold iv at c0
      clear hc
      by_cases hy : x = y
      · have d0 : decide (x = y) = true := decide_eq_true hy
        have d1 : (x == y) = true := beq_iff_eq.2 hy
        have HID : Hid (idxI xs x = (k : Int)) := by
          show _ = _
          unfold idxI
          rw [idx_some hlt (by rw [HKK.out, hy]) HNOT.out]
        clear hy
        go_wp2_with fail
        go_ret
        exact ⟨by rw [HID.out]; rfl, rfl⟩
      · have d0 : decide (x = y) = false := decide_eq_false hy
        have d1 : (x == y) = false := beq_eq_false_iff_ne.2 hy
        have HY := Lib.hid hy
        clear hy
        go_wp2_with fail
        go_roundw
        case rel =>
          refine ⟨k + 1, by omega, by go_num, by first | rfl | trivial, fun j hj z hz => ?_⟩
          rcases Nat.lt_or_ge j k with h | h
          · exact HNOT.out j h z hz
          · obtain rfl : j = k := by omega
            rw [HK.out] at hz
            injection hz with hz
            rw [← hz]
            exact fun e => HY.out e.symm
        case measure => simp [intOf]; omega
    · obtain rfl : k = xs.length := by omega
      have HID : Hid (idxI xs x = -1) := by
        show _ = _
        unfold idxI
        rw [idx_none HNOT.out]
      go_wp2_with fail
      go_ret
      exact ⟨by rw [HID.out]; rfl, rfl⟩
end Go.Proofs.Ytpbaofabflgpkaa
