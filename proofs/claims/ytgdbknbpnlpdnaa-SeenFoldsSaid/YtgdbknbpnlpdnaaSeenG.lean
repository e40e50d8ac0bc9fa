/- The reference's Last, Cut, May. -/
import Derived.Test.YtgdbknbpnlpdnaaSeenD
namespace Go.Proofs.Ytgdbknbpnlpdnaa
set_option linter.unusedVariables false
set_option linter.unusedSimpArgs false
open Go.RowKit

/-- A producer's last mark. -/
def lastM (ms : List Mk) (q : Int64) : Option Mk := ms.reverse.find? fun m => m.p.toInt == q.toInt
def Mk.zero : Mk := ⟨0, 0, 0⟩
def lastV (o : Option Mk) : Value := .tuple #[(o.getD Mk.zero).val, .bool o.isSome]
theorem lastM_hit {ms : List Mk} {q : Int64} {k : Nat} (hk : k < ms.length) (h : (ms[k].p.toInt == q.toInt) = true) (hno : ∀ j (_ : j < ms.length), k < j → (ms[j].p.toInt == q.toInt) = false) : lastM ms q = some ms[k] := by
  unfold lastM
  have e : ms = ms.take k ++ ms[k] :: ms.drop (k + 1) := by rw [← List.drop_eq_getElem_cons hk, List.take_append_drop]
  have e2 : ms.reverse = (ms.drop (k + 1)).reverse ++ ms[k] :: (ms.take k).reverse := by
    conv => lhs; rw [e]
    simp
  rw [e2, List.find?_append]
  have h1 : (ms.drop (k + 1)).reverse.find? (fun m => m.p.toInt == q.toInt) = none := by
    rw [List.find?_eq_none]
    intro x hx
    rw [List.mem_reverse] at hx
    obtain ⟨i, hi, rfl⟩ := List.getElem_of_mem hx
    rw [List.length_drop] at hi
    rw [List.getElem_drop]
    have := hno (k + 1 + i) (by omega) (by omega)
    simp [this]
  rw [h1, List.find?_cons_of_pos (by exact h)]
  rfl
theorem lastM_miss {ms : List Mk} {q : Int64} (hno : ∀ j (_ : j < ms.length), (ms[j].p.toInt == q.toInt) = false) : lastM ms q = none := by
  unfold lastM
  rw [List.find?_eq_none]
  intro x hx
  rw [List.mem_reverse] at hx
  obtain ⟨i, hi, rfl⟩ := List.getElem_of_mem hx
  simp [hno i hi]

set_option maxHeartbeats 400000 in
theorem reflast_any (A : Option Addr) (c : Nat) (ms : List Mk) (q : Int64) (w : World) (hA : Marks w A ms) (hn : ms.length ≤ 1000000) :
    Calls Try.prog 23 #[.slice A ms.length c, .int .i64 q.toInt] w fun e w' => e = .returned (lastV (lastM ms q)) ∧ Below w.heap.size w w' := by
  obtain ⟨r, hr⟩ : ∃ r, r = lastM ms q := ⟨_, rfl⟩
  rw [← hr]
  have HR := Lib.hid hr
  clear hr

  go_enter Try.func23, Try.ntmps23
  go_wp2_with fail
  go_loopw [6] (fun i wr => ∃ k : Nat, k ≤ ms.length ∧ i = .int .i64 ((k : Int) - 1) ∧ Blk wr w.heap.size 38 #[.int .i64 0, .int .u64 0, .int .u64 0] ∧ Below w.heap.size w wr ∧ ∀ j (_ : j < ms.length), k ≤ j → (ms[j].p.toInt == q.toInt) = false) (fun i _ => (intOf i + 1).toNat)
  case atStart => exact ⟨ms.length, by omega, rfl, Blk.new _ _ _, below_new _ _, fun j hj hk => absurd hj (by omega)⟩
  case round =>
    obtain ⟨k, hk, rfl, hbk, hb, hno⟩ := hrel
    have HNO := Lib.hid hno
    clear hno
    by_cases hlt : 1 ≤ k
    · obtain ⟨j, rfl⟩ : ∃ j, k = j + 1 := ⟨k - 1, by omega⟩
      have hj : j < ms.length := by omega
      obtain ⟨b, o, rfl, had, c0, c1, c2⟩ := hA.at_ hj
      replace c0 := (hb.cell (p := ⟨b, o + j * 3, none⟩) had).trans c0
      replace c1 := (hb.cell (p := ⟨b, o + j * 3 + 1, none⟩) had).trans c1
      replace c2 := (hb.cell (p := ⟨b, o + j * 3 + 2, none⟩) had).trans c2
      have HM : Hid ((ms[j].p.toInt == q.toInt) = true → lastM ms q = some ms[j]) := fun h => lastM_hit hj h fun i hi hji => HNO.out i hi (by omega)
      have HN : Hid ((ms[j].p.toInt == q.toInt) = false → ∀ i (_ : i < ms.length), j ≤ i → (ms[i].p.toInt == q.toInt) = false) := fun h i hi hji => by
        by_cases e : i = j
        · subst e; exact h
        · exact HNO.out i hi (by omega)
      generalize ms[j] = x at c0 c1 c2 HM HN
      rw [show ((j + 1 : Nat) : Int) - 1 = (j : Int) from by omega]
      have d0 : wr.cell? ⟨w.heap.size, 0, none⟩ = some (.int .i64 0) := hbk.cell 0
      have d1 : wr.cell? ⟨w.heap.size, 1, none⟩ = some (.int .u64 0) := hbk.cell 1
      have d2 : wr.cell? ⟨w.heap.size, 2, none⟩ = some (.int .u64 0) := hbk.cell 2
      have f0 := hbk.free 0
      have f1 := hbk.free 1
      have f2 := hbk.free 2
      cases hx : x.p.toInt == q.toInt with
      | true =>
        have HE := Lib.hid (HM.out hx)
        clear HM HN
        go_wp2_with fail
        rw [HR.out, HE.out]
        refine bodyPost_ret (v := lastV (some x)) ?_ rfl ⟨rfl, ((hb.setCell (p := ⟨w.heap.size, 0, none⟩) (Nat.le_refl _) _).setCell (p := ⟨w.heap.size, 1, none⟩) (Nat.le_refl _) _).setCell (p := ⟨w.heap.size, 2, none⟩) (Nat.le_refl _) _⟩
        simp [results, Try.results23, go_sem, lastV, Mk.val, d0, d1, d2]
      | false =>
        have HE := Lib.hid (HN.out hx)
        clear HM HN
        go_wp2_with fail
        go_roundw
        case rel => exact ⟨j, by omega, by simp, hbk, hb, HE.out⟩
        case measure => simp [intOf]; try omega
    · obtain rfl : k = 0 := by omega
      have HE := Lib.hid (lastM_miss fun j hj => HNO.out j hj (by omega))
      have d0 : wr.cell? ⟨w.heap.size, 0, none⟩ = some (.int .i64 0) := hbk.cell 0
      have d1 : wr.cell? ⟨w.heap.size, 1, none⟩ = some (.int .u64 0) := hbk.cell 1
      have d2 : wr.cell? ⟨w.heap.size, 2, none⟩ = some (.int .u64 0) := hbk.cell 2
      have f0 := hbk.free 0
      have f1 := hbk.free 1
      have f2 := hbk.free 2
      go_wp2_with fail
      rw [HR.out, HE.out]
      refine bodyPost_ret (v := lastV none) ?_ rfl ⟨rfl, ((hb.setCell (p := ⟨w.heap.size, 0, none⟩) (Nat.le_refl _) _).setCell (p := ⟨w.heap.size, 1, none⟩) (Nat.le_refl _) _).setCell (p := ⟨w.heap.size, 2, none⟩) (Nat.le_refl _) _⟩
      simp [results, Try.results23, go_sem, lastV, Mk.val, Mk.zero, d0, d1, d2]
end Go.Proofs.Ytgdbknbpnlpdnaa
