/- Joined texts: Frame. -/
import Derived.Test.YtgdbknbpnlpdnaaJA
import Derived.Test.YtgdbknbpnlpdnaaRows
import Derived.ProofKit
import Derived.OpenShut
import Derived.ShutString
import Derived.ChangeOld
/- What every statement's frame wants: arguments opened to bytes and numbers, arguments read again. -/
namespace Go.Proofs.Ytgdbknbpnlpdnaa
set_option linter.unusedVariables false
set_option linter.unusedSimpArgs false
open Go.ChangeShapes Go.WideShapes Go.ChangeAt Go.RowKit

theorem own : ownKnob Try.prog.godebug = none := by kernel_rfl
theorem laidOut : laidOutB Try.prog = true := by kernel_rfl

section
variable {H : Type} {enc : TypeId × Value → H} {P : Program} {W W' : World}
theorem trodAll_below (hl : laidOutB P = true) : ∀ (ts : List TypeId) (vs : List Value) (ds : List (DataW H)) (ps : List MemPlace), (ts.all fun t => P.readableRec t && decide (t < P.types.size)) = true →
    DataW.TrodAll enc P W 0 (fun _ => true) true ts vs ds ps → Below W.heap.size W W' → DataW.TrodAll enc P W' 0 (fun b => decide (b < W.heap.size)) true ts vs ds ps
  | [], [], [], _, _, h, _ => h
  | t :: ts, v :: vs, d :: ds, _, hr, h, hb => by
    simp only [List.all_cons, Bool.and_eq_true, decide_eq_true_eq] at hr
    obtain ⟨p, q, h1, h2, rfl⟩ := h
    refine ⟨p, q, Below.trod hl hr.1.1 hr.1.2 h1 hb ?_, trodAll_below hl ts vs ds q (by simpa using hr.2) h2 hb, rfl⟩
    obtain ⟨m, hm⟩ := h1
    exact DataW.trod_lt m _ _ _ hm
  | [], _ :: _, _, _, _, h, _ => by cases h
  | [], [], _ :: _, _, _, h, _ => by cases h
  | _ :: _, [], _, _, _, h, _ => by cases h
  | _ :: _, _ :: _, [], _, _, h, _ => by cases h

/-- A slice of bytes that came in. -/
theorem open_bytes {t e : TypeId} {base : Nat} {spare : Nat → Bool} {held : Bool} {r : Reach} {b0 : Nat} {v : Value} {d : DataW H} {p : List MemPlace} (ht : P.underlying t = some (.slice e)) (he : P.underlying e = some (.int .u8)) (hc : P.cellsOf e = 1)
    (hv : Value.okWide P W r b0 t v) (h : DataW.Trod enc P W base spare held t v d p) :
    ∃ (A : Option Addr) (l : List UInt8) (c : Nat), v = .slice A l.length c ∧ Bytes W A l ∧ l.length ≤ c ∧ c ≤ 9223372036854775807 := by
  obtain ⟨a0, len0, cap0, rfl⟩ := okWide_slice ht hv
  obtain ⟨fuel, hf⟩ := h
  rcases open_ints ht he hc hf with ⟨hcs, _⟩ | ⟨x, l, c, zs, hcs, _, hl, hm, hz, _, hcell, hwz⟩
  · simp [Value.cells] at hcs
    obtain ⟨rfl, rfl, rfl⟩ := hcs
    exact ⟨none, [], 0, rfl, Bytes.nil_ _ _, Nat.le_refl _, by omega⟩
  · simp [Value.cells] at hcs
    obtain ⟨rfl, rfl, rfl⟩ := hcs
    have hlen : ((zs.take len0).map fun n => UInt8.ofNat n.toNat).length = len0 := by
      rw [List.length_map, List.length_take]
      have : zs.length = cap0 ∨ zs.length = len0 := by
        first | (left; simpa using hz) | (right; simpa using hz) | (split at hz <;> omega)
      omega
    refine ⟨some x, (zs.take len0).map fun n => UInt8.ofNat n.toNat, cap0, by rw [hlen], ?_, by rw [hlen]; exact hl, by simpa [maxLen] using hm⟩
    refine ⟨by simp, fun hn => ⟨x, rfl, ?_, fun j u hu => ?_⟩⟩
    · rw [hlen] at hn
      have h0 := hcell 0 (by rw [hlen.symm, List.length_map, List.length_take] at hn; omega)
      have := World.block_lt_of_cell? W _ h0
      rwa [add_block] at this
    · rw [List.getElem?_map, List.getElem?_map] at hu
      cases hj : (zs.take len0)[j]? with
      | none => rw [hj] at hu; cases hu
      | some n =>
        rw [hj] at hu
        simp only [Option.map_some, Option.some.injEq] at hu
        have hjz : zs[j]? = some n := by
          rw [List.getElem?_take] at hj
          split at hj
          · exact hj
          · cases hj
        have hjl := (List.getElem?_eq_some_iff.1 hjz).1
        have h1 := hcell j hjl
        rw [List.getD_eq_getElem?_getD, hjz] at h1
        have hw := hwz n (List.mem_of_getElem? hjz)
        have hb := bounds_u8 hw
        rw [h1, ← hu]
        unfold bv
        simp only [Option.getD_some, Option.some.injEq, Value.int.injEq, true_and, UInt8.toNat_ofNat']
        omega
end
end Go.Proofs.Ytgdbknbpnlpdnaa
