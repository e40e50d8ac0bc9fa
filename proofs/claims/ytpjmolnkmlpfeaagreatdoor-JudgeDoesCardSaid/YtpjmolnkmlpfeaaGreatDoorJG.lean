/- Joined texts: Frame, OpenNum, OpenRow. -/
import Derived.Test.YtpjmolnkmlpfeaaGreatDoorJA
import Derived.Test.YtpjmolnkmlpfeaaGreatDoorRows
import Derived.ProofKit
import Derived.OpenShut
import Derived.ShutString
import Derived.ChangeOld
import Derived.Deep.Slices
import Derived.Deep.Strs
import Derived.Deep.Fields
import Derived.SizedLaws
import Derived.Lib.SmallJoins
/- What every statement's frame wants: arguments opened to bytes and numbers, arguments read again. -/
set_option linter.unusedVariables false
set_option linter.unusedSimpArgs false
namespace Go.Proofs.YtpjmolnkmlpfeaaGreatDoor
set_option maxRecDepth 100000
open Go.ChangeShapes Go.WideShapes Go.ChangeAt Go.RowKit

theorem own : ownKnob Tryz.prog.godebug = none := by kernel_rfl
theorem laidOut : laidOutB Tryz.prog = true := by kernel_rfl

section
variable {H : Type} {enc : TypeId × Value → H} {P : Program} {W W' : World}
theorem trodAll_below (hl : laidOutB P = true) : ∀ (ts : List TypeId) (vs : List Value) (ds : List (DataW H)) (ps : List MemPlace), (ts.all fun t => P.readableRec t && decide (t < P.types.size)) = true →
  DataW.TrodAll enc P W 0 (fun _ => true) true ts vs ds ps → Below W.heap.size W W' → DataW.TrodAll enc P W' 0 (fun b => decide (b < W.heap.size)) true ts vs ds ps
 | [], [], [], _, _, h, _ => h
 | t :: ts, v :: vs, d :: ds, _, hr, h, hb => by
  simp only [List.all_cons, Bool.and_eq_true, decide_eq_true_eq] at hr
  obtain ⟨p, q, h1, h2, rfl⟩ := h
  refine ⟨p, q, Below.trod hl hr.1.1 hr.1.2 h1 hb ?_, trodAll_below hl ts vs ds q (by simpa using hr.2) h2 hb, rfl⟩
  obtain ⟨m, hm⟩ := h1
  exact DataW.trod_lt m _ _ _ hm
 | [], _ :: _, _, _, _, h, _ => by cases h
 | [], [], _ :: _, _, _, h, _ => by cases h
 | _ :: _, [], _, _, _, h, _ => by cases h
 | _ :: _, _ :: _, [], _, _, h, _ => by cases h

end
end Go.Proofs.YtpjmolnkmlpfeaaGreatDoor

/- Numbers: arguments opened. -/
namespace Go.Proofs.YtpjmolnkmlpfeaaGreatDoor
set_option maxRecDepth 100000
open Go.ChangeShapes Go.WideShapes Go.ChangeAt Go.RowKit Go.Deep
section
variable {H : Type} {enc : TypeId × Value → H} {P : Program} {W W' : World}

end
section
variable {H : Type} {enc : TypeId × Value → H} {P : Program} {W : World} {t : TypeId} {base : Nat} {spare : Nat → Bool} {held : Bool} {r : Reach} {b0 : Nat} {v : Value} {d : DataW H} {p : List MemPlace}
end
end Go.Proofs.YtpjmolnkmlpfeaaGreatDoor

/- Rows of structs, whatever their fields: arguments opened, with what they weigh. -/
namespace Go.Proofs.YtpjmolnkmlpfeaaGreatDoor
set_option maxRecDepth 100000
open Go.ChangeShapes Go.WideShapes Go.ChangeAt Go.RowKit Go.Deep
section
variable {H : Type} {enc : TypeId × Value → H} {P : Program} {W W' : World}

theorem mem_weights_all {e : TypeId} {ds : List (DataW H)} {d : DataW H} (hd : d ∈ ds) {y : Nat} (hy : y ∈ d.weights P e) : y ∈ DataW.weightsAll P e ds := by
 induction ds with
 | nil => cases hd
 | cons x ds ih =>
  unfold DataW.weightsAll
  rcases List.mem_cons.1 hd with rfl | hd
  ·exact List.mem_append_left _ hy
  ·exact List.mem_append_right _ (ih hd)
theorem open_bytes_at {t e : TypeId} {base : Nat} {spare : Nat → Bool} {held : Bool} {fuel : Nat} {cs : List Value} {x : DataW H × List MemPlace} (ht : P.underlying t = some (.slice e)) (he : P.underlying e = some (.int .u8)) (hc : P.cellsOf e = 1)
  (hf : DataW.trod enc P W base spare held fuel t cs = some x) :
  ∃ (A : Option Addr) (l : List UInt8) (c : Nat), cs = [.slice A l.length c] ∧ Bytes W A l ∧ l.length ≤ c ∧ c ≤ 9223372036854775807 ∧ (l.length = 0 ∨ ∃ el sp, x.1 = .slice el sp ∧ el.length = l.length) := by
 rcases open_ints ht he hc hf with ⟨rfl, rfl⟩ | ⟨a, len0, cap0, zs, rfl, _, hl, hm, hz, rfl, hcell, hwz⟩
 ·exact ⟨none, [], 0, rfl, Bytes.nil_ _ _, Nat.le_refl _, by omega, .inl rfl⟩
 ·have hlen : ((zs.take len0).map fun n => UInt8.ofNat n.toNat).length = len0 := by
   rw [List.length_map, List.length_take]
   have : zs.length = cap0 ∨ zs.length = len0 := by split at hz <;> omega
   omega
  refine ⟨some a, (zs.take len0).map fun n => UInt8.ofNat n.toNat, cap0, by rw [hlen], ?_, by rw [hlen]; exact hl, by simpa [maxLen] using hm, .inr ⟨_, _, rfl, ?_⟩⟩
  ·refine ⟨by simp, fun hn => ⟨a, rfl, ?_, fun j u hu => ?_⟩⟩
   ·rw [hlen] at hn
    have h0 := hcell 0 (by rw [hlen.symm, List.length_map, List.length_take] at hn; omega)
    have := World.block_lt_of_cell? W _ h0
    rwa [add_block] at this
   ·rw [List.getElem?_map, List.getElem?_map] at hu
    cases hj : (zs.take len0)[j]? with
    | none => rw [hj] at hu; cases hu
    | some n =>
     rw [hj] at hu
     simp only [Option.map_some, Option.some.injEq] at hu
     have hjz : zs[j]? = some n := by
      rw [List.getElem?_take] at hj
      split at hj
      ·exact hj
      ·cases hj
     have hjl := (List.getElem?_eq_some_iff.1 hjz).1
     have h1 := hcell j hjl
     rw [List.getD_eq_getElem?_getD, hjz] at h1
     have hw := hwz n (List.mem_of_getElem? hjz)
     have hb := bounds_u8 hw
     rw [h1, ← hu]
     unfold bv
     simp only [Option.getD_some, Option.some.injEq, Value.int.injEq, true_and, UInt8.toNat_ofNat']
     omega
  ·simp [lits]
/-- A struct's cells, each a field's. -/
theorem struct_cells {t : TypeId} {fs : Array Field} {base : Nat} {spare : Nat → Bool} {held : Bool} {fuel : Nat} {cs : List Value} {x : DataW H × List MemPlace} (hs : P.underlying t = some (.struct fs)) (hone : oneCellFields P fs = true) (hC : P.cellsOf t = fs.size)
  (h : DataW.trod enc P W base spare held fuel t cs = some x) :
  ∃ (xs : List (DataW H × List MemPlace)) (n : Nat), x.1 = .agg (xs.map (·.1)) ∧ cs.length = fs.size ∧ xs.length = fs.size ∧ ∀ (i : Nat) (f : Field) (c : Value) (y : DataW H × List MemPlace), fs[i]? = some f → cs[i]? = some c → xs[i]? = some y → DataW.trod enc P W base spare held n f.type [c] = some y := by
 obtain ⟨xs, n, _, rfl, hl, hlen, hf⟩ := DataW.trod_struct hs h
 refine ⟨xs, n, rfl, hl.trans hC, hlen, fun i f c y hfi hci hyi => ?_⟩
 obtain ⟨o, k⟩ := hone_of hone i f hfi
 have := hf i f hfi
 rw [o, k, hyi] at this
 rw [← this]
 congr 1
 obtain ⟨hi, rfl⟩ := List.getElem?_eq_some_iff.1 hci
 rw [List.drop_eq_getElem_cons hi]
 rfl
/-- Bytes that came in weigh what they are. -/
theorem bytes_weigh {t e : TypeId} {base : Nat} {spare : Nat → Bool} {held : Bool} {fuel : Nat} {cs : List Value} {x : DataW H × List MemPlace} (ht : P.underlying t = some (.slice e)) (he : P.underlying e = some (.int .u8)) (hc : P.cellsOf e = 1) (hB : P.bytesOf e = 1)
  (hf : DataW.trod enc P W base spare held fuel t cs = some x) (hsz : ∀ y ∈ x.1.weights P t, y ≤ reachBytes) :
  ∃ (A : Option Addr) (l : List UInt8) (c : Nat), cs = [.slice A l.length c] ∧ Bytes W A l ∧ l.length ≤ c ∧ c ≤ 9223372036854775807 ∧ l.length ≤ 140737488351232 := by
 obtain ⟨A, l, c, h1, h2, h3, h4, h5⟩ := open_bytes_at ht he hc hf
 refine ⟨A, l, c, h1, h2, h3, h4, ?_⟩
 rcases h5 with h5 | ⟨el, sp, hx, hel⟩
 ·omega
 ·have := hsz ((el.length + sp.length) * P.bytesOf e) (by rw [hx]; simp only [DataW.weights, ht]; exact List.mem_cons_self ..)
  rw [hB] at this
  simp only [reachBytes] at this
  omega
section
variable {t e : TypeId} {base : Nat} {spare : Nat → Bool} {held : Bool} {d : DataW H} {p : List MemPlace}
theorem slice_weighs {bytes : Nat} {A : Option Addr} {n c : Nat} (ht : P.underlying t = some (.slice e)) (hb : P.bytesOf e = bytes) (hsz : ∀ y ∈ d.weights P t, y ≤ reachBytes) (h : DataW.Trod enc P W base spare held t (.slice A n c) d p) : n * bytes ≤ 140737488351232 := by
 obtain ⟨fuel, hf⟩ := h
 rcases open_slice ht hf with ⟨hcs, _⟩ | ⟨a, len, cap, m, n', D, Pl, hcs, _, _, _, _, hx0, _⟩
 ·simp [Value.cells] at hcs
  obtain ⟨_, rfl, _⟩ := hcs
  simp
 ·simp [Value.cells] at hcs
  obtain ⟨_, rfl, _⟩ := hcs
  simp only [Prod.mk.injEq] at hx0
  obtain ⟨rfl, _⟩ := hx0
  have := hsz ((((List.range n).map D).length + ((List.range (m - n)).map fun j => D (n + j)).length) * P.bytesOf e) (by
   simp only [DataW.weights, ht]
   exact List.mem_cons_self ..)
  rw [hb] at this
  simp only [reachBytes, List.length_map, List.length_range] at this
  have h1 : n * bytes ≤ (n + (m - n)) * bytes := Nat.mul_le_mul_right _ (by omega)
  omega
end
/-- What a field weighs, the struct weighs. -/
theorem field_weigh {t : TypeId} {fs : Array Field} (hs : P.underlying t = some (.struct fs)) {d : DataW H} {xs : List (DataW H × List MemPlace)} (hd : d = .agg (xs.map (·.1))) (hsz : ∀ y ∈ d.weights P t, y ≤ reachBytes) {i : Nat} {f : Field} {x : DataW H × List MemPlace} (hf : fs[i]? = some f) (hx : xs[i]? = some x) :
  ∀ y ∈ x.1.weights P f.type, y ≤ reachBytes := by
 subst hd
 intro y hy
 refine hsz y ?_
 simp only [DataW.weights, hs]
 refine DataW.weights_mem_each (j := i) (t := f.type) (d := x.1) ?_ ?_ y hy
 ·rw [List.getElem?_map]
  have : fs.toList[i]? = some f := by rw [← hf]; simp
  rw [this]
  rfl
 ·rw [List.getElem?_map, hx]
  rfl
end
end Go.Proofs.YtpjmolnkmlpfeaaGreatDoor
