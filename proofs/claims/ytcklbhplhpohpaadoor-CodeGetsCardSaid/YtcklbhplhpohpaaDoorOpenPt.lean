/- Rows of parts, a part: arguments opened. -/
import Derived.Test.YtcklbhplhpohpaaDoorPart
import Derived.Test.YtcklbhplhpohpaaDoorOpenNum
import Derived.Deep.Slices
import Derived.Deep.Strs
import Derived.Deep.Fields
import Derived.SizedLaws
import Derived.Lib.SmallJoins
namespace Go.Proofs.YtcklbhplhpohpaaDoor
open Go.ChangeShapes Go.WideShapes Go.ChangeAt Go.RowKit Go.Deep
section
variable {H : Type} {enc : TypeId × Value → H} {P : Program} {W W' : World}

theorem open_bytes_at {t e : TypeId} {base : Nat} {spare : Nat → Bool} {held : Bool} {fuel : Nat} {cs : List Value} {x : DataW H × List MemPlace} (ht : P.underlying t = some (.slice e)) (he : P.underlying e = some (.int .u8)) (hc : P.cellsOf e = 1)
    (hf : DataW.trod enc P W base spare held fuel t cs = some x) :
    ∃ (A : Option Addr) (l : List UInt8) (c : Nat), cs = [.slice A l.length c] ∧ Bytes W A l ∧ l.length ≤ c ∧ c ≤ 9223372036854775807 ∧ (l.length = 0 ∨ ∃ el sp, x.1 = .slice el sp ∧ el.length = l.length) := by
  rcases open_ints ht he hc hf with ⟨rfl, rfl⟩ | ⟨a, len0, cap0, zs, rfl, _, hl, hm, hz, rfl, hcell, hwz⟩
  · exact ⟨none, [], 0, rfl, Bytes.nil_ _ _, Nat.le_refl _, by omega, .inl rfl⟩
  · have hlen : ((zs.take len0).map fun n => UInt8.ofNat n.toNat).length = len0 := by
      rw [List.length_map, List.length_take]
      have : zs.length = cap0 ∨ zs.length = len0 := by split at hz <;> omega
      omega
    refine ⟨some a, (zs.take len0).map fun n => UInt8.ofNat n.toNat, cap0, by rw [hlen], ?_, by rw [hlen]; exact hl, by simpa [maxLen] using hm, .inr ⟨_, _, rfl, ?_⟩⟩
    · refine ⟨by simp, fun hn => ⟨a, rfl, ?_, fun j u hu => ?_⟩⟩
      · rw [hlen] at hn
        have h0 := hcell 0 (by rw [hlen.symm, List.length_map, List.length_take] at hn; omega)
        have := World.block_lt_of_cell? W _ h0
        rwa [add_block] at this
      · rw [List.getElem?_map, List.getElem?_map] at hu
        cases hj : (zs.take len0)[j]? with
        | none => rw [hj] at hu; cases hu
        | some n =>
          rw [hj] at hu
          simp only [Option.map_some, Option.some.injEq] at hu
          have hjz : zs[j]? = some n := by
            rw [List.getElem?_take] at hj
            split at hj
            · exact hj
            · cases hj
          have hjl := (List.getElem?_eq_some_iff.1 hjz).1
          have h1 := hcell j hjl
          rw [List.getD_eq_getElem?_getD, hjz] at h1
          have hw := hwz n (List.mem_of_getElem? hjz)
          have hb := bounds_u8 hw
          rw [h1, ← hu]
          unfold bv
          simp only [Option.getD_some, Option.some.injEq, Value.int.injEq, true_and, UInt8.toNat_ofNat']
          omega
    · simp [lits]
/-- A slice whose elements have K cells each, spelled by a family. -/
theorem open_rows {α : Type} {K : Nat} {t e : TypeId} {base : Nat} {spare : Nat → Bool} {held : Bool} {r : Reach} {b0 : Nat} {v : Value} {d : DataW H} {p : List MemPlace} (f : α → List Value) (ok : α → Prop) (hK : 0 < K) (hf3 : ∀ x, (f x).length = K) (ht : P.underlying t = some (.slice e)) (hC : P.cellsOf e = K)
    (hel : ∀ (n : Nat) (cs : List Value) (x : DataW H × List MemPlace), DataW.trod enc P W base spare held n e cs = some x → ∃ a : α, cs = f a ∧ ok a) (dflt : α)
    (hv : Value.okWide P W r b0 t v) (h : DataW.Trod enc P W base spare held t v d p) :
    ∃ (A : Option Addr) (l : List α) (c : Nat), v = .slice A l.length c ∧ Reads W K A l.length (l.flatMap f) ∧ l.length ≤ c ∧ c ≤ 9223372036854775807 ∧ ∀ a ∈ l, ok a := by
  obtain ⟨a0, len0, cap0, rfl⟩ := okWide_slice ht hv
  obtain ⟨fuel, hf⟩ := h
  rcases open_slice ht hf with ⟨hcs, _⟩ | ⟨a, len, cap, m, n, D, Pl, hcs, _, hl, hm, hmm, _, hx⟩
  · simp [Value.cells] at hcs
    obtain ⟨rfl, rfl, rfl⟩ := hcs
    exact ⟨none, [], 0, rfl, Reads.nil_ _ _ _, Nat.le_refl _, by omega, fun a h => by cases h⟩
  · simp [Value.cells] at hcs
    obtain ⟨rfl, rfl, rfl⟩ := hcs
    have hlm : len0 ≤ m := by rw [hmm]; split <;> omega
    have each : ∀ i, ∃ x : α, i < len0 → ok x ∧ ∀ j, j < K → W.cell? (a.add (i * K + j)) = (f x)[j]? := by
      intro i
      by_cases hi : i < len0
      · obtain ⟨cs', h1, h2⟩ := hx i (by omega)
        rw [hC] at h1
        obtain ⟨_, hlen, hcell⟩ := World.cells?_some h1
        obtain ⟨x, rfl, hok⟩ := hel _ _ _ h2
        refine ⟨x, fun _ => ⟨hok, fun j hj => ?_⟩⟩
        have := hcell j hj
        rw [add_add'] at this
        exact this
      · exact ⟨dflt, fun h => absurd h hi⟩
    obtain ⟨F, hF⟩ : ∃ F : Nat → α, ∀ i, i < len0 → ok (F i) ∧ ∀ j, j < K → W.cell? (a.add (i * K + j)) = (f (F i))[j]? := ⟨fun i => Classical.choose (each i), fun i => Classical.choose_spec (each i)⟩
    have hll : ((List.range len0).map F).length = len0 := by simp
    refine ⟨some a, (List.range len0).map F, cap0, by rw [hll], ⟨by rw [rows_len hf3, hll], fun h0 => ⟨a, rfl, ?_, fun j u hu => ?_⟩⟩, by rw [hll]; exact hl, by simpa [maxLen] using hm, fun x hx => ?_⟩
    · rw [hll] at h0
      have h1 := (hF 0 h0).2 0 hK
      rw [List.getElem?_eq_getElem (by rw [hf3]; omega)] at h1
      have := World.block_lt_of_cell? W _ h1
      rwa [add_block] at this
    · have hj : j < len0 * K := by
        have := (List.getElem?_eq_some_iff.1 hu).1
        rw [rows_len hf3, hll] at this
        exact this
      have hi : j / K < len0 := Nat.div_lt_of_lt_mul (by rw [Nat.mul_comm]; exact hj)
      have hmod : j % K < K := Nat.mod_lt _ hK
      have hjK : j / K * K + j % K = j := by rw [Nat.mul_comm]; exact Nat.div_add_mod j K
      have h1 := (hF (j / K) hi).2 (j % K) hmod
      rw [hjK] at h1
      rw [h1, ← hu]
      have h2 := rows_at hf3 ((List.range len0).map F) (j / K) (j % K) (by rw [hll]; exact hi) hmod
      rw [hjK] at h2
      rw [h2]
      simp
    · obtain ⟨i, hi, rfl⟩ := List.mem_map.1 hx
      exact (hF i (List.mem_range.1 hi)).1

/-- Four cells, each a field's. -/
theorem four_cells {e : TypeId} {f0 f1 f2 f3 : Field} {base : Nat} {spare : Nat → Bool} {held : Bool} {fuel : Nat} {cs : List Value} {x : DataW H × List MemPlace} (hs : P.underlying e = some (.struct #[f0, f1, f2, f3])) (hone : oneCellFields P #[f0, f1, f2, f3] = true) (hC : P.cellsOf e = 4)
    (h : DataW.trod enc P W base spare held fuel e cs = some x) :
    ∃ (c0 c1 c2 c3 : Value) (y0 y1 y2 y3 : DataW H × List MemPlace) (n : Nat), cs = [c0, c1, c2, c3] ∧ DataW.trod enc P W base spare held n f0.type [c0] = some y0 ∧ DataW.trod enc P W base spare held n f1.type [c1] = some y1 ∧ DataW.trod enc P W base spare held n f2.type [c2] = some y2 ∧ DataW.trod enc P W base spare held n f3.type [c3] = some y3 := by
  obtain ⟨y0, y1, y2, y3, n, _, hlen, t0, t1, t2, t3⟩ := Go.Joins.trod_struct4 hs h
  obtain ⟨o0, k0⟩ := hone_of hone 0 f0 rfl
  obtain ⟨o1, k1⟩ := hone_of hone 1 f1 rfl
  obtain ⟨o2, k2⟩ := hone_of hone 2 f2 rfl
  obtain ⟨o3, k3⟩ := hone_of hone 3 f3 rfl
  rw [hC] at hlen
  match cs, hlen with
  | [c0, c1, c2, c3], _ =>
    rw [o0, k0] at t0
    rw [o1, k1] at t1
    rw [o2, k2] at t2
    rw [o3, k3] at t3
    exact ⟨c0, c1, c2, c3, y0, y1, y2, y3, n, rfl, t0, t1, t2, t3⟩

variable {t e : TypeId} {f0 f1 f2 f3 : Field} {base : Nat} {spare : Nat → Bool} {held : Bool} {r : Reach} {b0 : Nat} {v : Value} {d : DataW H} {p : List MemPlace}
theorem open_pts {e2 : TypeId} (ht : P.underlying t = some (.slice e)) (hs : P.underlying e = some (.struct #[f0, f1, f2, f3])) (hone : oneCellFields P #[f0, f1, f2, f3] = true) (hC : P.cellsOf e = 4) (k0 : P.underlying f0.type = some (.int .i64)) (k1 : P.underlying f1.type = some (.int .i64)) (k2 : P.underlying f2.type = some (.int .u64)) (k3 : P.underlying f3.type = some (.slice e2)) (k4 : P.underlying e2 = some (.int .u8)) (hC2 : P.cellsOf e2 = 1)
    (hv : Value.okWide P W r b0 t v) (h : DataW.Trod enc P W base spare held t v d p) :
    ∃ (A : Option Addr) (l : List Pt) (c : Nat), v = .slice A l.length c ∧ Pts W A l ∧ l.length ≤ c ∧ c ≤ 9223372036854775807 := by
  obtain ⟨A, l, c, h1, h2, h3, h4, h5⟩ := open_rows (K := 4) Pt.cells (Pt.ok W) (by decide) (fun _ => rfl) ht hC (fun n cs x hx => by
    obtain ⟨c0, c1, c2, c3, y0, y1, y2, y3, n', rfl, t0, t1, t2, t3⟩ := four_cells hs hone hC hx
    obtain ⟨z0, e0, _, w0⟩ := DataW.trod_int k0 t0
    obtain ⟨z1, e1, _, w1⟩ := DataW.trod_int k1 t1
    obtain ⟨z2, e2, _, w2⟩ := DataW.trod_int k2 t2
    obtain ⟨x0, rfl⟩ := i64_of w0
    obtain ⟨x1, rfl⟩ := i64_of w1
    obtain ⟨x2, rfl⟩ := u64_of w2
    obtain ⟨A, l, c, e3, hB, hlc, hc, _⟩ := open_bytes_at k3 k4 hC2 t3
    simp only [List.cons.injEq, and_true] at e0 e1 e2 e3
    exact ⟨⟨x0, x1, x2, A, l, c⟩, by rw [e0, e1, e2, e3]; rfl, hB, hlc, hc⟩) ⟨0, 0, 0, none, [], 0⟩ hv h
  exact ⟨A, l, c, h1, ⟨h2, h5⟩, h3, h4⟩
theorem open_pt {e2 : TypeId} (hs : P.underlying t = some (.struct #[f0, f1, f2, f3])) (hone : oneCellFields P #[f0, f1, f2, f3] = true) (hC : P.cellsOf t = 4) (k0 : P.underlying f0.type = some (.int .i64)) (k1 : P.underlying f1.type = some (.int .i64)) (k2 : P.underlying f2.type = some (.int .u64)) (k3 : P.underlying f3.type = some (.slice e2)) (k4 : P.underlying e2 = some (.int .u8)) (hC2 : P.cellsOf e2 = 1)
    (hv : Value.okWide P W r b0 t v) (h : DataW.Trod enc P W base spare held t v d p) : ∃ x : Pt, v = x.val ∧ x.ok W := by
  obtain ⟨v0, v1, v2, v3, y0, y1, y2, y3, n, rfl, _, _, t0, t1, t2, t3⟩ := Go.Joins.open_agg4 hs hone hC hv h
  obtain ⟨z0, e0, _, w0⟩ := DataW.trod_int k0 t0
  obtain ⟨z1, e1, _, w1⟩ := DataW.trod_int k1 t1
  obtain ⟨z2, e2, _, w2⟩ := DataW.trod_int k2 t2
  obtain ⟨x0, rfl⟩ := i64_of w0
  obtain ⟨x1, rfl⟩ := i64_of w1
  obtain ⟨x2, rfl⟩ := u64_of w2
  obtain ⟨A, l, c, e3, hB, hlc, hc, _⟩ := open_bytes_at k3 k4 hC2 t3
  simp only [List.cons.injEq, and_true] at e0 e1 e2 e3
  exact ⟨⟨x0, x1, x2, A, l, c⟩, by rw [e0, e1, e2, e3]; rfl, hB, hlc, hc⟩
end
end Go.Proofs.YtcklbhplhpohpaaDoor
