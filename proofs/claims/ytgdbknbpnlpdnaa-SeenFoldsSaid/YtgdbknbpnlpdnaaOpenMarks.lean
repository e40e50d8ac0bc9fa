/- Rows of marks, rows of entries, a mark, a number: arguments opened. -/
import Derived.Test.YtgdbknbpnlpdnaaMark
import Derived.Test.YtgdbknbpnlpdnaaJG
import Derived.Deep.Slices
import Derived.Deep.Strs
import Derived.Deep.Fields
import Derived.SizedLaws
import Derived.Lib.SmallJoins
namespace Go.Proofs.Ytgdbknbpnlpdnaa
set_option linter.unusedVariables false
set_option linter.unusedSimpArgs false
open Go.ChangeShapes Go.WideShapes Go.ChangeAt Go.RowKit Go.Deep
section
variable {H : Type} {enc : TypeId × Value → H} {P : Program} {W W' : World}

theorem i64_of {z : Int} (h : (Lit.int .i64 z).wf = true) : ∃ x : Int64, x.toInt = z := by
  have hb := bounds_i64 h
  exact ⟨Int64.ofInt z, Int64.toInt_ofInt_of_le (by omega) (by omega)⟩
theorem u64_of {z : Int} (h : (Lit.int .u64 z).wf = true) : ∃ x : UInt64, (x.toNat : Int) = z := by
  have hb : 0 ≤ z ∧ z ≤ 18446744073709551615 := by
    simp [Lit.wf, IntKind.min, IntKind.max, IntKind.signed, IntKind.bits] at h
    omega
  refine ⟨UInt64.ofNat z.toNat, ?_⟩
  rw [UInt64.toNat_ofNat', Nat.mod_eq_of_lt (by omega)]
  omega
/-- Three cells, each a field's. -/
theorem three_cells {e : TypeId} {f0 f1 f2 : Field} {base : Nat} {spare : Nat → Bool} {held : Bool} {fuel : Nat} {cs : List Value} {x : DataW H × List MemPlace} (hs : P.underlying e = some (.struct #[f0, f1, f2])) (hone : oneCellFields P #[f0, f1, f2] = true) (hC : P.cellsOf e = 3)
    (h : DataW.trod enc P W base spare held fuel e cs = some x) :
    ∃ (c0 c1 c2 : Value) (y0 y1 y2 : DataW H × List MemPlace) (n : Nat), cs = [c0, c1, c2] ∧ DataW.trod enc P W base spare held n f0.type [c0] = some y0 ∧ DataW.trod enc P W base spare held n f1.type [c1] = some y1 ∧ DataW.trod enc P W base spare held n f2.type [c2] = some y2 := by
  obtain ⟨y0, y1, y2, n, _, hlen, t0, t1, t2⟩ := trod_struct3 hs h
  obtain ⟨o0, k0⟩ := hone_of hone 0 f0 rfl
  obtain ⟨o1, k1⟩ := hone_of hone 1 f1 rfl
  obtain ⟨o2, k2⟩ := hone_of hone 2 f2 rfl
  rw [hC] at hlen
  match cs, hlen with
  | [c0, c1, c2], _ =>
    rw [o0, k0] at t0
    rw [o1, k1] at t1
    rw [o2, k2] at t2
    exact ⟨c0, c1, c2, y0, y1, y2, n, rfl, t0, t1, t2⟩
/-- A slice whose elements have three cells each, spelled by a family. -/
theorem open_threes {α : Type} {t e : TypeId} {base : Nat} {spare : Nat → Bool} {held : Bool} {r : Reach} {b0 : Nat} {v : Value} {d : DataW H} {p : List MemPlace} (f : α → List Value) (ok : α → Prop) (hf3 : ∀ x, (f x).length = 3) (ht : P.underlying t = some (.slice e)) (hC : P.cellsOf e = 3)
    (hel : ∀ (n : Nat) (cs : List Value) (x : DataW H × List MemPlace), DataW.trod enc P W base spare held n e cs = some x → ∃ a : α, cs = f a ∧ ok a) (dflt : α)
    (hv : Value.okWide P W r b0 t v) (h : DataW.Trod enc P W base spare held t v d p) :
    ∃ (A : Option Addr) (l : List α) (c : Nat), v = .slice A l.length c ∧ Reads W 3 A l.length (l.flatMap f) ∧ l.length ≤ c ∧ c ≤ 9223372036854775807 ∧ ∀ a ∈ l, ok a := by
  obtain ⟨a0, len0, cap0, rfl⟩ := okWide_slice ht hv
  obtain ⟨fuel, hf⟩ := h
  rcases open_slice ht hf with ⟨hcs, _⟩ | ⟨a, len, cap, m, n, D, Pl, hcs, _, hl, hm, hmm, _, hx⟩
  · simp [Value.cells] at hcs
    obtain ⟨rfl, rfl, rfl⟩ := hcs
    exact ⟨none, [], 0, rfl, Reads.nil_ _ _ _, Nat.le_refl _, by omega, fun a h => by cases h⟩
  · simp [Value.cells] at hcs
    obtain ⟨rfl, rfl, rfl⟩ := hcs
    have hlm : len0 ≤ m := by rw [hmm]; split <;> omega
    have each : ∀ i, ∃ x : α, i < len0 → ok x ∧ ∀ j, j < 3 → W.cell? (a.add (i * 3 + j)) = (f x)[j]? := by
      intro i
      by_cases hi : i < len0
      · obtain ⟨cs', h1, h2⟩ := hx i (by omega)
        rw [hC] at h1
        obtain ⟨_, hlen, hcell⟩ := World.cells?_some h1
        obtain ⟨x, rfl, hok⟩ := hel _ _ _ h2
        refine ⟨x, fun _ => ⟨hok, fun j hj => ?_⟩⟩
        have := hcell j hj
        rw [add_add'] at this
        exact this
      · exact ⟨dflt, fun h => absurd h hi⟩
    obtain ⟨F, hF⟩ : ∃ F : Nat → α, ∀ i, i < len0 → ok (F i) ∧ ∀ j, j < 3 → W.cell? (a.add (i * 3 + j)) = (f (F i))[j]? := ⟨fun i => Classical.choose (each i), fun i => Classical.choose_spec (each i)⟩
    have hll : ((List.range len0).map F).length = len0 := by simp
    refine ⟨some a, (List.range len0).map F, cap0, by rw [hll], ⟨by rw [row3_len hf3, hll], fun h0 => ⟨a, rfl, ?_, fun j u hu => ?_⟩⟩, by rw [hll]; exact hl, by simpa [maxLen] using hm, fun x hx => ?_⟩
    · rw [hll] at h0
      have h1 := (hF 0 h0).2 0 (by omega)
      rw [List.getElem?_eq_getElem (by rw [hf3]; omega)] at h1
      have := World.block_lt_of_cell? W _ h1
      rwa [add_block] at this
    · have hj : j < len0 * 3 := by
        have := (List.getElem?_eq_some_iff.1 hu).1
        rw [row3_len hf3, hll] at this
        exact this
      have hi : j / 3 < len0 := by omega
      have h1 := (hF (j / 3) hi).2 (j % 3) (by omega)
      rw [show j / 3 * 3 + j % 3 = j by omega] at h1
      rw [h1, ← hu]
      have h2 := row3_at hf3 ((List.range len0).map F) (j / 3) (j % 3) (by rw [hll]; exact hi) (by omega)
      rw [show j / 3 * 3 + j % 3 = j by omega] at h2
      rw [h2]
      simp
    · obtain ⟨i, hi, rfl⟩ := List.mem_map.1 hx
      exact (hF i (List.mem_range.1 hi)).1

variable {t e : TypeId} {f0 f1 f2 : Field} {base : Nat} {spare : Nat → Bool} {held : Bool} {r : Reach} {b0 : Nat} {v : Value} {d : DataW H} {p : List MemPlace}
theorem open_marks (ht : P.underlying t = some (.slice e)) (hs : P.underlying e = some (.struct #[f0, f1, f2])) (hone : oneCellFields P #[f0, f1, f2] = true) (hC : P.cellsOf e = 3) (k0 : P.underlying f0.type = some (.int .i64)) (k1 : P.underlying f1.type = some (.int .u64)) (k2 : P.underlying f2.type = some (.int .u64))
    (hv : Value.okWide P W r b0 t v) (h : DataW.Trod enc P W base spare held t v d p) :
    ∃ (A : Option Addr) (ms : List Mk) (c : Nat), v = .slice A ms.length c ∧ Marks W A ms ∧ ms.length ≤ c ∧ c ≤ 9223372036854775807 := by
  obtain ⟨A, l, c, h1, h2, h3, h4, _⟩ := open_threes Mk.cells (fun _ => True) (fun _ => rfl) ht hC (fun n cs x hx => by
    obtain ⟨c0, c1, c2, y0, y1, y2, n', rfl, t0, t1, t2⟩ := three_cells hs hone hC hx
    obtain ⟨z0, e0, _, w0⟩ := DataW.trod_int k0 t0
    obtain ⟨z1, e1, _, w1⟩ := DataW.trod_int k1 t1
    obtain ⟨z2, e2, _, w2⟩ := DataW.trod_int k2 t2
    obtain ⟨x0, rfl⟩ := i64_of w0
    obtain ⟨x1, rfl⟩ := u64_of w1
    obtain ⟨x2, rfl⟩ := u64_of w2
    simp only [List.cons.injEq, and_true] at e0 e1 e2
    exact ⟨⟨x0, x1, x2⟩, by rw [e0, e1, e2]; rfl, trivial⟩) ⟨0, 0, 0⟩ hv h
  exact ⟨A, l, c, h1, h2, h3, h4⟩
theorem open_entries {e2 : TypeId} (ht : P.underlying t = some (.slice e)) (hs : P.underlying e = some (.struct #[f0, f1, f2])) (hone : oneCellFields P #[f0, f1, f2] = true) (hC : P.cellsOf e = 3) (k0 : P.underlying f0.type = some (.int .i64)) (k1 : P.underlying f1.type = some (.int .u64)) (k2 : P.underlying f2.type = some (.slice e2))
    (hv : Value.okWide P W r b0 t v) (h : DataW.Trod enc P W base spare held t v d p) :
    ∃ (A : Option Addr) (es : List En) (c : Nat), v = .slice A es.length c ∧ Entries W A es ∧ es.length ≤ c ∧ c ≤ 9223372036854775807 ∧ ∀ x ∈ es, x.n ≤ 9223372036854775807 := by
  obtain ⟨A, l, c, h1, h2, h3, h4, h5⟩ := open_threes En.cells (fun x => x.n ≤ 9223372036854775807) (fun _ => rfl) ht hC (fun n cs x hx => by
    obtain ⟨c0, c1, c2, y0, y1, y2, n', rfl, t0, t1, t2⟩ := three_cells hs hone hC hx
    obtain ⟨z0, e0, _, w0⟩ := DataW.trod_int k0 t0
    obtain ⟨z1, e1, _, w1⟩ := DataW.trod_int k1 t1
    obtain ⟨x0, rfl⟩ := i64_of w0
    obtain ⟨x1, rfl⟩ := u64_of w1
    simp only [List.cons.injEq, and_true] at e0 e1
    rcases open_slice k2 t2 with ⟨e3, _⟩ | ⟨a, len, cap, m, n, D, Pl, e3, _, hl, hm, _⟩
    · simp only [List.cons.injEq, and_true] at e3
      exact ⟨⟨x0, x1, none, 0, 0⟩, by rw [e0, e1, e3]; rfl, Nat.zero_le _⟩
    · simp only [List.cons.injEq, and_true] at e3
      exact ⟨⟨x0, x1, some a, len, cap⟩, by rw [e0, e1, e3]; rfl, by simp only [maxLen] at hm; show len ≤ _; omega⟩) ⟨0, 0, none, 0, 0⟩ hv h
  exact ⟨A, l, c, h1, h2, h3, h4, h5⟩
theorem slice_sized {bytes : Nat} {A : Option Addr} {n c : Nat} (ht : P.underlying t = some (.slice e)) (hb : P.bytesOf e = bytes) (hsz : ∀ y ∈ d.weights P t, y ≤ reachBytes) (h : DataW.Trod enc P W base spare held t (.slice A n c) d p) : n * bytes ≤ 140737488351232 := by
  obtain ⟨fuel, hf⟩ := h
  rcases open_slice ht hf with ⟨hcs, _⟩ | ⟨a, len, cap, m, n', D, Pl, hcs, _, _, _, _, hx0, _⟩
  · simp [Value.cells] at hcs
    obtain ⟨_, rfl, _⟩ := hcs
    simp
  · simp [Value.cells] at hcs
    obtain ⟨_, rfl, _⟩ := hcs
    simp only [Prod.mk.injEq] at hx0
    obtain ⟨rfl, _⟩ := hx0
    have := hsz ((((List.range n).map D).length + ((List.range (m - n)).map fun j => D (n + j)).length) * P.bytesOf e) (by
      simp only [DataW.weights, ht]
      exact List.mem_cons_self ..)
    rw [hb] at this
    simp only [reachBytes, List.length_map, List.length_range] at this
    have h1 : n * bytes ≤ (n + (m - n)) * bytes := Nat.mul_le_mul_right _ (by omega)
    omega
theorem open_mark (hs : P.underlying t = some (.struct #[f0, f1, f2])) (hone : oneCellFields P #[f0, f1, f2] = true) (hC : P.cellsOf t = 3) (k0 : P.underlying f0.type = some (.int .i64)) (k1 : P.underlying f1.type = some (.int .u64)) (k2 : P.underlying f2.type = some (.int .u64))
    (hv : Value.okWide P W r b0 t v) (h : DataW.Trod enc P W base spare held t v d p) : ∃ m : Mk, v = m.val := by
  obtain ⟨v0, v1, v2, y0, y1, y2, n, rfl, _, _, t0, t1, t2⟩ := Go.Joins.open_agg3 hs hone hC hv h
  obtain ⟨z0, e0, _, w0⟩ := DataW.trod_int k0 t0
  obtain ⟨z1, e1, _, w1⟩ := DataW.trod_int k1 t1
  obtain ⟨z2, e2, _, w2⟩ := DataW.trod_int k2 t2
  obtain ⟨x0, rfl⟩ := i64_of w0
  obtain ⟨x1, rfl⟩ := u64_of w1
  obtain ⟨x2, rfl⟩ := u64_of w2
  simp only [List.cons.injEq, and_true] at e0 e1 e2
  exact ⟨⟨x0, x1, x2⟩, by rw [e0, e1, e2]; rfl⟩
theorem open_u64 (ht : P.underlying t = some (.int .u64)) (hv : Value.okWide P W r b0 t v) (h : DataW.Trod enc P W base spare held t v d p) : ∃ x : UInt64, v = .int .u64 (x.toNat : Int) := by
  obtain ⟨n, rfl, _, _, w⟩ := open_int ht hv h
  obtain ⟨x, rfl⟩ := u64_of w
  exact ⟨x, rfl⟩
theorem open_i64 (ht : P.underlying t = some (.int .i64)) (hv : Value.okWide P W r b0 t v) (h : DataW.Trod enc P W base spare held t v d p) : ∃ x : Int64, v = .int .i64 x.toInt := by
  obtain ⟨n, rfl, _, _, w⟩ := open_int ht hv h
  obtain ⟨x, rfl⟩ := i64_of w
  exact ⟨x, rfl⟩
end
end Go.Proofs.Ytgdbknbpnlpdnaa
