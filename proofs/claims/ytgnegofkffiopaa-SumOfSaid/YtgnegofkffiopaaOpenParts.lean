/- A slice of slices of bytes that came in. -/
import Derived.Test.YtgnegofkffiopaaFrame
import Derived.Deep.Slices
import Derived.SizedLaws
namespace Go.Proofs.Ytgnegofkffiopaa
open Go.ChangeShapes Go.WideShapes Go.ChangeAt Go.RowKit Go.Deep
section
variable {H : Type} {enc : TypeId × Value → H} {P : Program} {W W' : World}
theorem weightsAll_mem {e : TypeId} {y : Nat} : ∀ {ds : List (DataW H)} {d : DataW H}, d ∈ ds → y ∈ d.weights P e → y ∈ DataW.weightsAll P e ds
  | x :: ds, d, hd, hy => by
    rw [DataW.weightsAll]
    rcases List.mem_cons.1 hd with rfl | hd
    · exact List.mem_append_left _ hy
    · exact List.mem_append_right _ (weightsAll_mem hd hy)
theorem open_bytes_at {t e : TypeId} {base : Nat} {spare : Nat → Bool} {held : Bool} {fuel : Nat} {cs : List Value} {x : DataW H × List MemPlace} (ht : P.underlying t = some (.slice e)) (he : P.underlying e = some (.int .u8)) (hc : P.cellsOf e = 1)
    (hf : DataW.trod enc P W base spare held fuel t cs = some x) :
    ∃ (A : Option Addr) (l : List UInt8) (c : Nat), cs = [.slice A l.length c] ∧ Bytes W A l ∧ l.length ≤ c ∧ c ≤ 9223372036854775807 ∧ (l.length = 0 ∨ ∃ el sp, x.1 = .slice el sp ∧ el.length = l.length) := by
  rcases open_ints ht he hc hf with ⟨rfl, rfl⟩ | ⟨a, len0, cap0, zs, rfl, _, hl, hm, hz, rfl, hcell, hwz⟩
  · exact ⟨none, [], 0, rfl, Bytes.nil_ _ _, Nat.le_refl _, by omega, .inl rfl⟩
  · have hlen : ((zs.take len0).map fun n => UInt8.ofNat n.toNat).length = len0 := by
      rw [List.length_map, List.length_take]
      have : zs.length = cap0 ∨ zs.length = len0 := by split at hz <;> omega
      omega
    refine ⟨some a, (zs.take len0).map fun n => UInt8.ofNat n.toNat, cap0, by rw [hlen], ?_, by rw [hlen]; exact hl, by simpa [maxLen] using hm, .inr ⟨_, _, rfl, ?_⟩⟩
    · refine ⟨by simp, fun hn => ⟨a, rfl, ?_, fun j u hu => ?_⟩⟩
      · rw [hlen] at hn
        have h0 := hcell 0 (by rw [hlen.symm, List.length_map, List.length_take] at hn; omega)
        have := World.block_lt_of_cell? W _ h0
        rwa [add_block] at this
      · rw [List.getElem?_map, List.getElem?_map] at hu
        cases hj : (zs.take len0)[j]? with
        | none => rw [hj] at hu; cases hu
        | some n =>
          rw [hj] at hu
          simp only [Option.map_some, Option.some.injEq] at hu
          have hjz : zs[j]? = some n := by
            rw [List.getElem?_take] at hj
            split at hj
            · exact hj
            · cases hj
          have hjl := (List.getElem?_eq_some_iff.1 hjz).1
          have h1 := hcell j hjl
          rw [List.getD_eq_getElem?_getD, hjz] at h1
          have hw := hwz n (List.mem_of_getElem? hjz)
          have hb := bounds_u8 hw
          rw [h1, ← hu]
          unfold bv
          simp only [Option.getD_some, Option.some.injEq, Value.int.injEq, true_and, UInt8.toNat_ofNat']
          omega
    · simp [lits]
theorem open_parts {t s e : TypeId} {base : Nat} {spare : Nat → Bool} {held : Bool} {r : Reach} {b0 : Nat} {v : Value} {d : DataW H} {p : List MemPlace} (ht : P.underlying t = some (.slice s)) (hs : P.underlying s = some (.slice e))
    (he : P.underlying e = some (.int .u8)) (hc1 : P.cellsOf s = 1) (hc : P.cellsOf e = 1) (hb1 : P.bytesOf e = 1) (hv : Value.okWide P W r b0 t v) (h : DataW.Trod enc P W base spare held t v d p)
    (hsz : ∀ y ∈ d.weights P t, y ≤ reachBytes) :
    ∃ (A : Option Addr) (ls : List (List UInt8)) (c : Nat), v = .slice A ls.length c ∧ Parts W A ls ∧ ls.length ≤ c ∧ c ≤ 9223372036854775807 ∧ ∀ l ∈ ls, l.length ≤ 140737488351232 := by
  obtain ⟨a0, len0, cap0, rfl⟩ := okWide_slice ht hv
  obtain ⟨fuel, hf⟩ := h
  rcases open_slice ht hf with ⟨hcs, _⟩ | ⟨a, len, cap, m, n, D, Pl, hcs, _, hl, hm, hmm, hx0, hx⟩
  · simp [Value.cells] at hcs
    obtain ⟨rfl, rfl, rfl⟩ := hcs
    exact ⟨none, [], 0, rfl, ⟨[], Reads.nil_ _ _ _, fun i v l h _ => by simp at h⟩, Nat.le_refl _, by omega, fun l h => by cases h⟩
  · simp [Value.cells] at hcs
    obtain ⟨rfl, rfl, rfl⟩ := hcs
    simp only [Prod.mk.injEq] at hx0
    obtain ⟨rfl, _⟩ := hx0
    have hlm : len0 ≤ m := by rw [hmm]; split <;> omega
    have each : ∀ i, ∃ (l : List UInt8) (u : Value), i < len0 → W.cell? (a.add i) = some u ∧ BytesV W u l ∧ l.length ≤ 140737488351232 := by
      intro i
      by_cases hi : i < len0
      · obtain ⟨cs', h1, h2⟩ := hx i (by omega)
        rw [hc1, Nat.mul_one] at h1
        obtain ⟨_, hlen, hcell⟩ := World.cells?_some h1
        obtain ⟨A, l, c, rfl, hB, h3, h4, h5⟩ := open_bytes_at hs he hc h2
        refine ⟨l, .slice A l.length c, fun _ => ⟨?_, ⟨A, c, rfl, h3, h4, hB⟩, ?_⟩⟩
        · have := hcell 0 (by omega)
          rw [add_add', Nat.add_zero] at this
          simpa using this
        · rcases h5 with h5 | ⟨el, sp, h5, h6⟩
          · omega
          · have hy : (el.length + sp.length) * P.bytesOf e ∈ (D i).weights P s := by
              have h5' : D i = .slice el sp := h5
              rw [h5']
              simp [DataW.weights, hs]
            have hin : D i ∈ (List.range len0).map D := List.mem_map.2 ⟨i, List.mem_range.2 hi, rfl⟩
            have := hsz _ (by
              simp only [DataW.weights, ht]
              exact List.mem_cons_of_mem _ (List.mem_append_left _ (weightsAll_mem hin hy)))
            rw [hb1] at this
            simp only [reachBytes] at this
            omega
      · exact ⟨[], undef, fun h => absurd h hi⟩
    obtain ⟨F, hF⟩ : ∃ F : Nat → List UInt8, ∀ i, ∃ u : Value, i < len0 → W.cell? (a.add i) = some u ∧ BytesV W u (F i) ∧ (F i).length ≤ 140737488351232 := ⟨fun i => Classical.choose (each i), fun i => Classical.choose_spec (each i)⟩
    obtain ⟨U, hU⟩ : ∃ U : Nat → Value, ∀ i, i < len0 → W.cell? (a.add i) = some (U i) ∧ BytesV W (U i) (F i) ∧ (F i).length ≤ 140737488351232 := ⟨fun i => Classical.choose (hF i), fun i => Classical.choose_spec (hF i)⟩
    refine ⟨some a, (List.range len0).map F, cap0, by simp, ⟨(List.range len0).map U, ⟨by simp, fun h0 => ⟨a, rfl, ?_, fun j u hu => ?_⟩⟩, fun i v l h1 h2 => ?_⟩, by simpa using hl, by simpa [maxLen] using hm, fun l h1 => ?_⟩
    · have h0' : 0 < len0 := by simpa using h0
      have := World.block_lt_of_cell? W _ (hU 0 h0').1
      rwa [add_block] at this
    · rw [List.getElem?_map] at hu
      by_cases hj : j < len0
      · rw [List.getElem?_range hj] at hu
        simp only [Option.map_some, Option.some.injEq] at hu
        rw [← hu]
        exact (hU j hj).1
      · rw [List.getElem?_eq_none (by simp; omega)] at hu
        cases hu
    · rw [List.getElem?_map] at h1 h2
      by_cases hj : i < len0
      · rw [List.getElem?_range hj] at h1 h2
        simp only [Option.map_some, Option.some.injEq] at h1 h2
        rw [← h1, ← h2]
        exact (hU i hj).2.1
      · rw [List.getElem?_eq_none (by simp; omega)] at h1
        cases h1
    · obtain ⟨i, hi, rfl⟩ := List.mem_map.1 h1
      exact (hU i (List.mem_range.1 hi)).2.2
end
end Go.Proofs.Ytgnegofkffiopaa
