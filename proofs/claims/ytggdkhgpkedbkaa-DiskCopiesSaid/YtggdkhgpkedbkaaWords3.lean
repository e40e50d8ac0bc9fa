/- Words on memory: bytes of a string, bytes that are raised by one. -/
import Derived.Test.YtggdkhgpkedbkaaWords2
namespace Go.Proofs.Ytggdkhgpkedbkaa
open Go.RowKit

theorem bytesRow_at (l : List UInt8) (cap : Nat) (j : Nat) (u : Value) (hu : (l.map bv)[j]? = some u) : (bytesRow ⟨l.toArray⟩ cap)[j]? = some u := by
  unfold bytesRow
  have hj : j < l.length := by
    have := (List.getElem?_eq_some_iff.1 hu).1
    simpa using this
  rw [Array.getElem?_append_left (by simpa using hj)]
  rw [← hu]
  simp
  rfl
theorem str_bytes {P : Program} (w : World) {src dst e : TypeId} (hs : P.underlying src = some .string) (hd : P.underlying dst = some (.slice e)) (he : P.underlying e = some (.int .u8)) (l : List UInt8) (hl : l.length ≤ 9223372036854775807) :
    ∃ A c w', (convert src dst (.string ⟨l.toArray⟩)).run P w = .ok (.slice A l.length c) w' ∧ Bytes w' A l ∧ l.length ≤ c ∧ c ≤ 9223372036854775807 ∧ Below w.heap.size w w' := by
  refine ⟨_, _, _, run_bytes_of_string w src dst e ⟨l.toArray⟩ hs hd he, ?_, grownCap_ge _ _ _ _, ?_, ?_⟩
  · refine ⟨by simp, fun _ => ⟨_, rfl, by simp, fun j u hu => ?_⟩⟩
    rw [add_flat]
    have hb : ∀ (C : Array Value) (fr : Nat × Nat), (w.drew.alloc (.cells C e fr)).heap[w.heap.size]? = some (.cells C e fr) := fun C fr => heap_alloc_new w.drew _
    rw [cell_of_row _ _ _ _ _ _ (hb _ _), Nat.zero_add]
    exact bytesRow_at l _ j u hu
  · exact grownCap_le_maxLen w _ _ _ hl
  · exact (Below.refl _ _).drew.alloc (Nat.le_refl _) _
/-- '[]byte(s)'. -/
theorem str_bytes_list {P : Program} {w : World} {ops : Array Oper} {rest : List Oper} {o : Oper} {a : Act} {Q : Exit → Act → World → Prop} (hgd : o.guard = none) {x : Operand} {src dst e : TypeId} (ho : o.op = .convert src dst x)
    (hs : P.underlying src = some .string) (hd : P.underlying dst = some (.slice e)) (he : P.underlying e = some (.int .u8)) {l : List UInt8} (hl : l.length ≤ 9223372036854775807) (hx : a.eval x = .string ⟨l.toArray⟩)
    (h : ∀ A c w', Bytes w' A l → l.length ≤ c → c ≤ 9223372036854775807 → Below w.heap.size w w' → wpList P ops Q rest (a.put o.dst (.slice A l.length c)) w') : wpList P ops Q (o :: rest) a w :=
  wpList_plain hgd fun _ hK => by
    obtain ⟨A, c, w', hrun, h1, h2, h3, h4⟩ := str_bytes w hs hd he l hl
    unfold Oper.wp execOp
    simp only [ho, hx, Sem.run_bind, hrun, Result.andThen_ok, Sem.run_pure]
    exact hK _ _ (h A c w' h1 h2 h3 h4)
theorem w_inc (q : UInt8) : IntKind.u8.wrap ((q.toNat : Int) + 1) = ((q + 1).toNat : Int) := by
  rw [IntKind.wrap_u8, UInt8.toNat_add]
  simp
theorem own_set {w : World} {base : Nat} {e : TypeId} {g n c : Nat} {l : List UInt8} (h : w.ownsRow base e 1 (.slice (some ⟨g, 0, none⟩) n c) n (l.map bv)) (j : Nat) (q : UInt8) :
    (w.setCell ⟨g, j, none⟩ (.int .u8 (q.toNat : Int))).ownsRow base e 1 (.slice (some ⟨g, 0, none⟩) n c) n ((l.set j q).map bv) := by
  have := (h.stored j (.int .u8 (q.toNat : Int))).1
  rw [List.map_set]
  exact this
theorem own_at {w : World} {base : Nat} {e : TypeId} {g n c : Nat} {l : List UInt8} (h : w.ownsRow base e 1 (.slice (some ⟨g, 0, none⟩) n c) n (l.map bv)) {j : Nat} (hj : j < n) :
    w.cell? ⟨g, j, none⟩ = some (.int .u8 ((l.getD j 0).toNat : Int)) := by
  have hl := own_len h
  rw [h.cellAt j (by omega), List.getElem?_map, List.getElem?_eq_getElem (by omega), List.getD_eq_getElem?_getD, List.getElem?_eq_getElem (by omega)]
  rfl
theorem base_le {w : World} {base base' : Nat} {e : TypeId} {size : Nat} {v : Value} {n : Nat} {xs : List Value} (h : w.ownsRow base e size v n xs) (hb : base' ≤ base) : w.ownsRow base' e size v n xs := by
  refine ⟨h.1, ?_⟩
  rcases h.2 with h2 | ⟨g, cap, cur, hv, hg, r⟩
  · exact .inl h2
  · exact .inr ⟨g, cap, cur, hv, by omega, r⟩
end Go.Proofs.Ytggdkhgpkedbkaa
