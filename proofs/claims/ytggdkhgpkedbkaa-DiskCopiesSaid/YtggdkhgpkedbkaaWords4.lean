/- Words on memory: own rows cut, cleared, and appended to a slice without room. -/
import Derived.Test.YtggdkhgpkedbkaaWords3
import Derived.ArgAppend
import Derived.Laws.CopyRow
namespace Go.Proofs.Ytggdkhgpkedbkaa
open Go.RowKit

section
variable {w : World} {base : Nat} {e : TypeId} {size : Nat} {g n cap : Nat} {xs : List Value}
theorem own_unfold (h : w.ownsRow base e size (.slice (some ⟨g, 0, none⟩) n cap) n xs) :
    ∃ cur, base ≤ g ∧ w.heap[g]? = some (.cells cur e (0, 0)) ∧ n ≤ cap ∧ cap ≤ maxLen ∧ cur.size = cap * size ∧ cur.toList.take (n * size) = xs := by
  rcases h.2 with ⟨h', _⟩ | ⟨g', cap', cur, h', hb, hg, hnc, hcm, hcs, htake⟩
  · simp at h'
  · simp only [Value.slice.injEq, Option.some.injEq, Addr.mk.injEq, and_true, true_and] at h'
    obtain ⟨rfl, rfl⟩ := h'
    exact ⟨cur, hb, hg, hnc, hcm, hcs, htake⟩
/-- The row's beginning. -/
theorem own_trunc (h : w.ownsRow base e size (.slice (some ⟨g, 0, none⟩) n cap) n xs) {k : Nat} (hk : k ≤ n) : w.ownsRow base e size (.slice (some ⟨g, 0, none⟩) k cap) k (xs.take (k * size)) := by
  obtain ⟨cur, hb, hg, hnc, hcm, hcs, htake⟩ := own_unfold h
  refine ⟨by rw [List.length_take, h.1]; exact Nat.min_eq_left (Nat.mul_le_mul_right _ hk), .inr ⟨g, cap, cur, rfl, hb, hg, by omega, hcm, hcs, ?_⟩⟩
  rw [← htake, List.take_take, Nat.min_eq_left (Nat.mul_le_mul_right _ hk)]
theorem zeroCells_one {z : Array Value} (hz : ∀ u ∈ z.toList, u.oneCell' = true) (h0 : 0 < z.size) (m : Nat) : ∀ u ∈ (Builtin.zeroCells z m).toList, u.oneCell' = true := by
  intro u hu
  simp only [Builtin.zeroCells, Array.toList_map, List.mem_map] at hu
  obtain ⟨i, _, rfl⟩ := hu
  have : i % z.size < z.size := Nat.mod_lt _ h0
  rw [getElem!_pos z _ this]
  exact hz _ (by simp)
/-- 'clear(s[i:])' where s is the call's own. -/
theorem own_clear {P : Program} {t : TypeId} {z : Value} (ht : P.underlying t = some (.slice e)) (hzero : ∀ w, (zeroValue e).run P w = .ok z w) (hzs : z.cells.size = size) (h0 : 0 < size) (hz1 : ∀ u ∈ z.cells.toList, u.oneCell' = true)
    (h : w.ownsRow base e size (.slice (some ⟨g, 0, none⟩) n cap) n xs) {i : Nat} (hi : i ≤ n) (c ty : Nat) :
    ∃ w', (Builtin.clear_ #[t] ty #[.slice (some ⟨g, i * size, none⟩) (n - i) c]).run P w = .ok (.tuple #[]) w' ∧ w'.ownsRow base e size (.slice (some ⟨g, 0, none⟩) i cap) i (xs.take (i * size)) ∧ w.grownBy w' (some g) := by
  rcases Nat.eq_zero_or_pos (n - i) with hn | hn
  · refine ⟨w, ?_, own_trunc h hi, World.grownBy.refl w _⟩
    rw [hn]
    simp [Builtin.clear_, run_underlying ht]
  · obtain ⟨cur, hb, hg, hnc, hcm, hcs, htake⟩ := own_unfold h
    have hzl : (Builtin.zeroCells z.cells (n - i)).toList.length = (n - i) * size := by rw [Array.length_toList, size_zeroCells, hzs]
    have hle : i * size + (n - i) * size ≤ cap * size := by rw [← Nat.add_mul]; exact Nat.mul_le_mul_right _ (by omega)
    have hst := run_storeCells_at P g (i * size) e (Builtin.zeroCells z.cells (n - i)).toList 0 cur w hg (by rw [hzl, hcs]; omega) (zeroCells_one hz1 (by omega) _)
    have hm : n - i ≠ 0 := by omega
    rw [Nat.add_zero] at hst
    refine ⟨w.setRow g (cur.toList.take (i * size) ++ (Builtin.zeroCells z.cells (n - i)).toList ++ cur.toList.drop (i * size + (Builtin.zeroCells z.cells (n - i)).toList.length)).toArray, ?_, ⟨?_, .inr ⟨g, cap, _, rfl, hb, setRow_heap w g cur _ e _ hg, by omega, hcm, ?_, ?_⟩⟩, ⟨rfl, rfl, rfl, by simp, fun k _ hk => setRow_other w g k _ (fun e => hk (by simp [e]))⟩⟩
    · obtain ⟨m, hm'⟩ : ∃ m, n - i = m + 1 := ⟨n - i - 1, by omega⟩
      rw [hm'] at hst ⊢
      simp [Builtin.clear_, run_underlying ht, hzero, hst]
    · rw [List.length_take, h.1]; exact Nat.min_eq_left (Nat.mul_le_mul_right _ hi)
    · simp only [List.size_toArray, List.length_append, List.length_take, List.length_drop, Array.length_toList, hcs, hzl]
      omega
    · rw [List.append_assoc, List.take_append, List.length_take, Array.length_toList, hcs, Nat.min_eq_left (by omega), Nat.sub_self, List.take_zero, List.append_nil, List.take_take, Nat.min_self, ← htake, List.take_take, Nat.min_eq_left (Nat.mul_le_mul_right _ hi)]
theorem clear_list {P : Program} {t : TypeId} {z : Value} (ht : P.underlying t = some (.slice e)) (hzero : ∀ w, (zeroValue e).run P w = .ok z w) (hzs : z.cells.size = size) (h0 : 0 < size) (hz1 : ∀ u ∈ z.cells.toList, u.oneCell' = true)
    {ops : Array Oper} {rest : List Oper} {o : Oper} {a : Act} {Q : Exit → Act → World → Prop} (hgd : o.guard = none) {s : Operand} (ho : o.op = .call { callee := .builtin .clear, args := #[s], argTypes := #[t] })
    (h : w.ownsRow base e size (.slice (some ⟨g, 0, none⟩) n cap) n xs) {i c : Nat} (hi : i ≤ n) (hs : a.eval s = .slice (some ⟨g, i * size, none⟩) (n - i) c)
    (hk : ∀ w', w'.ownsRow base e size (.slice (some ⟨g, 0, none⟩) i cap) i (xs.take (i * size)) → w.grownBy w' (some g) → wpList P ops Q rest (a.put o.dst (.tuple #[])) w') : wpList P ops Q (o :: rest) a w :=
  wpList_plain hgd fun _ hK => by
    obtain ⟨w', hrun, h1, h2⟩ := own_clear ht hzero hzs h0 hz1 h hi c o.type
    unfold Oper.wp execOp
    simp only [ho, resolve, invoke, builtin, Sem.run_bind, Sem.run_pure, Result.andThen_ok, List.map_toArray, List.map_cons, List.map_nil, hs, hrun]
    exact hK _ _ (hk w' h1 h2)
end
/-- append where the source finds no room: a new row, whatever the slice was. -/
theorem app_fresh {P : Program} {w : World} {t e : TypeId} {size bytes : Nat} (S : SliceTy P t e size bytes) (ty : TypeId) {A B : Option Addr} {n m cap c : Nat} {xs news : List Value}
    (hx : Reads w size A n xs) (hr : Reads w size B m news) (hA : A = none → cap = 0) (hcap : cap < n + m) (hm : 0 < m) (h1 : ∀ u ∈ news, u.oneCell' = true) (hb : (n + m) * bytes ≤ 140737488355328) :
    ∃ v' w', (Builtin.append_ #[t, t] ty #[.slice A n cap, .slice B m c]).run P w = .ok v' w' ∧ w'.ownsRow w.heap.size e size v' (n + m) (xs ++ news) ∧ w.grownBy w' none := by
  obtain ⟨i, z, ht, hi, hz, hsize, hby, hzs, hsz, hb0⟩ := S
  have h63 : n + m ≤ maxLen := by
    have : (n + m) * 1 ≤ (n + m) * bytes := Nat.mul_le_mul_left _ hb0
    simp only [maxLen]
    omega
  obtain ⟨bd, rfl, _, hcells⟩ := hr.2 hm
  rcases A with _ | ad
  · have hn : n = 0 := by
      rcases Nat.eq_zero_or_pos n with h0 | h0
      · exact h0
      · obtain ⟨ad, h, _⟩ := hx.2 h0
        cases h
    subst hn
    obtain rfl := hA rfl
    obtain rfl : xs = [] := List.eq_nil_of_length_eq_zero (by simpa using hx.1)
    obtain ⟨v', w', hrun, r1, r2, _⟩ := run_append_own (P := P) w w.heap.size t ty e i z size bytes ht hi hz hsize hby hzs hsz (.slice none 0 0) 0 [] (World.ownsRow_nil w _ e size) bd m c news hr.1 hcells h1 h63 hb (Nat.le_refl _)
    exact ⟨v', w', hrun, r1, r2⟩
  · refine run_append_arg_grows (P := P) w t ty e i z size bytes ht hi hz hsize hby hzs hsz ad n cap xs hx.1 ?_ bd m c news hr.1 hcells hcap h63 hb
    intro j u hu
    have hn : 0 < n := by
      rcases Nat.eq_zero_or_pos n with h0 | h0
      · subst h0
        have := (List.getElem?_eq_some_iff.1 hu).1
        rw [hx.1] at this
        simp at this
      · exact h0
    obtain ⟨ad', h, _, hc⟩ := hx.2 hn
    injection h with h
    subst h
    exact hc j u hu
theorem app_fresh_wp {P : Program} {w : World} {t e : TypeId} {size bytes : Nat} (S : SliceTy P t e size bytes) {o : Oper} {a : Act} {K : Act → World → Prop} {Q : Exit → Act → World → Prop} {s x : Operand}
    (ho : o.op = .call { callee := .builtin .append, args := #[s, x], argTypes := #[t, t] }) {A B : Option Addr} {n m cap c : Nat} {xs news : List Value}
    (hx : Reads w size A n xs) (hs : a.eval s = .slice A n cap) (hr : Reads w size B m news) (hxe : a.eval x = .slice B m c) (hA : A = none → cap = 0) (hcap : cap < n + m) (hm : 0 < m) (h1 : ∀ u ∈ news, u.oneCell' = true) (hb : (n + m) * bytes ≤ 140737488355328)
    (h : ∀ v' w', w'.ownsRow w.heap.size e size v' (n + m) (xs ++ news) → w.grownBy w' none → K (a.put o.dst v') w') : o.wp P a w K Q := by
  obtain ⟨v', w', hrun, h2, h3⟩ := app_fresh (P := P) S o.type (c := c) hx hr hA hcap hm h1 hb
  unfold Oper.wp execOp
  simp only [ho, resolve, invoke, builtin, Sem.run_bind, Sem.run_pure, Result.andThen_ok, List.map_toArray, List.map_cons, List.map_nil, hs, hxe, hrun]
  exact h v' w' h2 h3
theorem below_grown {B : Nat} {w0 w w' : World} (h : Below B w0 w) (hg : w.grownBy w' none) (hB : B ≤ w.heap.size) : Below B w0 w' := h.grown hg hB (fun k hk => by cases hk)
end Go.Proofs.Ytggdkhgpkedbkaa
