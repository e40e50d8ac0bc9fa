/- An append onto the call's own row whose length may pass 2^47 (cells of one byte): it is carried out; of what it leaves only the length is said. -/
import Derived.Test.YtgnegofkffiopaaWords2
namespace Go.Proofs.Ytgnegofkffiopaa
open Go.RowKit

theorem cap_fits {need old : Nat} (h : old < need) (hb : need ≤ 140737490452480) : Builtin.nextslicecap need old ≤ 281474976710656 := by
  unfold Builtin.nextslicecap
  split
  · omega
  · split
    · omega
    · rw [growBy_four]
      repeat' split
      all_goals omega
section
variable {P : Program} {w : World}
theorem app_big {t e : TypeId} (S : SliceTy P t e 1 1) (ty : TypeId) {base : Nat} {v : Value} {n : Nat} {xs : List Value} (hown : w.ownsRow base e 1 v n xs)
    {A : Option Addr} {m : Nat} (c : Nat) {news : List Value} (hr : Reads w 1 A m news) (h1 : ∀ u ∈ news, u.oneCell' = true)
    (hb : n + m ≤ 140737490452480) (hbase : base ≤ w.heap.size) :
    ∃ A' c' w', (Builtin.append_ #[t, t] ty #[v, .slice A m c]).run P w = .ok (.slice A' (n + m) c') w' ∧ w.grownBy w' v.ownBlock := by
  by_cases hs : (n + m) * 1 ≤ 140737488355328
  · obtain ⟨v', w', hrun, ho, hg, _⟩ := app_run S ty hown c hr h1 hs hbase
    obtain ⟨A', c', rfl, _, _⟩ := own_slice ho
    exact ⟨A', c', w', hrun, hg⟩
  · have S' := S
    obtain ⟨i, z, ht, hi, hz, hsize, hby, hzs, hsz, hb0⟩ := S
    rcases A with _ | ad
    · have hm : m = 0 := by
        rcases Nat.eq_zero_or_pos m with h0 | h0
        · exact h0
        · obtain ⟨ad, h, _⟩ := hr.2 h0
          cases h
      subst hm
      obtain ⟨A', c', hv, _, _⟩ := own_slice hown
      have hrun := app_nil S' ty hown c
      exact ⟨A', c', w, by rw [hrun, hv]; rfl, World.grownBy.refl w _⟩
    · have hl : news.length = m * i.size := by rw [hsize]; exact hr.1
      have hcells : ∀ j u, news[j]? = some u → w.cell? (ad.add j) = some u := by
        intro j u hu
        rcases Nat.eq_zero_or_pos m with h0 | h0
        · subst h0
          have hn : news = [] := List.eq_nil_of_length_eq_zero (by simpa using hr.1)
          subst hn
          simp at hu
        · obtain ⟨ad', h, _, hc⟩ := hr.2 h0
          injection h with h
          subst h
          exact hc j u hu
      rcases hown.2 with ⟨rfl, rfl⟩ | ⟨g, cap, cur, rfl, hbg, hg, hnc, hcm, hcs, htake⟩
      · have hrun := run_append_nil (P := P) w t ty e i z ht hi hz ad m c news hl hcells (by omega) (by omega) (by rw [hby]; omega)
        rw [Nat.zero_add]
        exact ⟨_, _, _, hrun, rfl, rfl, rfl, by simp, fun k hk _ => heap_alloc_old w.drew _ k hk⟩
      · by_cases hroom : n + m ≤ cap
        · have hrun := run_append_room (P := P) w t ty e i ht hi g n cap cur hg ad m c news hl hcells h1 hroom (by rw [hl, hcs, hsize]; omega)
          exact ⟨_, _, _, hrun, rfl, rfl, rfl, by simp, fun k _ hk => setRow_other w g k _ (fun e => hk (by simp [Value.ownBlock, e]))⟩
        · have holds : ∀ j u, xs[j]? = some u → w.cell? ((⟨g, 0, none⟩ : Addr).add j) = some u := hown.cells (g := g) rfl
          have hrun := run_append_grow (P := P) w t ty e i z ht hi hz ⟨g, 0, none⟩ n cap xs (by rw [hsize]; exact hown.1) holds ad m c news hl hcells (by omega) (by omega) (by rw [hby, Nat.mul_one]; exact cap_fits (by omega) hb)
          exact ⟨_, _, _, hrun, rfl, rfl, rfl, by simp, fun k hk _ => heap_alloc_old w.drew _ k hk⟩
theorem app_big_list {t e : TypeId} (S : SliceTy P t e 1 1) {ops : Array Oper} {rest : List Oper} {o : Oper} {a : Act} {Q : Exit → Act → World → Prop} (hgd : o.guard = none) {s x : Operand}
    (ho : o.op = .call { callee := .builtin .append, args := #[s, x], argTypes := #[t, t] })
    {base : Nat} {v : Value} {n : Nat} {xs : List Value} (hown : w.ownsRow base e 1 v n xs) (hs : a.eval s = v)
    {A : Option Addr} {m c : Nat} {news : List Value} (hr : Reads w 1 A m news) (hx : a.eval x = .slice A m c) (h1 : ∀ u ∈ news, u.oneCell' = true)
    (hb : n + m ≤ 140737490452480) (hbase : base ≤ w.heap.size)
    (h : ∀ A' c' w', w.grownBy w' v.ownBlock → wpList P ops Q rest (a.put o.dst (.slice A' (n + m) c')) w') : wpList P ops Q (o :: rest) a w :=
  wpList_plain hgd fun _ hK => by
    obtain ⟨A', c', w', hrun, hg⟩ := app_big (P := P) S o.type hown c hr h1 hb hbase
    unfold Oper.wp execOp
    simp only [ho, resolve, invoke, builtin, Sem.run_bind, Sem.run_pure, Result.andThen_ok, List.map_toArray, List.map_cons, List.map_nil, hs, hx, hrun]
    exact hK _ _ (h A' c' w' hg)
end
end Go.Proofs.Ytgnegofkffiopaa
