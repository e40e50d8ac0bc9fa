/- Structs as blocks. -/
import Derived.Test.YtpbaofabflgpkaaJA
import Derived.Deep.MidRow
import Derived.Deep.WholeRow
import Derived.Laws.ResultCell
namespace Go.Proofs.Ytpbaofabflgpkaa
set_option linter.unusedVariables false
set_option linter.unusedSimpArgs false
open Go.RowKit

section
variable {P : Program} {ops : Array Oper} {rest : List Oper} {op : Oper} {a : Act} {w : World} {Q : Exit → Act → World → Prop}
theorem wpList_load_rg (hgd : op.guard = none) {ty : TypeId} {x : Operand} (ho : op.op = .load ty x) {b o : Nat} (hx : a.eval x = .pointer (some ⟨b, o, none⟩)) {vs : List Value} {d : TypeDesc} (hc : w.rangeAt b o vs)
    (hu : P.underlying ty = some d) (hd : d.isRow = true) (hi : (P.info? ty).map (·.size) = some vs.length) (h : wpList P ops Q rest (a.put op.dst (.agg vs.toArray)) w) : wpList P ops Q (op :: rest) a w :=
  wpList_load_mid hgd ty x ho b o hx vs d hc hu hd hi h
theorem wpList_store_rg (hgd : op.guard = none) {ty : TypeId} {x y : Operand} (ho : op.op = .store ty x y) {b o : Nat} (hx : a.eval x = .pointer (some ⟨b, o, none⟩)) {vs : List Value} (hy : a.eval y = .agg vs.toArray)
    (ht : w.there b o vs.length) (hi : (P.info? ty).map (·.size) = some vs.length) (h1 : ∀ v ∈ vs, v.oneCell' = true) (h : wpList P ops Q rest (a.put op.dst undef) (w.setCells b o vs)) : wpList P ops Q (op :: rest) a w :=
  wpList_store_mid hgd ty x y ho b o vs.toArray hx hy (by simpa using ht) (by simpa using hi) (all_oneCell_toArray h1) (by simpa using h)
theorem wpList_alloc_z (hgd : op.guard = none) {ty : TypeId} (ho : op.op = .alloc ty) {Z : Array Value} (hz : ∀ w, (zeroValue ty).run P w = .ok (.agg Z) w)
    (h : wpList P ops Q rest (a.put op.dst (.pointer (some ⟨w.heap.size, 0, none⟩))) (w.alloc (.cells Z ty))) : wpList P ops Q (op :: rest) a w :=
  wpList_plain hgd fun _ hK => by
    unfold Oper.wp execOp
    simp only [ho, Instr.alloc, Sem.run_bind, hz, Result.andThen_ok, newVar, newRow, Value.cells, run_newObj_alloc, Sem.run_pure]
    exact hK _ _ h
end
/-- The cells from o on, written. -/
def putL (cs : Array Value) : Nat → List Value → Array Value
  | _, [] => cs
  | o, v :: r => putL (cs.setIfInBounds o v) (o + 1) r
theorem putL_size : ∀ (vs : List Value) (cs : Array Value) (o : Nat), (putL cs o vs).size = cs.size
  | [], _, _ => rfl
  | _ :: r, cs, o => by rw [putL, putL_size r]; simp
theorem putL_get : ∀ (vs : List Value) (cs : Array Value) (o i : Nat), o + vs.length ≤ cs.size → (putL cs o vs)[i]? = if o ≤ i ∧ i < o + vs.length then vs[i - o]? else cs[i]?
  | [], cs, o, i, _ => by simp [putL]; omega
  | v :: r, cs, o, i, h => by
    rw [putL, putL_get r _ _ _ (by simp at h ⊢; omega)]
    by_cases h1 : i = o
    · subst h1
      rw [if_neg (by omega), if_pos (by simp), Nat.sub_self, Array.getElem?_setIfInBounds, if_pos rfl, if_pos (by simp at h; omega)]
      rfl
    · by_cases h2 : o + 1 ≤ i ∧ i < o + 1 + r.length
      · rw [if_pos h2, if_pos (by simp; omega)]
        obtain ⟨k, rfl⟩ : ∃ k, i = o + 1 + k := ⟨i - (o + 1), by omega⟩
        rw [show o + 1 + k - o = k + 1 by omega, List.getElem?_cons_succ]
        congr 1
        omega
      · rw [if_neg h2, if_neg (by simp; omega), Array.getElem?_setIfInBounds, if_neg (fun e => h1 e.symm)]
theorem Blk.puts {g : Nat} {t : TypeId} : ∀ (vs : List Value) {w : World} {cs : Array Value} (_ : Blk w g t cs) (o : Nat), Blk (w.setCells g o vs) g t (putL cs o vs)
  | [], _, _, h, _ => h
  | v :: r, _, _, h, o => Blk.puts r (h.put o v) (o + 1)
theorem mod_setCells {g : Nat} : ∀ (vs : List Value) (w : World) (o : Nat), Mod (fun b => b = g) w (w.setCells g o vs)
  | [], w, _ => Mod.refl _ _
  | v :: r, w, o => (Mod.set (S := fun b => b = g) (Mod.refl _ w) (p := ⟨g, o, none⟩) (fun _ => rfl) v).trans (mod_setCells r _ (o + 1))
theorem Blk.range {w : World} {g : Nat} {t : TypeId} {cs : Array Value} (h : Blk w g t cs) (o n : Nat) : w.rangeAt g o ((cs.toList.drop o).take n) := fun j v hv => by
  rw [h.cell]
  rw [List.getElem?_take] at hv
  split at hv
  · simpa using hv
  · cases hv
theorem Blk.rangeAll {w : World} {g : Nat} {t : TypeId} {cs : Array Value} (h : Blk w g t cs) : w.rangeAt g 0 cs.toList := fun j v hv => by
  rw [h.cell]
  simpa using hv
theorem Blk.there {w : World} {g : Nat} {t : TypeId} {cs : Array Value} (h : Blk w g t cs) {o n : Nat} (hn : o + n ≤ cs.size) : w.there g o n := fun j hj => by
  rw [h.cell]
  exact ⟨by rw [Array.getElem?_eq_getElem (by omega)]; rfl, h.free _⟩
/-- The cells from o on, n of them. -/
def rng (cs : Array Value) (o n : Nat) : List Value := (cs.toList.drop o).take n
theorem putL_all {cs l : Array Value} (h : cs.size = l.size) : putL cs 0 l.toList = l := by
  apply Array.ext_getElem?
  intro i
  rw [putL_get _ _ _ _ (by simp; omega)]
  by_cases hi : i < l.size
  · rw [if_pos (by simp; omega)]
    simp
  · rw [if_neg (by simp; omega), Array.getElem?_eq_none (by omega), Array.getElem?_eq_none (by omega)]
section
variable {P : Program} {ops : Array Oper} {rest : List Oper} {op : Oper} {a : Act} {w : World} {Q : Exit → Act → World → Prop}
theorem wpList_alloc_blk (hgd : op.guard = none) {ty : TypeId} (ho : op.op = .alloc ty) {Z : Array Value} (hz : ∀ w, (zeroValue ty).run P w = .ok (.agg Z) w)
    (h : ∀ g w', w.heap.size = g → Blk w' g ty Z → Below w.heap.size w w' → wpList P ops Q rest (a.put op.dst (.pointer (some ⟨g, 0, none⟩))) w') : wpList P ops Q (op :: rest) a w :=
  wpList_alloc_z hgd ho hz (h _ _ rfl (Blk.new _ _ _) (below_new _ _))
theorem wpList_store_blk (hgd : op.guard = none) {ty : TypeId} {x y : Operand} (ho : op.op = .store ty x y) {g : Nat} {t : TypeId} {c0 cs : Array Value} (hx : a.eval x = .pointer (some ⟨g, 0, none⟩)) (hy : a.eval y = .agg cs)
    (hB : Blk w g t c0) (hs : c0.size = cs.size) (hi : (P.info? ty).map (·.size) = some cs.size) (h1 : ∀ v ∈ cs.toList, v.oneCell' = true)
    (h : ∀ w', Blk w' g t cs → Mod (fun b => b = g) w w' → wpList P ops Q rest (a.put op.dst undef) w') : wpList P ops Q (op :: rest) a w := by
  refine wpList_store_rg hgd ho (vs := cs.toList) hx (by rw [hy]) (hB.there (by rw [hs]; simp)) (by simpa using hi) h1 ?_
  have hp := hB.puts cs.toList 0
  rw [putL_all hs] at hp
  exact h _ hp (mod_setCells _ _ _)
theorem wpList_load_blk (hgd : op.guard = none) {ty : TypeId} {x : Operand} (ho : op.op = .load ty x) {g : Nat} {t : TypeId} {cs : Array Value} (hx : a.eval x = .pointer (some ⟨g, 0, none⟩)) (hB : Blk w g t cs) {d : TypeDesc}
    (hu : P.underlying ty = some d) (hd : d.isRow = true) (hi : (P.info? ty).map (·.size) = some cs.size) (h : wpList P ops Q rest (a.put op.dst (.agg cs)) w) : wpList P ops Q (op :: rest) a w :=
  wpList_load_rg hgd ho hx hB.rangeAll hu hd (by simpa using hi) (by simpa using h)
end
theorem results_blk_tmp {P : Program} {fn : Func} {p u : Tmp} {ty : TypeId} (h : fn.results = #[.cell p ty, .tmp u]) (tmps : Array Value) {w : World} {g : Nat} {t : TypeId} {cs : Array Value} (hB : Blk w g t cs) {d : TypeDesc}
    (hp : tmps.getD p undef = .pointer (some ⟨g, 0, none⟩)) (hu : P.underlying ty = some d) (hd : (match d with | .struct _ | .array _ _ => true | _ => false) = true) (hi : (P.info? ty).map (·.size) = some cs.size) {v : Value} (hv : tmps.getD u undef = v) :
    (results fn tmps).run P w = .ok (.tuple #[.agg cs, v]) w := by
  rw [results_cell_tmp h, hp, hv]
  have ha : (asAddr (.pointer (some ⟨g, 0, none⟩))).run P w = .ok ⟨g, 0, none⟩ w := by simp [asAddr]
  rw [ha]
  simp only [Result.andThen]
  rw [run_loadVar_row w g t ty cs _ d hB hu hd hi]
theorem run_load_blk {P : Program} {u : World} {g : Nat} {t ty : TypeId} {cs : Array Value} {d : TypeDesc} (hB : Blk u g t cs) (hu : P.underlying ty = some d) (hd : d.isRow = true) (hi : (P.info? ty).map (·.size) = some cs.size) :
    (Instr.loadAt ty (.pointer (some ⟨g, 0, none⟩))).run P u = .ok (.agg cs) u := by
  have h := run_loadAt_mid (P := P) u g 0 ty cs.toList d hB.rangeAll hu hd (by simpa using hi)
  simpa using h
theorem exec_load_blk {P : Program} {u : World} {g : Nat} {t ty : TypeId} {cs : Array Value} {d : TypeDesc} {E : Operand → Value} {op : Oper} {x : Operand} (ho : op.op = .load ty x) (hx : E x = .pointer (some ⟨g, 0, none⟩)) (hB : Blk u g t cs) (hu : P.underlying ty = some d) (hd : d.isRow = true) (hi : (P.info? ty).map (·.size) = some cs.size) :
    (execOp E op).run P u = .ok (.value (.agg cs)) u := by
  have h := run_load_blk hB hu hd hi
  unfold execOp
  simp only [ho, hx, Sem.run_bind, h, Result.andThen_ok, Sem.run_pure]
theorem wpList_load_blkG {P : Program} {ops : Array Oper} {rest : List Oper} {op : Oper} {a : Act} {w : World} {Q : Exit → Act → World → Prop} (hw : Region.wanted op (yielded ops a.tmps) = true) {ty : TypeId} {x : Operand} (ho : op.op = .load ty x) {g : Nat} {t : TypeId} {cs : Array Value} (hx : a.eval x = .pointer (some ⟨g, 0, none⟩)) (hB : Blk w g t cs) {d : TypeDesc}
    (hu : P.underlying ty = some d) (hd : d.isRow = true) (hi : (P.info? ty).map (·.size) = some cs.size) (h : wpList P ops Q rest (a.put op.dst (.agg cs)) w) : wpList P ops Q (op :: rest) a w :=
  wpList_step fun K hK => by
    rw [if_pos hw]
    have hl := run_load_blk hB hu hd hi
    unfold Oper.wp execOp
    simp only [ho, hx, Sem.run_bind, hl, Result.andThen_ok, Sem.run_pure]
    exact hK _ _ h
theorem results_tmp4 {fn : Func} {t u v x : Tmp} (h : fn.results = #[.tmp t, .tmp u, .tmp v, .tmp x]) (tmps : Array Value) (P : Program) (w : World) :
    (results fn tmps).run P w = .ok (.tuple #[tmps.getD t undef, tmps.getD u undef, tmps.getD v undef, tmps.getD x undef]) w := by
  simp [results, h]
theorem rng_get {cs : Array Value} {o n j : Nat} (hj : j < n) : (rng cs o n).toArray[j]? = cs[o + j]? := by
  unfold rng
  rw [List.getElem?_toArray, List.getElem?_take, if_pos hj, List.getElem?_drop]
  simp
theorem wp_alloc_blk {P : Program} {op : Oper} {a : Act} {w : World} {K : Act → World → Prop} {Q : Exit → Act → World → Prop} {ty : TypeId} (ho : op.op = .alloc ty) {Z : Array Value} (hz : ∀ w, (zeroValue ty).run P w = .ok (.agg Z) w)
    (h : ∀ g w', w.heap.size = g → Blk w' g ty Z → Below w.heap.size w w' → K (a.put op.dst (.pointer (some ⟨g, 0, none⟩))) w') : op.wp P a w K Q := by
  unfold Oper.wp execOp
  simp only [ho, Instr.alloc, Sem.run_bind, hz, Result.andThen_ok, newVar, newRow, Value.cells, run_newObj_alloc, Sem.run_pure]
  exact h _ _ rfl (Blk.new _ _ _) (below_new _ _)
theorem wp_store_blk {P : Program} {op : Oper} {a : Act} {w : World} {K : Act → World → Prop} {Q : Exit → Act → World → Prop} {ty : TypeId} {x y : Operand} (ho : op.op = .store ty x y) {g : Nat} {t : TypeId} {c0 cs : Array Value} (hx : a.eval x = .pointer (some ⟨g, 0, none⟩)) (hy : a.eval y = .agg cs)
    (hB : Blk w g t c0) (hs : c0.size = cs.size) (hi : (P.info? ty).map (·.size) = some cs.size) (h1 : ∀ v ∈ cs.toList, v.oneCell' = true)
    (h : ∀ w', Blk w' g t cs → Mod (fun b => b = g) w w' → K (a.put op.dst undef) w') : op.wp P a w K Q := by
  have hp := hB.puts cs.toList 0
  rw [putL_all hs] at hp
  exact wp_store_mid ty x y ho g 0 cs hx hy (by simpa using hB.there (o := 0) (n := cs.size) (by omega)) hi (by have h := all_oneCell_toArray h1; simpa using h) (h _ (by simpa using hp) (by simpa using mod_setCells (g := g) cs.toList w 0))
theorem wpList_build2 {P : Program} {ops : Array Oper} {rest : List Oper} {op : Oper} {a : Act} {w : World} {Q : Exit → Act → World → Prop} (hgd : op.guard = none) {ty : TypeId} {i j : Nat} {p q : Operand} (ho : op.op = .build ty #[(i, p), (j, q)]) {x y v : Value} (hx : a.eval p = x) (hy : a.eval q = y)
    (hb : (Instr.build ty #[(i, x), (j, y)]).run P w = .ok v w) (h : wpList P ops Q rest (a.put op.dst v) w) : wpList P ops Q (op :: rest) a w :=
  wpList_plain hgd fun _ hK => by
    unfold Oper.wp execOp
    simp only [ho, Sem.run_bind, List.map_toArray, List.map_cons, List.map_nil, hx, hy, hb, Result.andThen_ok, Sem.run_pure]
    exact hK _ _ h
theorem exec_load_rg {P : Program} {u : World} {g o : Nat} {ty : TypeId} {vs : List Value} {d : TypeDesc} {E : Operand → Value} {op : Oper} {x : Operand} (ho : op.op = .load ty x) (hx : E x = .pointer (some ⟨g, o, none⟩)) (hc : u.rangeAt g o vs) (hu : P.underlying ty = some d) (hd : d.isRow = true) (hi : (P.info? ty).map (·.size) = some vs.length) :
    (execOp E op).run P u = .ok (.value (.agg vs.toArray)) u := by
  have h := run_loadAt_mid (P := P) u g o ty vs d hc hu hd hi
  unfold execOp
  simp only [ho, hx, Sem.run_bind, h, Result.andThen_ok, Sem.run_pure]
theorem wp_store_rgB {P : Program} {op : Oper} {a : Act} {w : World} {K : Act → World → Prop} {Q : Exit → Act → World → Prop} {ty : TypeId} {x y : Operand} (ho : op.op = .store ty x y) {g o : Nat} {t : TypeId} {c0 : Array Value} {vs : List Value} (hx : a.eval x = .pointer (some ⟨g, o, none⟩)) (hy : a.eval y = .agg vs.toArray)
    (hB : Blk w g t c0) (hs : o + vs.length ≤ c0.size) (hi : (P.info? ty).map (·.size) = some vs.length) (h1 : ∀ v ∈ vs, v.oneCell' = true)
    (h : ∀ w', Blk w' g t (putL c0 o vs) → Mod (fun b => b = g) w w' → K (a.put op.dst undef) w') : op.wp P a w K Q :=
  wp_store_mid ty x y ho g o vs.toArray hx hy (by simpa using hB.there hs) (by simpa using hi) (all_oneCell_toArray h1) (h _ (by simpa using hB.puts vs o) (by simpa using mod_setCells (g := g) vs w o))
theorem wpList_store_rgB {P : Program} {ops : Array Oper} {rest : List Oper} {op : Oper} {a : Act} {w : World} {Q : Exit → Act → World → Prop} (hgd : op.guard = none) {ty : TypeId} {x y : Operand} (ho : op.op = .store ty x y) {g o : Nat} {t : TypeId} {c0 : Array Value} {vs : List Value} (hx : a.eval x = .pointer (some ⟨g, o, none⟩)) (hy : a.eval y = .agg vs.toArray)
    (hB : Blk w g t c0) (hs : o + vs.length ≤ c0.size) (hi : (P.info? ty).map (·.size) = some vs.length) (h1 : ∀ v ∈ vs, v.oneCell' = true)
    (h : ∀ w', Blk w' g t (putL c0 o vs) → Mod (fun b => b = g) w w' → wpList P ops Q rest (a.put op.dst undef) w') : wpList P ops Q (op :: rest) a w :=
  wpList_plain hgd fun _ hK => wp_store_rgB ho hx hy hB hs hi h1 fun w' hb hm => hK _ _ (h w' hb hm)
end Go.Proofs.Ytpbaofabflgpkaa
