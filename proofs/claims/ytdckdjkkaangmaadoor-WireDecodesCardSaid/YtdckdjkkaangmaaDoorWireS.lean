/- Great structs by ranges; a packet with its kind's field alone. -/
import Derived.Test.YtdckdjkkaangmaaDoorWireR
import Derived.Deep.MidRow
import Derived.Deep.WholeRow
namespace Go.Proofs.YtdckdjkkaangmaaDoor
set_option linter.unusedVariables false
set_option linter.unusedSimpArgs false
set_option maxRecDepth 100000
open Go.RowKit

section
variable {P : Program} {ops : Array Oper} {rest : List Oper} {op : Oper} {a : Act} {w : World} {Q : Exit → Act → World → Prop}
theorem wpList_load_rg (hgd : op.guard = none) {ty : TypeId} {x : Operand} (ho : op.op = .load ty x) {b o : Nat} (hx : a.eval x = .pointer (some ⟨b, o, none⟩)) {vs : List Value} {d : TypeDesc} (hc : w.rangeAt b o vs)
    (hu : P.underlying ty = some d) (hd : d.isRow = true) (hi : (P.info? ty).map (·.size) = some vs.length) (h : wpList P ops Q rest (a.put op.dst (.agg vs.toArray)) w) : wpList P ops Q (op :: rest) a w :=
  wpList_load_mid hgd ty x ho b o hx vs d hc hu hd hi h
theorem wpList_store_rg (hgd : op.guard = none) {ty : TypeId} {x y : Operand} (ho : op.op = .store ty x y) {b o : Nat} (hx : a.eval x = .pointer (some ⟨b, o, none⟩)) {vs : List Value} (hy : a.eval y = .agg vs.toArray)
    (ht : w.there b o vs.length) (hi : (P.info? ty).map (·.size) = some vs.length) (h1 : ∀ v ∈ vs, v.oneCell' = true) (h : wpList P ops Q rest (a.put op.dst undef) (w.setCells b o vs)) : wpList P ops Q (op :: rest) a w :=
  wpList_store_mid hgd ty x y ho b o vs.toArray hx hy (by simpa using ht) (by simpa using hi) (all_oneCell_toArray h1) (by simpa using h)
theorem wpList_alloc_z (hgd : op.guard = none) {ty : TypeId} (ho : op.op = .alloc ty) {Z : Array Value} (hz : ∀ w, (zeroValue ty).run P w = .ok (.agg Z) w)
    (h : wpList P ops Q rest (a.put op.dst (.pointer (some ⟨w.heap.size, 0, none⟩))) (w.alloc (.cells Z ty))) : wpList P ops Q (op :: rest) a w :=
  wpList_plain hgd fun _ hK => by
    unfold Oper.wp execOp
    simp only [ho, Instr.alloc, Sem.run_bind, hz, Result.andThen_ok, newVar, newRow, Value.cells, run_newObj_alloc, Sem.run_pure]
    exact hK _ _ h
end
/-- The cells from o on, written. -/
def putL (cs : Array Value) : Nat → List Value → Array Value
  | _, [] => cs
  | o, v :: r => putL (cs.setIfInBounds o v) (o + 1) r
theorem putL_size : ∀ (vs : List Value) (cs : Array Value) (o : Nat), (putL cs o vs).size = cs.size
  | [], _, _ => rfl
  | _ :: r, cs, o => by rw [putL, putL_size r]; simp
theorem putL_get : ∀ (vs : List Value) (cs : Array Value) (o i : Nat), o + vs.length ≤ cs.size → (putL cs o vs)[i]? = if o ≤ i ∧ i < o + vs.length then vs[i - o]? else cs[i]?
  | [], cs, o, i, _ => by simp [putL]; omega
  | v :: r, cs, o, i, h => by
    rw [putL, putL_get r _ _ _ (by simp at h ⊢; omega)]
    by_cases h1 : i = o
    · subst h1
      rw [if_neg (by omega), if_pos (by simp), Nat.sub_self, Array.getElem?_setIfInBounds, if_pos rfl, if_pos (by simp at h; omega)]
      rfl
    · by_cases h2 : o + 1 ≤ i ∧ i < o + 1 + r.length
      · rw [if_pos h2, if_pos (by simp; omega)]
        obtain ⟨k, rfl⟩ : ∃ k, i = o + 1 + k := ⟨i - (o + 1), by omega⟩
        rw [show o + 1 + k - o = k + 1 by omega, List.getElem?_cons_succ]
        congr 1
        omega
      · rw [if_neg h2, if_neg (by simp; omega), Array.getElem?_setIfInBounds, if_neg (fun e => h1 e.symm)]
theorem Blk.puts {g : Nat} {t : TypeId} : ∀ (vs : List Value) {w : World} {cs : Array Value} (_ : Blk w g t cs) (o : Nat), Blk (w.setCells g o vs) g t (putL cs o vs)
  | [], _, _, h, _ => h
  | v :: r, _, _, h, o => Blk.puts r (h.put o v) (o + 1)
theorem mod_setCells {g : Nat} : ∀ (vs : List Value) (w : World) (o : Nat), Mod (fun b => b = g) w (w.setCells g o vs)
  | [], w, _ => Mod.refl _ _
  | v :: r, w, o => (Mod.set (S := fun b => b = g) (Mod.refl _ w) (p := ⟨g, o, none⟩) (fun _ => rfl) v).trans (mod_setCells r _ (o + 1))
theorem Blk.range {w : World} {g : Nat} {t : TypeId} {cs : Array Value} (h : Blk w g t cs) (o n : Nat) : w.rangeAt g o ((cs.toList.drop o).take n) := fun j v hv => by
  rw [h.cell]
  rw [List.getElem?_take] at hv
  split at hv
  · simpa using hv
  · cases hv
theorem Blk.rangeAll {w : World} {g : Nat} {t : TypeId} {cs : Array Value} (h : Blk w g t cs) : w.rangeAt g 0 cs.toList := fun j v hv => by
  rw [h.cell]
  simpa using hv
theorem Blk.there {w : World} {g : Nat} {t : TypeId} {cs : Array Value} (h : Blk w g t cs) {o n : Nat} (hn : o + n ≤ cs.size) : w.there g o n := fun j hj => by
  rw [h.cell]
  exact ⟨by rw [Array.getElem?_eq_getElem (by omega)]; rfl, h.free _⟩
/-- The cells from o on, n of them. -/
def rng (cs : Array Value) (o n : Nat) : List Value := (cs.toList.drop o).take n
/-- The packet's zero value. -/
def zPk : Array Value := List.toArray (Value.int .i64 0 :: Value.int .i64 0 :: Value.int .i64 0 :: Value.int .u64 0 :: Value.int .i64 0 :: Value.int .u64 0 :: Value.slice none 0 0 :: Value.int .i64 0 :: Value.int .i64 0 :: Value.int .u64 0 :: Value.int .i64 0 :: Value.int .u64 0 :: Value.int .u64 0 :: Value.int .i64 0 :: Value.int .u64 0 :: Value.int .u64 0 :: Value.int .i64 0 :: Value.int .u64 0 :: Value.slice none 0 0 :: Value.int .i64 0 :: Value.int .u64 0 :: Value.int .i64 0 :: Value.int .u64 0 :: Value.int .u64 0 :: Value.int .u64 0 :: Value.int .u64 0 :: Value.int .i64 0 :: Value.slice none 0 0 :: Value.slice none 0 0 :: Value.int .i64 0 :: Value.int .u64 0 :: Value.int .i64 0 :: Value.int .i64 0 :: Value.int .u64 0 :: Value.int .u64 0 :: Value.int .u64 0 :: Value.int .u64 0 :: Value.slice none 0 0 :: Value.int .i64 0 :: Value.int .u64 0 :: Value.int .u64 0 :: Value.int .i64 0 :: Value.int .i64 0 :: Value.int .i64 0 :: Value.int .u64 0 :: Value.int .u64 0 :: Value.slice none 0 0 :: Value.int .i64 0 :: Value.int .u64 0 :: Value.int .u64 0 :: Value.int .i64 0 :: Value.int .u64 0 :: Value.int .i64 0 :: Value.int .i64 0 :: Value.int .u64 0 :: Value.slice none 0 0 :: ([] : List Value))
theorem zPk_size : zPk.size = 56 := rfl
theorem zero_pk (w : World) : (zeroValue 44).run Tryd.prog w = .ok (.agg zPk) w := (zero_of_info (n := 56) (by kernel_rfl)).1 w
theorem build_pk (k : Int) (w : World) : (Instr.build 44 #[(0, .int .i64 k)]).run Tryd.prog w = .ok (.agg (zPk.setIfInBounds 0 (.int .i64 k))) w := by kernel_rfl
theorem wpList_build_pk {ops : Array Oper} {rest : List Oper} {dst : Option Nat} {t : Nat} {ty : TypeId} {pos : String} {after : Array Edge} {a : Act} {w : World} {Q : Exit → Act → World → Prop} {k : Int} (hx : a.eval (.tmp t) = .int .i64 k)
    (h : wpList Tryd.prog ops Q rest (a.put dst (.agg (zPk.setIfInBounds 0 (.int .i64 k)))) w) : wpList Tryd.prog ops Q ({ dst := dst, op := .build 44 #[(0, .tmp t)], type := ty, pos := pos, after := after, guard := none } :: rest) a w :=
  wpList_plain rfl fun _ hK => by
    unfold Oper.wp execOp
    have hb := build_pk k w
    simp only [Sem.run_bind, List.map_toArray, List.map_cons, List.map_nil, hx, hb, Result.andThen_ok, Sem.run_pure]
    exact hK _ _ h
theorem info_pk : (Tryd.prog.info? 44).map (·.size) = some 56 := by kernel_rfl
theorem zlo : (-9223372036854775808 : Int) ≤ 0 := by decide
theorem zhi : (0 : Int) < 9223372036854775808 := by decide
theorem zhu : (0 : Int) < 18446744073709551616 := by decide
def kLo (k : Int) : Nat := if k = 1 then 1 else if k = 2 then 7 else if k = 3 then 19 else if k = 4 then 29 else if k = 5 then 38 else if k = 6 then 47 else 56
def kHi (k : Int) : Nat := if k = 1 then 7 else if k = 2 then 19 else if k = 3 then 29 else if k = 4 then 38 else if k = 5 then 47 else if k = 6 then 56 else 56
def alonePk (P : Pk) : Pk :=
  { n := fun o => if o = 0 ∨ kLo (P.n 0) ≤ o ∧ o < kHi (P.n 0) then P.n o else 0, t := fun o => if kLo (P.n 0) ≤ o ∧ o < kHi (P.n 0) then P.t o else [], k := if kLo (P.n 0) ≤ 28 ∧ 28 < kHi (P.n 0) then P.k else [] }
theorem zPk_int : ∀ o ∈ intOffs, zPk[o]? = some (.int .i64 0) := by
  intro o ho
  simp only [intOffs, List.mem_cons, List.not_mem_nil, or_false] at ho
  rcases ho with rfl | rfl | rfl | rfl | rfl | rfl | rfl | rfl | rfl | rfl | rfl | rfl | rfl | rfl | rfl | rfl | rfl | rfl | rfl | rfl | rfl | rfl <;> rfl
theorem zPk_num : ∀ o ∈ numOffs, zPk[o]? = some (.int .u64 0) := by
  intro o ho
  simp only [numOffs, List.mem_cons, List.not_mem_nil, or_false] at ho
  rcases ho with rfl | rfl | rfl | rfl | rfl | rfl | rfl | rfl | rfl | rfl | rfl | rfl | rfl | rfl | rfl | rfl | rfl | rfl | rfl | rfl | rfl | rfl | rfl | rfl | rfl | rfl <;> rfl
theorem zPk_txt : ∀ o ∈ txtOffs, zPk[o]? = some (.slice none 0 0) := by
  intro o ho
  simp only [txtOffs, List.mem_cons, List.not_mem_nil, or_false] at ho
  rcases ho with rfl | rfl | rfl | rfl | rfl | rfl <;> rfl
theorem offs_lt : (∀ o ∈ intOffs, 0 < o ∧ o < 56) ∧ (∀ o ∈ numOffs, 0 < o ∧ o < 56) ∧ ∀ o ∈ txtOffs, 0 < o ∧ o < 56 := by
  refine ⟨?_, ?_, ?_⟩ <;> decide
/-- The cells of a packet with its kind's field alone. -/
def aloneC (cs : Array Value) (k : Int) : Array Value := putL (zPk.setIfInBounds 0 (.int .i64 k)) (kLo k) ((cs.toList.drop (kLo k)).take (kHi k - kLo k))
theorem kLoHi (k : Int) : 0 < kLo k ∧ kLo k ≤ kHi k ∧ kHi k ≤ 56 := by
  unfold kLo kHi
  repeat' split
  all_goals omega
theorem aloneC_get {cs : Array Value} (hs : cs.size = 56) (k : Int) (i : Nat) : (aloneC cs k)[i]? = if i = 0 then some (.int .i64 k) else if kLo k ≤ i ∧ i < kHi k then cs[i]? else zPk[i]? := by
  obtain ⟨h1, h2, h3⟩ := kLoHi k
  have hl : ((cs.toList.drop (kLo k)).take (kHi k - kLo k)).length = kHi k - kLo k := by rw [List.length_take, List.length_drop, Array.length_toList, hs]; omega
  unfold aloneC
  rw [putL_get _ _ _ _ (by rw [hl, Array.size_setIfInBounds, zPk_size]; omega), hl]
  by_cases h0 : i = 0
  · subst h0
    rw [if_neg (by omega), if_pos rfl, Array.getElem?_setIfInBounds, if_pos rfl, if_pos (by rw [zPk_size]; omega)]
  · rw [if_neg h0]
    by_cases hr : kLo k ≤ i ∧ i < kHi k
    · rw [if_pos (by omega), if_pos hr, List.getElem?_take, if_pos (by omega), List.getElem?_drop, show kLo k + (i - kLo k) = i by omega]
      simp
    · rw [if_neg (by omega), if_neg hr, Array.getElem?_setIfInBounds, if_neg (fun e => h0 e.symm)]
theorem aloneC_size (cs : Array Value) (k : Int) : (aloneC cs k).size = 56 := by unfold aloneC; rw [putL_size, Array.size_setIfInBounds]; rfl
theorem PkV.alone {w : World} {cs : Array Value} {P : Pk} (h : PkV w cs P) : PkV w (aloneC cs (P.n 0)) (alonePk P) := by
  refine ⟨aloneC_size _ _, ?_, fun o ho => ?_, fun o ho => ?_, fun o ho => ?_, ?_, ?_, ?_⟩
  · rw [aloneC_get h.size, if_pos rfl]
    exact ⟨rfl, h.kind.2⟩
  · have hi := h.ints o ho
    have h0 := (offs_lt.1 o ho).1
    rw [aloneC_get h.size, if_neg (by omega)]
    simp only [alonePk]
    by_cases hr : kLo (P.n 0) ≤ o ∧ o < kHi (P.n 0)
    · rw [if_pos hr, if_pos (.inr hr)]
      exact hi
    · rw [if_neg hr, if_neg (by omega)]
      exact ⟨zPk_int o ho, zlo, zhi⟩
  · have hi := h.nums o ho
    have h0 := (offs_lt.2.1 o ho).1
    rw [aloneC_get h.size, if_neg (by omega)]
    simp only [alonePk]
    by_cases hr : kLo (P.n 0) ≤ o ∧ o < kHi (P.n 0)
    · rw [if_pos hr, if_pos (.inr hr)]
      exact hi
    · rw [if_neg hr, if_neg (by omega)]
      exact ⟨zPk_num o ho, Int.le_refl _, zhu⟩
  · have hi := h.txts o ho
    have h0 := (offs_lt.2.2 o ho).1
    rw [aloneC_get h.size, if_neg (by omega)]
    simp only [alonePk]
    by_cases hr : kLo (P.n 0) ≤ o ∧ o < kHi (P.n 0)
    · rw [if_pos hr, if_pos hr]
      exact hi
    · rw [if_neg hr, if_neg hr]
      exact ⟨none, 0, zPk_txt o ho, Reads.nil_ _ _ _, Nat.le_refl _, by decide, Nat.zero_le _⟩
  · rw [aloneC_get h.size, if_neg (by omega)]
    simp only [alonePk]
    by_cases hr : kLo (P.n 0) ≤ 28 ∧ 28 < kHi (P.n 0)
    · rw [if_pos hr, if_pos hr]
      exact h.keep
    · rw [if_neg hr, if_neg hr]
      exact ⟨none, 0, rfl, Reads.nil_ _ _ _, Nat.le_refl _, by decide, Nat.zero_le _⟩
  · simp only [alonePk]
    split
    · exact h.keeps
    · exact fun x hx => by cases hx
  · intro A n c e
    rw [aloneC_get h.size, if_neg (by omega)] at e
    by_cases hr : kLo (P.n 0) ≤ 28 ∧ 28 < kHi (P.n 0)
    · rw [if_pos hr] at e
      exact h.kb A n c e
    · rw [if_neg hr] at e
      have e : some (Value.slice none 0 0) = some (.slice A n c) := e
      injection e with e
      injection e with e
      intro ad ea
      rw [ea] at e
      cases e
theorem PkV.one {w : World} {cs : Array Value} {P : Pk} (h : PkV w cs P) : ∀ v ∈ cs.toList, v.oneCell' = true := by
  intro v hv
  obtain ⟨i, hi, rfl⟩ := List.getElem_of_mem hv
  have hs : i < 56 := by rw [← h.size]; simpa using hi
  have hall : ∀ i < 56, i = 0 ∨ i ∈ intOffs ∨ i ∈ numOffs ∨ i ∈ txtOffs ∨ i = 28 := by decide
  have he : cs[i]? = some cs.toList[i] := by rw [Array.getElem?_eq_getElem (by simpa using hi)]; simp
  rcases hall i hs with rfl | h1 | h1 | h1 | rfl
  · rw [h.kind.1] at he; injection he with he; rw [← he]; rfl
  · rw [(h.ints i h1).1] at he; injection he with he; rw [← he]; rfl
  · rw [(h.nums i h1).1] at he; injection he with he; rw [← he]; rfl
  · obtain ⟨A, c, e, _⟩ := h.txts i h1
    rw [e] at he; injection he with he; rw [← he]; rfl
  · obtain ⟨A, c, e, _⟩ := h.keep
    rw [e] at he; injection he with he; rw [← he]; rfl
theorem zPk_one : ∀ v ∈ zPk, v.oneCell' = true := by
  intro v hv
  have h : zPk.all (·.oneCell') = true := by kernel_rfl
  exact Array.all_eq_true_iff_forall_mem.1 h v hv
theorem putL_all {cs l : Array Value} (h : cs.size = l.size) : putL cs 0 l.toList = l := by
  apply Array.ext_getElem?
  intro i
  rw [putL_get _ _ _ _ (by simp; omega)]
  by_cases hi : i < l.size
  · rw [if_pos (by simp; omega)]
    simp
  · rw [if_neg (by simp; omega), Array.getElem?_eq_none (by omega), Array.getElem?_eq_none (by omega)]
end Go.Proofs.YtdckdjkkaangmaaDoor
