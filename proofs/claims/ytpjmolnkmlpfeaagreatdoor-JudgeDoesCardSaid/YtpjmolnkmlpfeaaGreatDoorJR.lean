/- Joined texts: CliA, Blks, CliB. -/
import Derived.Test.YtpjmolnkmlpfeaaGreatDoorJA
import Derived.Deep.MidRow
import Derived.Deep.WholeRow
import Derived.Laws.ResultCell
import Derived.Test.YtpjmolnkmlpfeaaGreatDoorRegion
import Derived.Test.YtpjmolnkmlpfeaaGreatDoorChecked
import Derived.Tactics
import Derived.Handy
import Derived.Lib.SliceRun
import Derived.Laws.IdiomStrings
/- A client: what its values are, and its plain laws. -/
set_option linter.unusedVariables false
set_option linter.unusedSimpArgs false
namespace Go.Proofs.YtpjmolnkmlpfeaaGreatDoor
set_option maxRecDepth 100000
open Go.RowKit

/-- A call. -/
structure Cal where
 cl : Int
 inc : Nat
 n : Nat
 kind : Int
 ch : Int
 sub : Int
 seq : Nat
 at_ : Nat
 body : List UInt8
/-- A reply. -/
structure Rep where
 cl : Int
 inc : Nat
 n : Nat
 res : Int
 at_ : Nat
 own : Int
 prod : Int
 seq : Nat
 body : List UInt8
/-- A client. -/
structure Cli where
 id : Int
 inc : Nat
 n : Nat
 bs : List Int
 busy : Int
 call : Cal
 at_ : Nat
 born : Nat
 since : Nat
def iv (x : Int) : Value := .int .i64 x
def calL (C : Cal) (v : Value) : List Value := [.int .i64 C.cl, .int .u64 (C.inc : Int), .int .u64 (C.n : Int), .int .i64 C.kind, .int .i64 C.ch, .int .i64 C.sub, .int .u64 (C.seq : Int), .int .u64 (C.at_ : Int), v]
def repL (R : Rep) (v : Value) : List Value := [.int .i64 R.cl, .int .u64 (R.inc : Int), .int .u64 (R.n : Int), .int .i64 R.res, .int .u64 (R.at_ : Int), .int .i64 R.own, .int .i64 R.prod, .int .u64 (R.seq : Int), v]
/-- A value is a slice of these bytes, of these numbers; its block is one of which K is true. -/
def SlB (K : Nat → Prop) (w : World) (v : Value) (l : List UInt8) : Prop := ∃ A c, v = .slice A l.length c ∧ Bytes w A l ∧ l.length ≤ c ∧ c ≤ 9223372036854775807 ∧ (0 < l.length → ∀ ad, A = some ad → K ad.block)
def SlI (K : Nat → Prop) (w : World) (v : Value) (xs : List Int) : Prop := ∃ A c, v = .slice A xs.length c ∧ Reads w 1 A xs.length (xs.map iv) ∧ xs.length ≤ c ∧ c ≤ 9223372036854775807 ∧ (0 < xs.length → ∀ ad, A = some ad → K ad.block)
/-- A value is a slice of one call on its way. -/
def SlS (K : Nat → Prop) (w : World) (v : Value) : Option (Int × Cal) → Prop
 | none => v = .slice none 0 0
 | some (to, C) => ∃ g c vc, v = .slice (some ⟨g, 0, none⟩) 1 c ∧ 1 ≤ c ∧ c ≤ 9223372036854775807 ∧ Reads w 10 (some ⟨g, 0, none⟩) 1 (.int .i64 to :: calL C vc) ∧ SlB K w vc C.body ∧ K g
section
variable {K K' S : Nat → Prop} {w w' : World} {v : Value}
theorem reads_mod {size n : Nat} {A : Option Addr} {xs : List Value} (h : Reads w size A n xs) (hm : Mod S w w') (hK : 0 < n → ∀ ad, A = some ad → ¬ S ad.block) : Reads w' size A n xs := by
 rcases Nat.eq_zero_or_pos n with h0 | h0
 ·subst h0
  exact ⟨by have := h.1; simpa using this, fun h => absurd h (by omega)⟩
 ·exact h.mod hm (hK h0)
theorem SlB.below {l : List UInt8} (h : SlB K w v l) (hb : Below w.heap.size w w') : SlB K w' v l := by
 obtain ⟨A, c, e, h1, h2⟩ := h
 exact ⟨A, c, e, h1.below hb, h2⟩
theorem SlI.below {l : List Int} (h : SlI K w v l) (hb : Below w.heap.size w w') : SlI K w' v l := by
 obtain ⟨A, c, e, h1, h2⟩ := h
 exact ⟨A, c, e, Reads.below h1 hb, h2⟩
theorem SlB.mod {l : List UInt8} (h : SlB K w v l) (hm : Mod S w w') (hK : ∀ b, K b → ¬ S b) : SlB K w' v l := by
 obtain ⟨A, c, e, h1, h2, h3, h4⟩ := h
 exact ⟨A, c, e, reads_mod h1 hm fun h0 ad ea => hK _ (h4 h0 ad ea), h2, h3, h4⟩
theorem SlI.mod {l : List Int} (h : SlI K w v l) (hm : Mod S w w') (hK : ∀ b, K b → ¬ S b) : SlI K w' v l := by
 obtain ⟨A, c, e, h1, h2, h3, h4⟩ := h
 exact ⟨A, c, e, reads_mod h1 hm fun h0 ad ea => hK _ (h4 h0 ad ea), h2, h3, h4⟩
theorem SlB.weak {l : List UInt8} (h : SlB K w v l) (hK : ∀ b, b < w.heap.size → K b → K' b) : SlB K' w v l := by
 obtain ⟨A, c, e, h1, h2, h3, h4⟩ := h
 refine ⟨A, c, e, h1, h2, h3, fun h0 ad ea => hK _ ?_ (h4 h0 ad ea)⟩
 obtain ⟨ad', e', hb, _⟩ := h1.2 h0
 rw [ea] at e'
 injection e' with e'
 rw [e']
 exact hb
theorem SlI.weak {l : List Int} (h : SlI K w v l) (hK : ∀ b, b < w.heap.size → K b → K' b) : SlI K' w v l := by
 obtain ⟨A, c, e, h1, h2, h3, h4⟩ := h
 refine ⟨A, c, e, h1, h2, h3, fun h0 ad ea => hK _ ?_ (h4 h0 ad ea)⟩
 obtain ⟨ad', e', hb, _⟩ := h1.2 h0
 rw [ea] at e'
 injection e' with e'
 rw [e']
 exact hb
theorem SlS.below {T : Option (Int × Cal)} (h : SlS K w v T) (hb : Below w.heap.size w w') : SlS K w' v T := by
 cases T with
 | none => exact h
 | some x =>
  obtain ⟨g, c, vc, e, h1, h2, h3, h4, h5⟩ := h
  exact ⟨g, c, vc, e, h1, h2, Reads.below h3 hb, h4.below hb, h5⟩
theorem SlS.mod {T : Option (Int × Cal)} (h : SlS K w v T) (hm : Mod S w w') (hK : ∀ b, K b → ¬ S b) : SlS K w' v T := by
 cases T with
 | none => exact h
 | some x =>
  obtain ⟨g, c, vc, e, h1, h2, h3, h4, h5⟩ := h
  exact ⟨g, c, vc, e, h1, h2, reads_mod h3 hm fun _ ad ea => by injection ea with ea; subst ea; exact hK _ h5, h4.mod hm hK, h5⟩
theorem SlS.weak {T : Option (Int × Cal)} (h : SlS K w v T) (hK : ∀ b, b < w.heap.size → K b → K' b) : SlS K' w v T := by
 cases T with
 | none => exact h
 | some x =>
  obtain ⟨g, c, vc, e, h1, h2, h3, h4, h5⟩ := h
  refine ⟨g, c, vc, e, h1, h2, h3, h4.weak hK, hK _ ?_ h5⟩
  obtain ⟨ad', e', hb, _⟩ := h3.2 (by decide)
  injection e' with e'
  rw [← e'] at hb
  exact hb
theorem SlB.nil (K : Nat → Prop) (w : World) : SlB K w (.slice none 0 0) [] := ⟨none, 0, rfl, Reads.nil_ _ _ _, Nat.le_refl _, by decide, fun h => absurd h (by decide)⟩
theorem SlI.nil (K : Nat → Prop) (w : World) : SlI K w (.slice none 0 0) [] := ⟨none, 0, rfl, Reads.nil_ _ _ _, Nat.le_refl _, by decide, fun h => absurd h (by decide)⟩
end
def zRep : Rep := { cl := 0, inc := 0, n := 0, res := 0, at_ := 0, own := 0, prod := 0, seq := 0, body := [] }
def zCal : Cal := { cl := 0, inc := 0, n := 0, kind := 0, ch := 0, sub := 0, seq := 0, at_ := 0, body := [] }
/-- May a call be? -/
def MayP (C : Cal) : Prop :=
 (1 ≤ C.cl ∧ C.cl ≤ 15 ∧ (1 ≤ C.inc ∧ C.inc ≤ 4611686018427387903) ∧ (1 ≤ C.n ∧ C.n ≤ 4611686018427387903) ∧ 1 ≤ C.ch ∧ C.ch ≤ 3 ∧ C.at_ ≤ 4611686018427387903) ∧
 ((C.kind = 1 ∧ (1 ≤ C.seq ∧ C.seq ≤ 4611686018427387903) ∧ C.at_ = 0 ∧ C.sub = 0) ∨
  ((C.kind = 2 ∨ C.kind = 3) ∧ C.sub = 0 ∧ C.seq = 0 ∧ C.body.length = 0) ∨
  ((C.kind = 4 ∨ C.kind = 5) ∧ (1 ≤ C.sub ∧ C.sub ≤ 3) ∧ C.seq = 0 ∧ C.body.length = 0) ∨
  (C.kind = 6 ∧ (1 ≤ C.sub ∧ C.sub ≤ 3) ∧ C.seq = 0 ∧ C.body.length = 0 ∧ C.at_ = 0))
instance (C : Cal) : Decidable (MayP C) := by unfold MayP; infer_instance
def mayC (C : Cal) : Bool := decide (MayP C)
def mineX (X : Cli) (R : Rep) : Prop := X.busy = 1 ∧ R.cl = X.call.cl ∧ R.inc = X.call.inc ∧ R.n = X.call.n
instance (X : Cli) (R : Rep) : Decidable (mineX X R) := by unfold mineX; infer_instance
end Go.Proofs.YtpjmolnkmlpfeaaGreatDoor

/- Structs as blocks. -/
namespace Go.Proofs.YtpjmolnkmlpfeaaGreatDoor
set_option maxRecDepth 100000
open Go.RowKit

section
variable {P : Program} {ops : Array Oper} {rest : List Oper} {op : Oper} {a : Act} {w : World} {Q : Exit → Act → World → Prop}
theorem wpList_load_rg (hgd : op.guard = none) {ty : TypeId} {x : Operand} (ho : op.op = .load ty x) {b o : Nat} (hx : a.eval x = .pointer (some ⟨b, o, none⟩)) {vs : List Value} {d : TypeDesc} (hc : w.rangeAt b o vs)
  (hu : P.underlying ty = some d) (hd : d.isRow = true) (hi : (P.info? ty).map (·.size) = some vs.length) (h : wpList P ops Q rest (a.put op.dst (.agg vs.toArray)) w) : wpList P ops Q (op :: rest) a w :=
 wpList_load_mid hgd ty x ho b o hx vs d hc hu hd hi h
theorem wpList_store_rg (hgd : op.guard = none) {ty : TypeId} {x y : Operand} (ho : op.op = .store ty x y) {b o : Nat} (hx : a.eval x = .pointer (some ⟨b, o, none⟩)) {vs : List Value} (hy : a.eval y = .agg vs.toArray)
  (ht : w.there b o vs.length) (hi : (P.info? ty).map (·.size) = some vs.length) (h1 : ∀ v ∈ vs, v.oneCell' = true) (h : wpList P ops Q rest (a.put op.dst undef) (w.setCells b o vs)) : wpList P ops Q (op :: rest) a w :=
 wpList_store_mid hgd ty x y ho b o vs.toArray hx hy (by simpa using ht) (by simpa using hi) (all_oneCell_toArray h1) (by simpa using h)
theorem wpList_alloc_z (hgd : op.guard = none) {ty : TypeId} (ho : op.op = .alloc ty) {Z : Array Value} (hz : ∀ w, (zeroValue ty).run P w = .ok (.agg Z) w)
  (h : wpList P ops Q rest (a.put op.dst (.pointer (some ⟨w.heap.size, 0, none⟩))) (w.alloc (.cells Z ty))) : wpList P ops Q (op :: rest) a w :=
 wpList_plain hgd fun _ hK => by
  unfold Oper.wp execOp
  simp only [ho, Instr.alloc, Sem.run_bind, hz, Result.andThen_ok, newVar, newRow, Value.cells, run_newObj_alloc, Sem.run_pure]
  exact hK _ _ h
end
/-- The cells from o on, written. -/
def putL (cs : Array Value) : Nat → List Value → Array Value
 | _, [] => cs
 | o, v :: r => putL (cs.setIfInBounds o v) (o + 1) r
theorem putL_size : ∀ (vs : List Value) (cs : Array Value) (o : Nat), (putL cs o vs).size = cs.size
 | [], _, _ => rfl
 | _ :: r, cs, o => by rw [putL, putL_size r]; simp
theorem putL_get : ∀ (vs : List Value) (cs : Array Value) (o i : Nat), o + vs.length ≤ cs.size → (putL cs o vs)[i]? = if o ≤ i ∧ i < o + vs.length then vs[i - o]? else cs[i]?
 | [], cs, o, i, _ => by simp [putL]; omega
 | v :: r, cs, o, i, h => by
  rw [putL, putL_get r _ _ _ (by simp at h ⊢; omega)]
  by_cases h1 : i = o
  ·subst h1
   rw [if_neg (by omega), if_pos (by simp), Nat.sub_self, Array.getElem?_setIfInBounds, if_pos rfl, if_pos (by simp at h; omega)]
   rfl
  ·by_cases h2 : o + 1 ≤ i ∧ i < o + 1 + r.length
   ·rw [if_pos h2, if_pos (by simp; omega)]
    obtain ⟨k, rfl⟩ : ∃ k, i = o + 1 + k := ⟨i - (o + 1), by omega⟩
    rw [show o + 1 + k - o = k + 1 by omega, List.getElem?_cons_succ]
    congr 1
    omega
   ·rw [if_neg h2, if_neg (by simp; omega), Array.getElem?_setIfInBounds, if_neg (fun e => h1 e.symm)]
theorem Blk.puts {g : Nat} {t : TypeId} : ∀ (vs : List Value) {w : World} {cs : Array Value} (_ : Blk w g t cs) (o : Nat), Blk (w.setCells g o vs) g t (putL cs o vs)
 | [], _, _, h, _ => h
 | v :: r, _, _, h, o => Blk.puts r (h.put o v) (o + 1)
theorem mod_setCells {g : Nat} : ∀ (vs : List Value) (w : World) (o : Nat), Mod (fun b => b = g) w (w.setCells g o vs)
 | [], w, _ => Mod.refl _ _
 | v :: r, w, o => (Mod.set (S := fun b => b = g) (Mod.refl _ w) (p := ⟨g, o, none⟩) (fun _ => rfl) v).trans (mod_setCells r _ (o + 1))
theorem Blk.range {w : World} {g : Nat} {t : TypeId} {cs : Array Value} (h : Blk w g t cs) (o n : Nat) : w.rangeAt g o ((cs.toList.drop o).take n) := fun j v hv => by
 rw [h.cell]
 rw [List.getElem?_take] at hv
 split at hv
 ·simpa using hv
 ·cases hv
theorem Blk.rangeAll {w : World} {g : Nat} {t : TypeId} {cs : Array Value} (h : Blk w g t cs) : w.rangeAt g 0 cs.toList := fun j v hv => by
 rw [h.cell]
 simpa using hv
theorem Blk.there {w : World} {g : Nat} {t : TypeId} {cs : Array Value} (h : Blk w g t cs) {o n : Nat} (hn : o + n ≤ cs.size) : w.there g o n := fun j hj => by
 rw [h.cell]
 exact ⟨by rw [Array.getElem?_eq_getElem (by omega)]; rfl, h.free _⟩
theorem putL_all {cs l : Array Value} (h : cs.size = l.size) : putL cs 0 l.toList = l := by
 apply Array.ext_getElem?
 intro i
 rw [putL_get _ _ _ _ (by simp; omega)]
 by_cases hi : i < l.size
 ·rw [if_pos (by simp; omega)]
  simp
 ·rw [if_neg (by simp; omega), Array.getElem?_eq_none (by omega), Array.getElem?_eq_none (by omega)]
section
variable {P : Program} {ops : Array Oper} {rest : List Oper} {op : Oper} {a : Act} {w : World} {Q : Exit → Act → World → Prop}
theorem wpList_alloc_blk (hgd : op.guard = none) {ty : TypeId} (ho : op.op = .alloc ty) {Z : Array Value} (hz : ∀ w, (zeroValue ty).run P w = .ok (.agg Z) w)
  (h : ∀ g w', w.heap.size = g → Blk w' g ty Z → Below w.heap.size w w' → wpList P ops Q rest (a.put op.dst (.pointer (some ⟨g, 0, none⟩))) w') : wpList P ops Q (op :: rest) a w :=
 wpList_alloc_z hgd ho hz (h _ _ rfl (Blk.new _ _ _) (below_new _ _))
theorem wpList_store_blk (hgd : op.guard = none) {ty : TypeId} {x y : Operand} (ho : op.op = .store ty x y) {g : Nat} {t : TypeId} {c0 cs : Array Value} (hx : a.eval x = .pointer (some ⟨g, 0, none⟩)) (hy : a.eval y = .agg cs)
  (hB : Blk w g t c0) (hs : c0.size = cs.size) (hi : (P.info? ty).map (·.size) = some cs.size) (h1 : ∀ v ∈ cs.toList, v.oneCell' = true)
  (h : ∀ w', Blk w' g t cs → Mod (fun b => b = g) w w' → wpList P ops Q rest (a.put op.dst undef) w') : wpList P ops Q (op :: rest) a w := by
 refine wpList_store_rg hgd ho (vs := cs.toList) hx (by rw [hy]) (hB.there (by rw [hs]; simp)) (by simpa using hi) h1 ?_
 have hp := hB.puts cs.toList 0
 rw [putL_all hs] at hp
 exact h _ hp (mod_setCells _ _ _)
theorem wpList_load_blk (hgd : op.guard = none) {ty : TypeId} {x : Operand} (ho : op.op = .load ty x) {g : Nat} {t : TypeId} {cs : Array Value} (hx : a.eval x = .pointer (some ⟨g, 0, none⟩)) (hB : Blk w g t cs) {d : TypeDesc}
  (hu : P.underlying ty = some d) (hd : d.isRow = true) (hi : (P.info? ty).map (·.size) = some cs.size) (h : wpList P ops Q rest (a.put op.dst (.agg cs)) w) : wpList P ops Q (op :: rest) a w :=
 wpList_load_rg hgd ho hx hB.rangeAll hu hd (by simpa using hi) (by simpa using h)
end
theorem run_load_blk {P : Program} {u : World} {g : Nat} {t ty : TypeId} {cs : Array Value} {d : TypeDesc} (hB : Blk u g t cs) (hu : P.underlying ty = some d) (hd : d.isRow = true) (hi : (P.info? ty).map (·.size) = some cs.size) :
  (Instr.loadAt ty (.pointer (some ⟨g, 0, none⟩))).run P u = .ok (.agg cs) u := by
 have h := run_loadAt_mid (P := P) u g 0 ty cs.toList d hB.rangeAll hu hd (by simpa using hi)
 simpa using h
theorem exec_load_blk {P : Program} {u : World} {g : Nat} {t ty : TypeId} {cs : Array Value} {d : TypeDesc} {E : Operand → Value} {op : Oper} {x : Operand} (ho : op.op = .load ty x) (hx : E x = .pointer (some ⟨g, 0, none⟩)) (hB : Blk u g t cs) (hu : P.underlying ty = some d) (hd : d.isRow = true) (hi : (P.info? ty).map (·.size) = some cs.size) :
  (execOp E op).run P u = .ok (.value (.agg cs)) u := by
 have h := run_load_blk hB hu hd hi
 unfold execOp
 simp only [ho, hx, Sem.run_bind, h, Result.andThen_ok, Sem.run_pure]
theorem wpList_load_blkG {P : Program} {ops : Array Oper} {rest : List Oper} {op : Oper} {a : Act} {w : World} {Q : Exit → Act → World → Prop} (hw : Region.wanted op (yielded ops a.tmps) = true) {ty : TypeId} {x : Operand} (ho : op.op = .load ty x) {g : Nat} {t : TypeId} {cs : Array Value} (hx : a.eval x = .pointer (some ⟨g, 0, none⟩)) (hB : Blk w g t cs) {d : TypeDesc}
  (hu : P.underlying ty = some d) (hd : d.isRow = true) (hi : (P.info? ty).map (·.size) = some cs.size) (h : wpList P ops Q rest (a.put op.dst (.agg cs)) w) : wpList P ops Q (op :: rest) a w :=
 wpList_step fun K hK => by
  rw [if_pos hw]
  have hl := run_load_blk hB hu hd hi
  unfold Oper.wp execOp
  simp only [ho, hx, Sem.run_bind, hl, Result.andThen_ok, Sem.run_pure]
  exact hK _ _ h
theorem wp_alloc_blk {P : Program} {op : Oper} {a : Act} {w : World} {K : Act → World → Prop} {Q : Exit → Act → World → Prop} {ty : TypeId} (ho : op.op = .alloc ty) {Z : Array Value} (hz : ∀ w, (zeroValue ty).run P w = .ok (.agg Z) w)
  (h : ∀ g w', w.heap.size = g → Blk w' g ty Z → Below w.heap.size w w' → K (a.put op.dst (.pointer (some ⟨g, 0, none⟩))) w') : op.wp P a w K Q := by
 unfold Oper.wp execOp
 simp only [ho, Instr.alloc, Sem.run_bind, hz, Result.andThen_ok, newVar, newRow, Value.cells, run_newObj_alloc, Sem.run_pure]
 exact h _ _ rfl (Blk.new _ _ _) (below_new _ _)
theorem wp_store_blk {P : Program} {op : Oper} {a : Act} {w : World} {K : Act → World → Prop} {Q : Exit → Act → World → Prop} {ty : TypeId} {x y : Operand} (ho : op.op = .store ty x y) {g : Nat} {t : TypeId} {c0 cs : Array Value} (hx : a.eval x = .pointer (some ⟨g, 0, none⟩)) (hy : a.eval y = .agg cs)
  (hB : Blk w g t c0) (hs : c0.size = cs.size) (hi : (P.info? ty).map (·.size) = some cs.size) (h1 : ∀ v ∈ cs.toList, v.oneCell' = true)
  (h : ∀ w', Blk w' g t cs → Mod (fun b => b = g) w w' → K (a.put op.dst undef) w') : op.wp P a w K Q := by
 have hp := hB.puts cs.toList 0
 rw [putL_all hs] at hp
 exact wp_store_mid ty x y ho g 0 cs hx hy (by simpa using hB.there (o := 0) (n := cs.size) (by omega)) hi (by have h := all_oneCell_toArray h1; simpa using h) (h _ (by simpa using hp) (by simpa using mod_setCells (g := g) cs.toList w 0))
theorem wpList_build2 {P : Program} {ops : Array Oper} {rest : List Oper} {op : Oper} {a : Act} {w : World} {Q : Exit → Act → World → Prop} (hgd : op.guard = none) {ty : TypeId} {i j : Nat} {p q : Operand} (ho : op.op = .build ty #[(i, p), (j, q)]) {x y v : Value} (hx : a.eval p = x) (hy : a.eval q = y)
  (hb : (Instr.build ty #[(i, x), (j, y)]).run P w = .ok v w) (h : wpList P ops Q rest (a.put op.dst v) w) : wpList P ops Q (op :: rest) a w :=
 wpList_plain hgd fun _ hK => by
  unfold Oper.wp execOp
  simp only [ho, Sem.run_bind, List.map_toArray, List.map_cons, List.map_nil, hx, hy, hb, Result.andThen_ok, Sem.run_pure]
  exact hK _ _ h
theorem exec_load_rg {P : Program} {u : World} {g o : Nat} {ty : TypeId} {vs : List Value} {d : TypeDesc} {E : Operand → Value} {op : Oper} {x : Operand} (ho : op.op = .load ty x) (hx : E x = .pointer (some ⟨g, o, none⟩)) (hc : u.rangeAt g o vs) (hu : P.underlying ty = some d) (hd : d.isRow = true) (hi : (P.info? ty).map (·.size) = some vs.length) :
  (execOp E op).run P u = .ok (.value (.agg vs.toArray)) u := by
 have h := run_loadAt_mid (P := P) u g o ty vs d hc hu hd hi
 unfold execOp
 simp only [ho, hx, Sem.run_bind, h, Result.andThen_ok, Sem.run_pure]
theorem wp_store_rgB {P : Program} {op : Oper} {a : Act} {w : World} {K : Act → World → Prop} {Q : Exit → Act → World → Prop} {ty : TypeId} {x y : Operand} (ho : op.op = .store ty x y) {g o : Nat} {t : TypeId} {c0 : Array Value} {vs : List Value} (hx : a.eval x = .pointer (some ⟨g, o, none⟩)) (hy : a.eval y = .agg vs.toArray)
  (hB : Blk w g t c0) (hs : o + vs.length ≤ c0.size) (hi : (P.info? ty).map (·.size) = some vs.length) (h1 : ∀ v ∈ vs, v.oneCell' = true)
  (h : ∀ w', Blk w' g t (putL c0 o vs) → Mod (fun b => b = g) w w' → K (a.put op.dst undef) w') : op.wp P a w K Q :=
 wp_store_mid ty x y ho g o vs.toArray hx hy (by simpa using hB.there hs) (by simpa using hi) (all_oneCell_toArray h1) (h _ (by simpa using hB.puts vs o) (by simpa using mod_setCells (g := g) vs w o))
end Go.Proofs.YtpjmolnkmlpfeaaGreatDoor

/- A client's calls: copies, and the work's methods. -/
namespace Go.Proofs.YtpjmolnkmlpfeaaGreatDoor
set_option maxRecDepth 100000
open Go.RowKit

section
variable {P : Program} {fn : Func} {p q u v : Tmp} {ty ty2 : TypeId} {w : World} {g g2 : Nat} {t t2 : TypeId} {cs cs2 : Array Value} {d d2 : TypeDesc}
theorem run_cell (hB : Blk w g t cs) (hu : P.underlying ty = some d) (hd : (match d with | .struct _ | .array _ _ => true | _ => false) = true) (hi : (P.info? ty).map (·.size) = some cs.size) :
  (asAddr (.pointer (some ⟨g, 0, none⟩))).run P w = .ok ⟨g, 0, none⟩ w ∧ (loadVar ty ⟨g, 0, none⟩).run P w = .ok (.agg cs) w := ⟨by simp [asAddr], run_loadVar_row w g t ty cs _ d hB hu hd hi⟩
theorem results_c (h : fn.results = #[.cell p ty]) (tmps : Array Value) (hB : Blk w g t cs) (hp : tmps.getD p undef = .pointer (some ⟨g, 0, none⟩)) (hu : P.underlying ty = some d) (hd : (match d with | .struct _ | .array _ _ => true | _ => false) = true) (hi : (P.info? ty).map (·.size) = some cs.size) :
  (results fn tmps).run P w = .ok (.agg cs) w := results_cell_row h tmps w g t cs _ d hp hB hu hd hi
theorem results_ct (h : fn.results = #[.cell p ty, .tmp u]) (tmps : Array Value) (hB : Blk w g t cs) (hp : tmps.getD p undef = .pointer (some ⟨g, 0, none⟩)) (hu : P.underlying ty = some d) (hd : (match d with | .struct _ | .array _ _ => true | _ => false) = true) (hi : (P.info? ty).map (·.size) = some cs.size) :
  (results fn tmps).run P w = .ok (.tuple #[.agg cs, tmps.getD u undef]) w := by
 obtain ⟨h1, h2⟩ := run_cell hB hu hd hi
 rw [Array.getD_eq_getD_getElem?] at hp
 simp only [results, h]
 simp [Sem.run_bind, Result.andThen, hp, h1, h2]
end
/-- The sizes of the structs. -/
theorem info_call {cs : Array Value} (h : cs.size = 9) : (Tryz.prog.info? 25).map (·.size) = some cs.size := by rw [h]; kernel_rfl
theorem info_reply {cs : Array Value} (h : cs.size = 9) : (Tryz.prog.info? 32).map (·.size) = some cs.size := by rw [h]; kernel_rfl
theorem zero_call (w : World) : (zeroValue 25).run Tryz.prog w = .ok (.agg (calL zCal (.slice none 0 0)).toArray) w := (zero_of_info (n := 9) (by kernel_rfl)).1 w
theorem zero_reply (w : World) : (zeroValue 32).run Tryz.prog w = .ok (.agg (repL zRep (.slice none 0 0)).toArray) w := (zero_of_info (n := 9) (by kernel_rfl)).1 w
theorem SlB.one {K : Nat → Prop} {w : World} {v : Value} {l : List UInt8} (h : SlB K w v l) : v.oneCell' = true := by
 obtain ⟨A, c, rfl, _⟩ := h
 rfl
theorem SlI.one {K : Nat → Prop} {w : World} {v : Value} {l : List Int} (h : SlI K w v l) : v.oneCell' = true := by
 obtain ⟨A, c, rfl, _⟩ := h
 rfl
theorem calL_one {C : Cal} {v : Value} (h : v.oneCell' = true) : ∀ x ∈ (calL C v).toArray.toList, x.oneCell' = true := by
 intro x hx
 simp only [calL, List.toList_toArray, List.mem_cons, List.not_mem_nil, or_false] at hx
 rcases hx with rfl | rfl | rfl | rfl | rfl | rfl | rfl | rfl | rfl
 all_goals first | exact h | rfl
theorem repL_one {R : Rep} {v : Value} (h : v.oneCell' = true) : ∀ x ∈ (repL R v).toArray.toList, x.oneCell' = true := by
 intro x hx
 simp only [repL, List.toList_toArray, List.mem_cons, List.not_mem_nil, or_false] at hx
 rcases hx with rfl | rfl | rfl | rfl | rfl | rfl | rfl | rfl | rfl
 all_goals first | exact h | rfl
theorem bytesK_ty : SliceTy Tryz.prog 23 5 1 1 := SliceTy.mk Tryz.underlying23 (z := .int .u8 0) (by kernel_rfl) rfl
theorem int_ty : SliceTy Tryz.prog 97 3 1 8 := SliceTy.mk Tryz.underlying97 (z := .int .i64 0) (by kernel_rfl) rfl
theorem iv_one (xs : List Int) : ∀ u ∈ xs.map iv, u.oneCell' = true := by
 intro u hu
 obtain ⟨c, _, rfl⟩ := List.mem_map.1 hu
 rfl
end Go.Proofs.YtpjmolnkmlpfeaaGreatDoor
