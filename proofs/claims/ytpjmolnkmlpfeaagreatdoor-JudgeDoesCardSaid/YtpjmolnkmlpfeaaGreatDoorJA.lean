/- Joined texts: Words, Words2, Words3, Words4, Mod, Flat, Clone. -/
import Derived.Below
import Derived.Laws.OwnMore
import Derived.Laws.Rows
import Derived.Deep.AppendLies
import Derived.Deep.Draws
import Derived.Lib.Hide
import Derived.OwnWalk
import Derived.Maps.AppendAt
import Derived.Laws.IdiomStrings
import Derived.Laws.BytesArg
import Derived.ArgAppend
import Derived.Laws.CopyRow
import Derived.Handy
import Derived.Test.YtpjmolnkmlpfeaaGreatDoorChecked
import Derived.Lib.SliceRun
import Derived.Tactics
/- Words on memory: a block known whole; a slice that reads as a list; what a step leaves as it was. -/
set_option linter.unusedVariables false
set_option linter.unusedSimpArgs false
namespace Go.Proofs.YtpjmolnkmlpfeaaGreatDoor
set_option maxRecDepth 100000
open Go.RowKit

theorem ret_bool {a b : Bool} (h : a = b) : Ending.returned (.bool a) = .returned (.bool b) := by rw [h]

theorem add_block (a : Addr) (n : Nat) : (a.add n).block = a.block := by unfold Addr.add; split <;> rfl
theorem add_add' (a : Addr) (i j : Nat) : (a.add i).add j = a.add (i + j) := by
 unfold Addr.add
 by_cases hi : i = 0 <;> by_cases hj : j = 0 <;> simp [hi, hj, Nat.add_assoc]
theorem add_flat (g o n : Nat) : (⟨g, o, none⟩ : Addr).add n = ⟨g, o + n, none⟩ := by
 unfold Addr.add
 by_cases hi : n = 0 <;> simp [hi]

/-- Block g is just the cells cs, of the element type t, none of them shut. -/
def Blk (w : World) (g : Nat) (t : TypeId) (cs : Array Value) : Prop := w.heap[g]? = some (.cells cs t (0, 0))

section
variable {w w' : World} {g : Nat} {t : TypeId} {cs : Array Value}
theorem Blk.lt (h : Blk w g t cs) : g < w.heap.size := (Array.getElem?_eq_some_iff.1 h).1
theorem Blk.cell (h : Blk w g t cs) (i : Nat) : w.cell? ⟨g, i, none⟩ = cs[i]? := cell_of_row w g i cs t (0, 0) h
theorem Blk.free (h : Blk w g t cs) (i : Nat) : w.frozen? ⟨g, i, none⟩ = false := by
 unfold Blk at h
 simp [World.frozen?, h]
theorem Blk.new (w : World) (t : TypeId) (cs : Array Value) : Blk (w.alloc (.cells cs t)) w.heap.size t cs := heap_alloc_new w _
theorem Blk.drewN (h : Blk w g t cs) (n : Nat) : Blk (w.drewN n) g t cs := h
theorem Blk.drew (h : Blk w g t cs) : Blk w.drew g t cs := h
theorem Blk.alloc (h : Blk w g t cs) (o : Obj) : Blk (w.alloc o) g t cs := (Below.heap_alloc w o g h.lt).trans h
theorem Blk.put (h : Blk w g t cs) (i : Nat) (u : Value) : Blk (w.setCell ⟨g, i, none⟩ u) g t (cs.setIfInBounds i u) := by
 unfold Blk at h ⊢
 simp [World.setCell, Array.getElem?_modify, h]
theorem Blk.put0 {v : Value} (h : Blk w g t #[v]) (u : Value) : Blk (w.setCell ⟨g, 0, none⟩ u) g t #[u] := h.put 0 u
theorem Blk.far (h : Blk w g t cs) {p : Addr} (hp : g ≠ p.block) (u : Value) : Blk (w.setCell p u) g t cs := (Below.heap_setCell w p u g hp).trans h
theorem Blk.below {B : Nat} (h : Blk w g t cs) (hb : Below B w w') (hg : g < B) : Blk w' g t cs := (hb.block g hg).trans h
theorem Blk.grown {row : Option Nat} (h : Blk w g t cs) (hb : w.grownBy w' row) (hg : some g ≠ row) : Blk w' g t cs := (hb.block g h.lt hg).trans h
end

section
variable {a w w' : World} {row : Option Nat}
theorem only_set {g : Nat} (h : a.grownBy w (some g)) (i : Nat) (u : Value) : a.grownBy (w.setCell ⟨g, i, none⟩ u) (some g) :=
 ⟨h.os, h.tape, h.output, by simpa [World.setCell] using h.size, fun k hk hne => (Below.heap_setCell w _ u k (by
  rintro rfl
  exact hne rfl)).trans (h.block k hk hne)⟩
theorem only_refl (w : World) (row : Option Nat) : w.grownBy w row := World.grownBy.refl w row
theorem only_trans (h : a.grownBy w row) (k : w.grownBy w' row) : a.grownBy w' row :=
 ⟨k.os.trans h.os, k.tape.trans h.tape, k.output.trans h.output, Nat.le_trans h.size k.size, fun i hi hn => (k.block i (Nat.lt_of_lt_of_le hi h.size) hn).trans (h.block i hi hn)⟩
theorem below_drewN {B : Nat} (h : Below B a w) (n : Nat) : Below B a (w.drewN n) := ⟨h.os, h.tape, h.output, h.size, h.block⟩
end

/-- The slice value v has n elements, of 'size' cells each; together they are the cells xs. -/
def Reads (w : World) (size : Nat) (A : Option Addr) (n : Nat) (xs : List Value) : Prop :=
 xs.length = n * size ∧ (0 < n → ∃ ad, A = some ad ∧ ad.block < w.heap.size ∧ ∀ j u, xs[j]? = some u → w.cell? (ad.add j) = some u)

section
variable {w w' : World} {size n : Nat} {A : Option Addr} {xs : List Value}
theorem Reads.nil_ (w : World) (size : Nat) (A : Option Addr) : Reads w size A 0 [] := ⟨by simp, fun h => absurd h (by omega)⟩
theorem Reads.at_ {k : Nat} (h : Reads w 1 A n xs) (hk : k < n) : ∃ ad u, A = some ad ∧ ad.block < w.heap.size ∧ xs[k]? = some u ∧ w.cell? (ad.add k) = some u := by
 obtain ⟨ad, e, hb, hc⟩ := h.2 (by omega)
 have hl : k < xs.length := by have := h.1; omega
 exact ⟨ad, xs[k], e, hb, List.getElem?_eq_getElem hl, hc k _ (List.getElem?_eq_getElem hl)⟩
theorem Reads.keep (h : Reads w size A n xs) (hs : w.heap.size ≤ w'.heap.size) (hk : ∀ p : Addr, (∃ ad, A = some ad ∧ p.block = ad.block) → p.block < w.heap.size → w'.cell? p = w.cell? p) : Reads w' size A n xs :=
 ⟨h.1, fun hn => by
  obtain ⟨ad, e, hb, hc⟩ := h.2 hn
  exact ⟨ad, e, by omega, fun j u hu => (hk _ ⟨ad, e, add_block ad j⟩ (by rw [add_block]; exact hb)).trans (hc j u hu)⟩⟩
theorem Reads.below (h : Reads w size A n xs) (hb : Below w.heap.size w w') : Reads w' size A n xs := h.keep hb.size fun _ _ hp => hb.cell hp
theorem Reads.drew (h : Reads w size A n xs) : Reads w.drew size A n xs := h
theorem Reads.drewN (h : Reads w size A n xs) (k : Nat) : Reads (w.drewN k) size A n xs := h
theorem Reads.alloc (h : Reads w size A n xs) (o : Obj) : Reads (w.alloc o) size A n xs := h.below ((Below.refl _ _).alloc (Nat.le_refl _) o)
theorem Reads.grown (h : Reads w size A n xs) {row : Option Nat} (hg : w.grownBy w' row) (hr : ∀ ad, A = some ad → some ad.block ≠ row) : Reads w' size A n xs :=
 h.keep hg.size fun p ⟨ad, e, hp⟩ hlt => World.cell?_of_block (hg.block p.block hlt (by rw [hp]; exact hr ad e))
theorem Reads.take (h : Reads w size A n xs) {k : Nat} (hk : k ≤ n) : Reads w size A k (xs.take (k * size)) := by
 refine ⟨by rw [List.length_take, h.1]; exact Nat.min_eq_left (Nat.mul_le_mul_right _ hk), fun hn => ?_⟩
 obtain ⟨ad, rfl, hb, hcell⟩ := h.2 (by omega)
 refine ⟨ad, rfl, hb, fun j u hu => hcell j u ?_⟩
 rw [List.getElem?_take] at hu
 split at hu
 ·exact hu
 ·cases hu
theorem Reads.of_own {base : Nat} {e : TypeId} {c : Nat} (h : w.ownsRow base e size (.slice A n c) n xs) : Reads w size A n xs := by
 refine ⟨h.1, fun hn => ?_⟩
 obtain ⟨g, cap, hv, _, hlt⟩ := h.form hn
 have hA : A = some ⟨g, 0, none⟩ := by injection hv
 subst hA
 exact ⟨_, rfl, hlt, h.cells (g := g) rfl⟩
end

/-- A byte as a cell. -/
def bv (c : UInt8) : Value := .int .u8 (c.toNat : Int)
/-- The slice of bytes '.slice A l.length _' reads as l. -/
def Bytes (w : World) (A : Option Addr) (l : List UInt8) : Prop := Reads w 1 A l.length (l.map bv)

theorem Bytes.at_ {w : World} {A : Option Addr} {l : List UInt8} (h : Bytes w A l) {k : Nat} (hk : k < l.length) : ∃ ad, A = some ad ∧ ad.block < w.heap.size ∧ w.cell? (ad.add k) = some (.int .u8 (l[k].toNat : Int)) := by
 obtain ⟨ad, u, e, hb, hx, hc⟩ := Reads.at_ h hk
 refine ⟨ad, e, hb, ?_⟩
 rw [List.getElem?_map, List.getElem?_eq_getElem hk] at hx
 simp only [Option.map_some, Option.some.injEq] at hx
 rw [hc, ← hx]
 rfl
/-- The value v is a slice of bytes that reads as l. -/
def BytesV (w : World) (v : Value) (l : List UInt8) : Prop := ∃ A c, v = .slice A l.length c ∧ l.length ≤ c ∧ c ≤ 9223372036854775807 ∧ Bytes w A l
/-- The slice '.slice A ls.length _' of slices of bytes reads as ls. -/
def Parts (w : World) (A : Option Addr) (ls : List (List UInt8)) : Prop :=
 ∃ vs : List Value, Reads w 1 A ls.length vs ∧ ∀ (i : Nat) (v : Value) (l : List UInt8), vs[i]? = some v → ls[i]? = some l → BytesV w v l

theorem Bytes.below {w w' : World} {A : Option Addr} {l : List UInt8} (h : Bytes w A l) (hb : Below w.heap.size w w') : Bytes w' A l := Reads.below h hb
theorem BytesV.below {w w' : World} {v : Value} {l : List UInt8} (h : BytesV w v l) (hb : Below w.heap.size w w') : BytesV w' v l := by
 obtain ⟨A, c, e, h1, h2, h3⟩ := h
 exact ⟨A, c, e, h1, h2, h3.below hb⟩
theorem Parts.below {w w' : World} {A : Option Addr} {ls : List (List UInt8)} (h : Parts w A ls) (hb : Below w.heap.size w w') : Parts w' A ls := by
 obtain ⟨vs, h1, h2⟩ := h
 exact ⟨vs, h1.below hb, fun i v l hv hl => (h2 i v l hv hl).below hb⟩
theorem Parts.at_ {w : World} {A : Option Addr} {ls : List (List UInt8)} (h : Parts w A ls) {k : Nat} (hk : k < ls.length) :
  ∃ ad A' c, A = some ad ∧ ad.block < w.heap.size ∧ w.cell? (ad.add k) = some (.slice A' (ls[k]).length c) ∧ (ls[k]).length ≤ c ∧ c ≤ 9223372036854775807 ∧ Bytes w A' ls[k] := by
 obtain ⟨vs, h1, h2⟩ := h
 obtain ⟨ad, u, e, hb, hu, hc⟩ := h1.at_ hk
 obtain ⟨A', c, e', h3, h4, h5⟩ := h2 k u ls[k] hu (List.getElem?_eq_getElem hk)
 exact ⟨ad, A', c, e, hb, by rw [hc, e'], h3, h4, h5⟩
/-- t is the type of slices of e, whose elements are of 'size' cells and 'bytes' bytes each. -/
def SliceTy (P : Program) (t e : TypeId) (size bytes : Nat) : Prop :=
 ∃ i z, P.underlying t = some (.slice e) ∧ P.info? e = some i ∧ i.zero = some z ∧ i.size = size ∧ i.bytes = bytes ∧ z.cells.size = size ∧ 0 < size ∧ 0 < bytes
theorem SliceTy.mk {P : Program} {t e : TypeId} {size bytes : Nat} {z : Value} (ht : P.underlying t = some (.slice e)) (hi : (P.info? e).map (fun i => (i.zero, i.size, i.bytes)) = some (some z, size, bytes))
  (hz : (z.cells.size == size && decide (0 < size) && decide (0 < bytes)) = true) : SliceTy P t e size bytes := by
 obtain ⟨i, h1, h2, h3, h4⟩ := info_parts hi
 simp only [Bool.and_eq_true, beq_iff_eq, decide_eq_true_eq] at hz
 exact ⟨i, z, ht, h1, h2, h3, h4, hz.1.1, hz.1.2, hz.2⟩

section
variable {P : Program} {w : World} {t e : TypeId} {size bytes : Nat}
theorem app_nil (S : SliceTy P t e size bytes) (ty : TypeId) {base : Nat} {v : Value} {n : Nat} {xs : List Value} (hown : w.ownsRow base e size v n xs) (c : Nat) :
  (Builtin.append_ #[t, t] ty #[v, .slice none 0 c]).run P w = .ok v w := by
 obtain ⟨i, z, ht, hi, _⟩ := S
 rcases hown.2 with ⟨rfl, rfl⟩ | ⟨g, cap, cur, rfl, _, _, hnc, _⟩
 ·simp [Builtin.append_, run_underlying ht, sizeOf, typeInfo, hi, Builtin.lenOf, Builtin.firstCells]
 ·simp [Builtin.append_, run_underlying ht, sizeOf, typeInfo, hi, Builtin.lenOf, Builtin.firstCells, hnc, storeCells]

theorem app_run (S : SliceTy P t e size bytes) (ty : TypeId) {base : Nat} {v : Value} {n : Nat} {xs : List Value} (hown : w.ownsRow base e size v n xs)
  {A : Option Addr} {m : Nat} (c : Nat) {news : List Value} (hr : Reads w size A m news) (h1 : ∀ u ∈ news, u.oneCell' = true)
  (hb : (n + m) * bytes ≤ 140737488355328) (hbase : base ≤ w.heap.size) :
  ∃ v' w', (Builtin.append_ #[t, t] ty #[v, .slice A m c]).run P w = .ok v' w' ∧ w'.ownsRow base e size v' (n + m) (xs ++ news) ∧ w.grownBy w' v.ownBlock ∧
   (v'.ownBlock = v.ownBlock ∨ v'.ownBlock = some w.heap.size) := by
 have S' := S
 obtain ⟨i, z, ht, hi, hz, hsize, hby, hzs, hsz, hb0⟩ := S
 have h63 : n + m ≤ maxLen := by
  have : (n + m) * 1 ≤ (n + m) * bytes := Nat.mul_le_mul_left _ hb0
  simp only [maxLen]
  omega
 rcases A with _ | ad
 ·have hm : m = 0 := by
   rcases Nat.eq_zero_or_pos m with h0 | h0
   ·exact h0
   ·obtain ⟨ad, h, _⟩ := hr.2 h0
    cases h
  subst hm
  have hn : news = [] := List.eq_nil_of_length_eq_zero (by simpa using hr.1)
  subst hn
  exact ⟨v, w, app_nil S' ty hown c, by simpa using hown, World.grownBy.refl w _, .inl rfl⟩
 ·have hcells : ∀ j u, news[j]? = some u → w.cell? (ad.add j) = some u := by
   intro j u hu
   rcases Nat.eq_zero_or_pos m with h0 | h0
   ·subst h0
    have hn : news = [] := List.eq_nil_of_length_eq_zero (by simpa using hr.1)
    subst hn
    simp at hu
   ·obtain ⟨ad', h, _, hc⟩ := hr.2 h0
    injection h with h
    subst h
    exact hc j u hu
  obtain ⟨v', w', hrun, h2, h3, _, h5⟩ := run_append_own_at (P := P) w base t ty e i z size bytes ht hi hz hsize hby hzs hsz v n xs hown ad m c news hr.1 hcells h1 h63 hb hbase
  exact ⟨v', w', hrun, h2, h3, h5⟩

theorem app_wp (S : SliceTy P t e size bytes) {o : Oper} {a : Act} {K : Act → World → Prop} {Q : Exit → Act → World → Prop} {s x : Operand}
  (ho : o.op = .call { callee := .builtin .append, args := #[s, x], argTypes := #[t, t] })
  {base : Nat} {v : Value} {n : Nat} {xs : List Value} (hown : w.ownsRow base e size v n xs) (hs : a.eval s = v)
  {A : Option Addr} {m c : Nat} {news : List Value} (hr : Reads w size A m news) (hx : a.eval x = .slice A m c) (h1 : ∀ u ∈ news, u.oneCell' = true)
  (hb : (n + m) * bytes ≤ 140737488355328) (hbase : base ≤ w.heap.size)
  (h : ∀ v' w', w'.ownsRow base e size v' (n + m) (xs ++ news) → w.grownBy w' v.ownBlock → (v'.ownBlock = v.ownBlock ∨ v'.ownBlock = some w.heap.size) → K (a.put o.dst v') w') : o.wp P a w K Q := by
 obtain ⟨v', w', hrun, h2, h3, h4⟩ := app_run (P := P) S o.type hown c hr h1 hb hbase
 unfold Oper.wp execOp
 simp only [ho, resolve, invoke, builtin, Sem.run_bind, Sem.run_pure, Result.andThen_ok, List.map_toArray, List.map_cons, List.map_nil, hs, hx, hrun]
 exact h v' w' h2 h3 h4

/-- 'v = append(v, xs...)' where v is the call's own. -/
theorem app_list (S : SliceTy P t e size bytes) {ops : Array Oper} {rest : List Oper} {o : Oper} {a : Act} {Q : Exit → Act → World → Prop} (hgd : o.guard = none) {s x : Operand}
  (ho : o.op = .call { callee := .builtin .append, args := #[s, x], argTypes := #[t, t] })
  {base : Nat} {v : Value} {n : Nat} {xs : List Value} (hown : w.ownsRow base e size v n xs) (hs : a.eval s = v)
  {A : Option Addr} {m c : Nat} {news : List Value} (hr : Reads w size A m news) (hx : a.eval x = .slice A m c) (h1 : ∀ u ∈ news, u.oneCell' = true)
  (hb : (n + m) * bytes ≤ 140737488355328) (hbase : base ≤ w.heap.size)
  (h : ∀ v' w', w'.ownsRow base e size v' (n + m) (xs ++ news) → w.grownBy w' v.ownBlock → (v'.ownBlock = v.ownBlock ∨ v'.ownBlock = some w.heap.size) → wpList P ops Q rest (a.put o.dst v') w') : wpList P ops Q (o :: rest) a w :=
 wpList_plain hgd fun _ hK => app_wp S ho hown hs hr hx h1 hb hbase fun v' w' h2 h3 h4 => hK _ _ (h v' w' h2 h3 h4)
end
theorem bv_one (l : List UInt8) : ∀ u ∈ l.map bv, u.oneCell' = true := by
 intro u hu
 obtain ⟨c, _, rfl⟩ := List.mem_map.1 hu
 rfl
/-- One new block of one cell. -/
theorem Reads.one (w : World) (t : TypeId) (u : Value) : Reads (w.alloc (.cells #[u] t)) 1 (some ⟨w.heap.size, 0, none⟩) 1 [u] := by
 refine ⟨rfl, fun _ => ⟨_, rfl, by simp, fun j u' hu => ?_⟩⟩
 match j, hu with
 | 0, hu =>
  simp at hu
  subst hu
  simp [Addr.add]
theorem Reads.block (w : World) (t : TypeId) (us : List Value) : Reads (w.alloc (.cells us.toArray t)) 1 (some ⟨w.heap.size, 0, none⟩) us.length us := by
 refine ⟨by simp, fun _ => ⟨_, rfl, by simp, fun j u hu => ?_⟩⟩
 rw [add_flat]
 have := (Blk.new w t us.toArray).cell (0 + j)
 rw [this]
 simpa using hu
theorem own_below {w w' w0 : World} {base : Nat} {v : Value} (hbel : Below base w0 w) (hg : w.grownBy w' v.ownBlock) (hB : base ≤ w.heap.size) (hv : ∀ k, v.ownBlock = some k → base ≤ k) : Below base w0 w' := hbel.grown hg hB hv
theorem own_ge {w : World} {base : Nat} {e : TypeId} {size : Nat} {v : Value} {n : Nat} {xs : List Value} (h : w.ownsRow base e size v n xs) : ∀ k, v.ownBlock = some k → base ≤ k := fun k hk => (h.lt k hk).1
/-- What is owned is a slice. -/
theorem own_slice {w : World} {base : Nat} {e : TypeId} {size : Nat} {v : Value} {n : Nat} {xs : List Value} (h : w.ownsRow base e size v n xs) : ∃ A c, v = .slice A n c ∧ n ≤ c ∧ c ≤ maxLen := by
 rcases h.2 with ⟨rfl, rfl⟩ | ⟨g, cap, cur, rfl, _, _, h1, h2, _⟩
 ·exact ⟨none, 0, rfl, Nat.le_refl _, by simp [maxLen]⟩
 ·exact ⟨_, _, rfl, h1, h2⟩
theorem Parts.one {w : World} {A : Option Addr} {l : List UInt8} {c : Nat} (t : TypeId) (h : Bytes w A l) (h1 : l.length ≤ c) (h2 : c ≤ 9223372036854775807) :
  Parts (w.alloc (.cells #[.slice A l.length c] t)) (some ⟨w.heap.size, 0, none⟩) [l] := by
 refine ⟨[.slice A l.length c], Reads.one w t _, fun i v l' hv hl => ?_⟩
 match i, hv, hl with
 | 0, hv, hl =>
  simp at hv hl
  subst hv hl
  exact ⟨A, c, rfl, h1, h2, Reads.alloc h _⟩
end Go.Proofs.YtpjmolnkmlpfeaaGreatDoor

/- Words on memory, more. -/
namespace Go.Proofs.YtpjmolnkmlpfeaaGreatDoor
set_option maxRecDepth 100000
open Go.RowKit
/-- What a call made behind a step leaves as it was. -/
theorem below_call {B : Nat} {w wa w1 : World} (h : Below B w wa) (hB : B ≤ wa.heap.size) (k : Below wa.heap.size wa w1) : Below B w w1 := h.trans (k.mono hB)
theorem below_new (w : World) (o : Obj) : Below w.heap.size w (w.alloc o) := (Below.refl _ _).alloc (Nat.le_refl _) _
theorem alloc_size (w : World) (o : Obj) : (w.alloc o).heap.size = w.heap.size + 1 := by simp
theorem World.grownBy_of_below {w w' : World} (h : Below w.heap.size w w') : w.grownBy w' none := ⟨h.os, h.tape, h.output, h.size, fun k hk _ => h.block k hk⟩
theorem own_call {w w' : World} {base : Nat} {e : TypeId} {size : Nat} {v : Value} {n : Nat} {xs : List Value} (h : w.ownsRow base e size v n xs) (hb : Below w.heap.size w w') : w'.ownsRow base e size v n xs :=
 h.kept (World.grownBy_of_below hb) (by cases v.ownBlock <;> simp)
/-- 'string(b)'. -/
theorem conv_str {P : Program} {w : World} {A : Option Addr} {l : List UInt8} {n c : Nat} {src e dst : TypeId} (hs : P.underlying src = some (.slice e)) (he : P.underlying e = some (.int .u8)) (hd : P.underlying dst = some .string)
  (h : Bytes w A l) (hn : l.length = n) : (convert src dst (.slice A n c)).run P w = .ok (.string ⟨l.toArray⟩) w := by
 subst hn
 rcases A with _ | ad
 ·have hl : l = [] := by
   rcases Nat.eq_zero_or_pos l.length with h0 | h0
   ·exact List.eq_nil_of_length_eq_zero h0
   ·obtain ⟨ad, e, _⟩ := h.2 h0
    cases e
  subst hl
  exact run_convert_bytes_nil w src e hs he _ _ dst hd
 ·refine run_convert_bytes_back w src dst e ad c l hs he hd fun j hj => ?_
  obtain ⟨ad', e', _, hc⟩ := h.at_ hj
  injection e' with e'
  subst e'
  exact hc
theorem own_bytes {w : World} {base : Nat} {e : TypeId} {A : Option Addr} {n c : Nat} {l : List UInt8} (h : w.ownsRow base e 1 (.slice A n c) n (l.map bv)) : Bytes w A l := by
 have hn : l.length = n := by have := h.1; simpa using this
 have := Reads.of_own h
 unfold Bytes
 rw [hn]
 exact this
theorem Bytes.block (w : World) (t : TypeId) (l : List UInt8) (cs : Array Value) (fr : Nat × Nat) (h : cs = (l.map bv).toArray) : Bytes (w.alloc (.cells cs t fr)) (some ⟨w.heap.size, 0, none⟩) l := by
 subst h
 refine ⟨by simp, fun _ => ⟨_, rfl, by simp, fun j u hu => ?_⟩⟩
 rw [add_flat]
 have hb : (w.alloc (.cells (l.map bv).toArray t fr)).heap[w.heap.size]? = some (.cells (l.map bv).toArray t fr) := heap_alloc_new w _
 rw [cell_of_row _ _ _ _ _ _ hb]
 simpa using hu
theorem Bytes.alloc {w : World} {A : Option Addr} {l : List UInt8} (h : Bytes w A l) (o : Obj) : Bytes (w.alloc o) A l := Reads.alloc h o
theorem Bytes.nil_ (w : World) (A : Option Addr) : Bytes w A [] := Reads.nil_ w 1 A
theorem Parts.block {w : World} {ls : List (List UInt8)} (t : TypeId) (vs : List Value) (cs : Array Value) (hcs : cs = vs.toArray) (hl : vs.length = ls.length) (h : ∀ (i : Nat) (v : Value) (l : List UInt8), vs[i]? = some v → ls[i]? = some l → BytesV w v l) :
  Parts (w.alloc (.cells cs t)) (some ⟨w.heap.size, 0, none⟩) ls := by
 subst hcs
 refine ⟨vs, ?_, fun i v l hv hl' => (h i v l hv hl').below (below_new w _)⟩
 rw [← hl]
 exact Reads.block w t vs
end Go.Proofs.YtpjmolnkmlpfeaaGreatDoor

/- Words on memory: bytes of a string, bytes that are raised by one. -/
namespace Go.Proofs.YtpjmolnkmlpfeaaGreatDoor
set_option maxRecDepth 100000
open Go.RowKit

theorem bytesRow_at (l : List UInt8) (cap : Nat) (j : Nat) (u : Value) (hu : (l.map bv)[j]? = some u) : (bytesRow ⟨l.toArray⟩ cap)[j]? = some u := by
 unfold bytesRow
 have hj : j < l.length := by
  have := (List.getElem?_eq_some_iff.1 hu).1
  simpa using this
 rw [Array.getElem?_append_left (by simpa using hj)]
 rw [← hu]
 simp
 rfl
theorem base_le {w : World} {base base' : Nat} {e : TypeId} {size : Nat} {v : Value} {n : Nat} {xs : List Value} (h : w.ownsRow base e size v n xs) (hb : base' ≤ base) : w.ownsRow base' e size v n xs := by
 refine ⟨h.1, ?_⟩
 rcases h.2 with h2 | ⟨g, cap, cur, hv, hg, r⟩
 ·exact .inl h2
 ·exact .inr ⟨g, cap, cur, hv, by omega, r⟩
end Go.Proofs.YtpjmolnkmlpfeaaGreatDoor

/- Words on memory: own rows cut, cleared, and appended to a slice without room. -/
namespace Go.Proofs.YtpjmolnkmlpfeaaGreatDoor
set_option maxRecDepth 100000
open Go.RowKit

section
variable {w : World} {base : Nat} {e : TypeId} {size : Nat} {g n cap : Nat} {xs : List Value}
theorem own_unfold (h : w.ownsRow base e size (.slice (some ⟨g, 0, none⟩) n cap) n xs) :
  ∃ cur, base ≤ g ∧ w.heap[g]? = some (.cells cur e (0, 0)) ∧ n ≤ cap ∧ cap ≤ maxLen ∧ cur.size = cap * size ∧ cur.toList.take (n * size) = xs := by
 rcases h.2 with ⟨h', _⟩ | ⟨g', cap', cur, h', hb, hg, hnc, hcm, hcs, htake⟩
 ·simp at h'
 ·simp only [Value.slice.injEq, Option.some.injEq, Addr.mk.injEq, and_true, true_and] at h'
  obtain ⟨rfl, rfl⟩ := h'
  exact ⟨cur, hb, hg, hnc, hcm, hcs, htake⟩
/-- The row's beginning. -/
theorem own_trunc (h : w.ownsRow base e size (.slice (some ⟨g, 0, none⟩) n cap) n xs) {k : Nat} (hk : k ≤ n) : w.ownsRow base e size (.slice (some ⟨g, 0, none⟩) k cap) k (xs.take (k * size)) := by
 obtain ⟨cur, hb, hg, hnc, hcm, hcs, htake⟩ := own_unfold h
 refine ⟨by rw [List.length_take, h.1]; exact Nat.min_eq_left (Nat.mul_le_mul_right _ hk), .inr ⟨g, cap, cur, rfl, hb, hg, by omega, hcm, hcs, ?_⟩⟩
 rw [← htake, List.take_take, Nat.min_eq_left (Nat.mul_le_mul_right _ hk)]
theorem zeroCells_one {z : Array Value} (hz : ∀ u ∈ z.toList, u.oneCell' = true) (h0 : 0 < z.size) (m : Nat) : ∀ u ∈ (Builtin.zeroCells z m).toList, u.oneCell' = true := by
 intro u hu
 simp only [Builtin.zeroCells, Array.toList_map, List.mem_map] at hu
 obtain ⟨i, _, rfl⟩ := hu
 have : i % z.size < z.size := Nat.mod_lt _ h0
 rw [getElem!_pos z _ this]
 exact hz _ (by simp)
/-- 'clear(s[i:])' where s is the call's own. -/
theorem own_clear {P : Program} {t : TypeId} {z : Value} (ht : P.underlying t = some (.slice e)) (hzero : ∀ w, (zeroValue e).run P w = .ok z w) (hzs : z.cells.size = size) (h0 : 0 < size) (hz1 : ∀ u ∈ z.cells.toList, u.oneCell' = true)
  (h : w.ownsRow base e size (.slice (some ⟨g, 0, none⟩) n cap) n xs) {i : Nat} (hi : i ≤ n) (c ty : Nat) :
  ∃ w', (Builtin.clear_ #[t] ty #[.slice (some ⟨g, i * size, none⟩) (n - i) c]).run P w = .ok (.tuple #[]) w' ∧ w'.ownsRow base e size (.slice (some ⟨g, 0, none⟩) i cap) i (xs.take (i * size)) ∧ w.grownBy w' (some g) := by
 rcases Nat.eq_zero_or_pos (n - i) with hn | hn
 ·refine ⟨w, ?_, own_trunc h hi, World.grownBy.refl w _⟩
  rw [hn]
  simp [Builtin.clear_, run_underlying ht]
 ·obtain ⟨cur, hb, hg, hnc, hcm, hcs, htake⟩ := own_unfold h
  have hzl : (Builtin.zeroCells z.cells (n - i)).toList.length = (n - i) * size := by rw [Array.length_toList, size_zeroCells, hzs]
  have hle : i * size + (n - i) * size ≤ cap * size := by rw [← Nat.add_mul]; exact Nat.mul_le_mul_right _ (by omega)
  have hst := run_storeCells_at P g (i * size) e (Builtin.zeroCells z.cells (n - i)).toList 0 cur w hg (by rw [hzl, hcs]; omega) (zeroCells_one hz1 (by omega) _)
  have hm : n - i ≠ 0 := by omega
  rw [Nat.add_zero] at hst
  refine ⟨w.setRow g (cur.toList.take (i * size) ++ (Builtin.zeroCells z.cells (n - i)).toList ++ cur.toList.drop (i * size + (Builtin.zeroCells z.cells (n - i)).toList.length)).toArray, ?_, ⟨?_, .inr ⟨g, cap, _, rfl, hb, setRow_heap w g cur _ e _ hg, by omega, hcm, ?_, ?_⟩⟩, ⟨rfl, rfl, rfl, by simp, fun k _ hk => setRow_other w g k _ (fun e => hk (by simp [e]))⟩⟩
  ·obtain ⟨m, hm'⟩ : ∃ m, n - i = m + 1 := ⟨n - i - 1, by omega⟩
   rw [hm'] at hst ⊢
   simp [Builtin.clear_, run_underlying ht, hzero, hst]
  ·rw [List.length_take, h.1]; exact Nat.min_eq_left (Nat.mul_le_mul_right _ hi)
  ·simp only [List.size_toArray, List.length_append, List.length_take, List.length_drop, Array.length_toList, hcs, hzl]
   omega
  ·rw [List.append_assoc, List.take_append, List.length_take, Array.length_toList, hcs, Nat.min_eq_left (by omega), Nat.sub_self, List.take_zero, List.append_nil, List.take_take, Nat.min_self, ← htake, List.take_take, Nat.min_eq_left (Nat.mul_le_mul_right _ hi)]
end
end Go.Proofs.YtpjmolnkmlpfeaaGreatDoor

/- Of the blocks that stood only some may have changed. -/
namespace Go.Proofs.YtpjmolnkmlpfeaaGreatDoor
set_option maxRecDepth 100000
open Go.RowKit

/-- Of the blocks that stood those alone may have changed of which S is true. -/
structure Mod (S : Nat → Prop) (w w' : World) : Prop where
 os : w'.os = w.os
 tape : w'.tape = w.tape
 output : w'.output = w.output
 size : w.heap.size ≤ w'.heap.size
 block : ∀ k, k < w.heap.size → ¬ S k → w'.heap[k]? = w.heap[k]?
section
variable {S T : Nat → Prop} {w w' w'' : World}
theorem Mod.refl (S : Nat → Prop) (w : World) : Mod S w w := ⟨rfl, rfl, rfl, Nat.le_refl _, fun _ _ _ => rfl⟩
theorem Mod.trans (h : Mod S w w') (k : Mod S w' w'') : Mod S w w'' :=
 ⟨k.os.trans h.os, k.tape.trans h.tape, k.output.trans h.output, Nat.le_trans h.size k.size, fun i hi hn => (k.block i (Nat.lt_of_lt_of_le hi h.size) hn).trans (h.block i hi hn)⟩
/-- What is written in new blocks does not count. -/
theorem Mod.join (h : Mod S w w') (k : Mod T w' w'') (hT : ∀ b, b < w.heap.size → T b → S b) : Mod S w w'' :=
 ⟨k.os.trans h.os, k.tape.trans h.tape, k.output.trans h.output, Nat.le_trans h.size k.size, fun i hi hn => (k.block i (Nat.lt_of_lt_of_le hi h.size) fun ht => hn (hT i hi ht)).trans (h.block i hi hn)⟩
theorem Mod.mono (h : Mod S w w') (hT : ∀ b, b < w.heap.size → S b → T b) : Mod T w w' := ⟨h.os, h.tape, h.output, h.size, fun i hi hn => h.block i hi fun hs => hn (hT i hi hs)⟩
theorem Mod.drew (h : Mod S w w') : Mod S w w'.drew := ⟨h.os, h.tape, h.output, h.size, h.block⟩
theorem Mod.drewN (h : Mod S w w') (n : Nat) : Mod S w (w'.drewN n) := ⟨h.os, h.tape, h.output, h.size, h.block⟩
theorem Mod.alloc (h : Mod S w w') (o : Obj) : Mod S w (w'.alloc o) :=
 ⟨h.os, h.tape, h.output, Nat.le_trans h.size (by simp), fun i hi hn => (Below.heap_alloc w' o i (Nat.lt_of_lt_of_le hi h.size)).trans (h.block i hi hn)⟩
theorem Mod.set (h : Mod S w w') {p : Addr} (hp : p.block < w.heap.size → S p.block) (v : Value) : Mod S w (w'.setCell p v) :=
 ⟨h.os, h.tape, h.output, by simpa [World.setCell] using h.size, fun i hi hn => (Below.heap_setCell w' p v i (by
  rintro rfl
  exact hn (hp hi))).trans (h.block i hi hn)⟩
theorem Mod.setRow (h : Mod S w w') {g : Nat} (hp : g < w.heap.size → S g) (cs : Array Value) : Mod S w (w'.setRow g cs) :=
 ⟨h.os, h.tape, h.output, by simpa using h.size, fun i hi hn => (setRow_other w' g i cs (by
  rintro rfl
  exact hn (hp hi))).trans (h.block i hi hn)⟩
theorem Mod.below {B : Nat} (h : Below B w w') (hB : w.heap.size ≤ B) : Mod S w w' := ⟨h.os, h.tape, h.output, h.size, fun i hi _ => h.block i (Nat.lt_of_lt_of_le hi hB)⟩
theorem Mod.grown {row : Option Nat} (h : w.grownBy w' row) (hS : ∀ g, row = some g → g < w.heap.size → S g) : Mod S w w' :=
 ⟨h.os, h.tape, h.output, h.size, fun i hi hn => h.block i hi fun e => hn (hS i e.symm hi)⟩
/-- Nothing that stood has changed. -/
theorem Mod.to_below (h : Mod S w w') {B : Nat} (hB : B ≤ w.heap.size) (hS : ∀ b, b < B → ¬ S b) : Below B w w' := ⟨h.os, h.tape, h.output, h.size, fun i hi => h.block i (Nat.lt_of_lt_of_le hi hB) (hS i hi)⟩
theorem Blk.mod {g : Nat} {t : TypeId} {cs : Array Value} (h : Blk w g t cs) (hm : Mod S w w') (hg : ¬ S g) : Blk w' g t cs := (hm.block g h.lt hg).trans h
theorem Reads.mod {size n : Nat} {A : Option Addr} {xs : List Value} (h : Reads w size A n xs) (hm : Mod S w w') (hA : ∀ ad, A = some ad → ¬ S ad.block) : Reads w' size A n xs :=
 h.keep hm.size fun p ⟨ad, e, hp⟩ hlt => World.cell?_of_block (hm.block p.block hlt (by rw [hp]; exact hA ad e))
theorem Bytes.mod {A : Option Addr} {l : List UInt8} (h : Bytes w A l) (hm : Mod S w w') (hA : ∀ ad, A = some ad → ¬ S ad.block) : Bytes w' A l := Reads.mod h hm hA
end
end Go.Proofs.YtpjmolnkmlpfeaaGreatDoor

/- Rows at concrete addresses; rows of any width. (XMark holds the first two as well: never import both.) -/
namespace Go.Proofs.YtpjmolnkmlpfeaaGreatDoor
set_option maxRecDepth 100000
open Go.RowKit

theorem spot_none {w : World} {ad : Addr} {v : Value} (h : w.cell? ad = some v) : ad.spot = none := by
 unfold World.cell? at h
 split at h
 ·split at h
  ·cases h
  ·rename_i hs; simpa using hs
 ·cases h
theorem Reads.flat {w : World} {A : Option Addr} {n size : Nat} {xs : List Value} (h : Reads w size A n xs) (hn : 0 < n) (hs : 0 < size) :
  ∃ b o, A = some ⟨b, o, none⟩ ∧ b < w.heap.size ∧ ∀ j u, xs[j]? = some u → w.cell? ⟨b, o + j, none⟩ = some u := by
 obtain ⟨ad, e, hb, hc⟩ := h.2 hn
 have h0 : 0 < xs.length := by rw [h.1]; exact Nat.mul_pos hn hs
 have := hc 0 _ (List.getElem?_eq_getElem h0)
 have hsp := spot_none this
 rw [show ad.add 0 = ad from by unfold Addr.add; rfl] at hsp
 obtain ⟨b, o, s⟩ := ad
 simp only at hsp
 subst hsp
 refine ⟨b, o, e, hb, fun j u hu => ?_⟩
 rw [← add_flat]
 exact hc j u hu
theorem Bytes.flat {w : World} {A : Option Addr} {l : List UInt8} (h : Bytes w A l) (hn : 0 < l.length) : ∃ b o, A = some ⟨b, o, none⟩ ∧ b < w.heap.size ∧ ∀ j (hj : j < l.length), w.cell? ⟨b, o + j, none⟩ = some (.int .u8 (l[j].toNat : Int)) := by
 obtain ⟨b, o, e, hb, hc⟩ := Reads.flat h hn (by decide)
 refine ⟨b, o, e, hb, fun j hj => hc j _ ?_⟩
 rw [List.getElem?_map, List.getElem?_eq_getElem hj]
 rfl
section
variable {α : Type} {f : α → List Value} {K : Nat}
theorem rows_len (hf : ∀ x, (f x).length = K) : ∀ (l : List α), (l.flatMap f).length = l.length * K
 | [] => by simp
 | m :: l => by
  rw [List.flatMap_cons, List.length_append, rows_len hf l, hf, List.length_cons, Nat.add_mul]
  omega
theorem rows_at (hf : ∀ x, (f x).length = K) : ∀ (l : List α) (k i : Nat) (hk : k < l.length), i < K → (l.flatMap f)[k * K + i]? = (f l[k])[i]?
 | m :: l, 0, i, _, hi => by
  rw [List.flatMap_cons, Nat.zero_mul, Nat.zero_add, List.getElem?_append_left (by rw [hf]; exact hi)]
  rfl
 | m :: l, k + 1, i, hk, hi => by
  have e1 : (k + 1) * K + i = K + (k * K + i) := by rw [Nat.add_mul]; omega
  rw [List.flatMap_cons, e1, List.getElem?_append_right (by rw [hf]; omega), hf, Nat.add_sub_cancel_left, rows_at hf l k i (by simpa using hk) hi]
  rfl
end
end Go.Proofs.YtpjmolnkmlpfeaaGreatDoor

/- bytes.Clone. -/
namespace Go.Proofs.YtpjmolnkmlpfeaaGreatDoor
set_option maxRecDepth 100000
open Go.RowKit

theorem bytes_ty : SliceTy Tryz.prog 23 5 1 1 := SliceTy.mk Tryz.underlying23 (z := .int .u8 0) (by kernel_rfl) rfl
theorem info_u8 : (Tryz.prog.info? 5).map (fun i => (i.zero, i.size, i.bytes)) = some (some (.int .u8 0), 1, 1) := by kernel_rfl
theorem size_u8 : (Tryz.prog.info? 5).map (·.size) = some 1 := by kernel_rfl
def CloneB (base : Nat) (l : List UInt8) (e : Ending) (w' : World) : Prop := ∃ A c, e = .returned (.slice A l.length c) ∧ w'.ownsRow base 5 1 (.slice A l.length c) l.length (l.map bv)
set_option maxHeartbeats 400000 in
theorem bclone_any (A : Option Addr) (c : Nat) (l : List UInt8) (w : World) (hA : Bytes w A l) (hn : l.length ≤ 140737488355328) :
  Calls Tryz.prog 85 #[.slice A l.length c] w fun e w' => CloneB w.heap.size l e w' ∧ Below w.heap.size w w' := by
 have hen := fun (w : World) (a : Option Addr) (n c n' c' : Nat) => Lib.run_eql_slice_nil (P := Tryz.prog) w 23 5 a n c n' c' Tryz.underlying23
 rcases A with _ | ad
 ·obtain rfl : l = [] := by
   rcases Nat.eq_zero_or_pos l.length with h0 | h0
   ·exact List.eq_nil_of_length_eq_zero h0
   ·obtain ⟨_, h, _⟩ := hA.2 h0; cases h
  go_enter Tryz.func85, Tryz.ntmps85
  go_wp2_with fail
  go_ret
  exact ⟨⟨_, _, rfl, World.ownsRow_nil _ _ _ _⟩, Below.refl _ _⟩
 ·have hown0 : (w.alloc (.cells #[] 5)).ownsRow w.heap.size 5 1 (.slice (some ⟨w.heap.size, 0, none⟩) 0 0) 0 [] := World.ownsRow_made _ _ _ (Nat.le_refl _) (by simp [maxLen]) rfl
  have hA' := Reads.alloc hA (.cells #[] 5)
  have h1 := bv_one l
  generalize hrow : l.map bv = r at hA' h1
  have HR := Lib.hid hrow
  clear hrow hA
  go_enter Tryz.func85, Tryz.ntmps85
  go_wp2_with (first
   | (at_builtin; refine app_list bytes_ty rfl (s := .tmp 5) (x := .tmp 6) rfl hown0 rfl hA' rfl h1 (by omega) (by simp) ?_; intro v3 w3 hown3 hg3 _))
  go_ret
  obtain ⟨A3, c3, rfl, _, _⟩ := own_slice hown3
  refine ⟨⟨A3, c3, by simp, ?_⟩, (below_new _ _).grown hg3 (by simp) (own_ge hown0)⟩
  rw [HR.out]
  simpa using hown3
theorem row_at_head {w : World} {base : Nat} {e : TypeId} {A : Option Addr} {n c : Nat} {xs : List Value} (h : w.ownsRow base e 1 (.slice A n c) n xs) : ∀ ad, A = some ad → ad.spot = none ∧ ad.off = 0 ∧ base ≤ ad.block ∧ ad.block < w.heap.size := by
 intro ad e
 subst e
 rcases h.2 with ⟨e, _⟩ | ⟨g, c', cur, e, hg, hb, _⟩
 ·cases e
 ·injection e with e
  injection e with e
  subst e
  exact ⟨rfl, rfl, hg, (Array.getElem?_eq_some_iff.1 hb).1⟩
/-- '[]byte(s)': a new row. -/
theorem str_new {P : Program} (w : World) {src dst e : TypeId} (hs : P.underlying src = some .string) (hd : P.underlying dst = some (.slice e)) (he : P.underlying e = some (.int .u8)) (l : List UInt8) (hl : l.length ≤ 9223372036854775807) :
  ∃ c w', (convert src dst (.string ⟨l.toArray⟩)).run P w = .ok (.slice (some ⟨w.heap.size, 0, none⟩) l.length c) w' ∧ Bytes w' (some ⟨w.heap.size, 0, none⟩) l ∧ l.length ≤ c ∧ c ≤ 9223372036854775807 ∧ Below w.heap.size w w' := by
 refine ⟨_, _, run_bytes_of_string w src dst e ⟨l.toArray⟩ hs hd he, ?_, grownCap_ge _ _ _ _, ?_, ?_⟩
 ·refine ⟨by simp, fun _ => ⟨_, rfl, by simp, fun j u hu => ?_⟩⟩
  rw [add_flat]
  have hb : ∀ (C : Array Value) (fr : Nat × Nat), (w.drew.alloc (.cells C e fr)).heap[w.heap.size]? = some (.cells C e fr) := fun C fr => heap_alloc_new w.drew _
  rw [cell_of_row _ _ _ _ _ _ (hb _ _), Nat.zero_add]
  exact bytesRow_at l _ j u hu
 ·exact grownCap_le_maxLen w _ _ _ hl
 ·exact (Below.refl _ _).drew.alloc (Nat.le_refl _) _
theorem str_new_list {P : Program} {w : World} {ops : Array Oper} {rest : List Oper} {o : Oper} {a : Act} {Q : Exit → Act → World → Prop} (hgd : o.guard = none) {x : Operand} {src dst e : TypeId} (ho : o.op = .convert src dst x)
  (hs : P.underlying src = some .string) (hd : P.underlying dst = some (.slice e)) (he : P.underlying e = some (.int .u8)) {l : List UInt8} (hl : l.length ≤ 9223372036854775807) (hx : a.eval x = .string ⟨l.toArray⟩)
  (h : ∀ c w', Bytes w' (some ⟨w.heap.size, 0, none⟩) l → l.length ≤ c → c ≤ 9223372036854775807 → Below w.heap.size w w' → wpList P ops Q rest (a.put o.dst (.slice (some ⟨w.heap.size, 0, none⟩) l.length c)) w') : wpList P ops Q (o :: rest) a w :=
 wpList_plain hgd fun _ hK => by
  obtain ⟨c, w', hrun, h1, h2, h3, h4⟩ := str_new w hs hd he l hl
  unfold Oper.wp execOp
  simp only [ho, hx, Sem.run_bind, hrun, Result.andThen_ok, Sem.run_pure]
  exact hK _ _ (h c w' h1 h2 h3 h4)
theorem Bb {w w' : World} {g : Nat} {t : TypeId} {cs : Array Value} (h : Hid (Blk w g t cs)) (hb : Below w.heap.size w w') : Hid (Blk w' g t cs) := Lib.hid (Blk.below h.out hb h.out.lt)
theorem Tt {w w1 w2 : World} (h : Hid (Below w.heap.size w w1)) (hb : Below w1.heap.size w1 w2) : Hid (Below w.heap.size w w2) := Lib.hid (Below.trans h.out (hb.mono h.out.size))
end Go.Proofs.YtpjmolnkmlpfeaaGreatDoor
