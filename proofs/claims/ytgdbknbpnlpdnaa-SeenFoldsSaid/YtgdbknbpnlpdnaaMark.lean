/- Marks and entries: what they are as cells; rows of them. -/
import Derived.Test.YtgdbknbpnlpdnaaJA
namespace Go.Proofs.Ytgdbknbpnlpdnaa
set_option linter.unusedVariables false
set_option linter.unusedSimpArgs false
open Go.RowKit

/-- A producer's mark. -/
structure Mk where
  p : Int64
  s : UInt64
  o : UInt64
deriving DecidableEq, Inhabited
/-- An entry: whose, its number, and its body as a slice that nobody reads here. -/
structure En where
  p : Int64
  s : UInt64
  A : Option Addr
  n : Nat
  c : Nat
def Mk.cells (m : Mk) : List Value := [.int .i64 m.p.toInt, .int .u64 (m.s.toNat : Int), .int .u64 (m.o.toNat : Int)]
def Mk.val (m : Mk) : Value := .agg #[.int .i64 m.p.toInt, .int .u64 (m.s.toNat : Int), .int .u64 (m.o.toNat : Int)]
def En.cells (m : En) : List Value := [.int .i64 m.p.toInt, .int .u64 (m.s.toNat : Int), .slice m.A m.n m.c]
def En.val (m : En) : Value := .agg #[.int .i64 m.p.toInt, .int .u64 (m.s.toNat : Int), .slice m.A m.n m.c]

section
variable {α : Type} {f : α → List Value}
theorem row3_len (hf : ∀ x, (f x).length = 3) : ∀ (l : List α), (l.flatMap f).length = l.length * 3
  | [] => rfl
  | m :: l => by
    rw [List.flatMap_cons, List.length_append, row3_len hf l, hf]
    simp
    omega
theorem row3_at (hf : ∀ x, (f x).length = 3) : ∀ (l : List α) (k i : Nat) (hk : k < l.length), i < 3 → (l.flatMap f)[k * 3 + i]? = (f l[k])[i]?
  | m :: l, 0, i, _, hi => by
    rw [List.flatMap_cons, Nat.zero_mul, Nat.zero_add, List.getElem?_append_left (by rw [hf]; exact hi)]
    rfl
  | m :: l, k + 1, i, hk, hi => by
    rw [List.flatMap_cons, List.getElem?_append_right (by rw [hf]; omega)]
    have : (k + 1) * 3 + i - (f m).length = k * 3 + i := by rw [hf]; omega
    rw [this, row3_at hf l k i (by simpa using hk) hi]
    rfl
theorem row3_take (hf : ∀ x, (f x).length = 3) : ∀ (l : List α) (k : Nat), (l.flatMap f).take (k * 3) = (l.take k).flatMap f
  | [], k => by simp
  | m :: l, 0 => by simp
  | m :: l, k + 1 => by
    rw [List.flatMap_cons, List.take_succ_cons, List.flatMap_cons, List.take_append, List.take_of_length_le (by rw [hf]; omega)]
    have : (k + 1) * 3 - (f m).length = k * 3 := by rw [hf]; omega
    rw [this, row3_take hf l k]
theorem row3_drop (hf : ∀ x, (f x).length = 3) : ∀ (l : List α) (k : Nat), (l.flatMap f).drop (k * 3) = (l.drop k).flatMap f
  | [], k => by simp
  | m :: l, 0 => by simp
  | m :: l, k + 1 => by
    rw [List.flatMap_cons, List.drop_succ_cons, List.drop_append, List.drop_of_length_le (by rw [hf]; omega)]
    have : (k + 1) * 3 - (f m).length = k * 3 := by rw [hf]; omega
    rw [this, row3_drop hf l k, List.nil_append]
end
theorem spot_none {w : World} {ad : Addr} {v : Value} (h : w.cell? ad = some v) : ad.spot = none := by
  unfold World.cell? at h
  split at h
  · split at h
    · cases h
    · rename_i hs; simpa using hs
  · cases h
theorem Reads.flat {w : World} {A : Option Addr} {n size : Nat} {xs : List Value} (h : Reads w size A n xs) (hn : 0 < n) (hs : 0 < size) :
    ∃ b o, A = some ⟨b, o, none⟩ ∧ b < w.heap.size ∧ ∀ j u, xs[j]? = some u → w.cell? ⟨b, o + j, none⟩ = some u := by
  obtain ⟨ad, e, hb, hc⟩ := h.2 hn
  have h0 : 0 < xs.length := by rw [h.1]; exact Nat.mul_pos hn hs
  have := hc 0 _ (List.getElem?_eq_getElem h0)
  have hsp := spot_none this
  rw [show ad.add 0 = ad from by unfold Addr.add; rfl] at hsp
  obtain ⟨b, o, s⟩ := ad
  simp only at hsp
  subst hsp
  refine ⟨b, o, e, hb, fun j u hu => ?_⟩
  rw [← add_flat]
  exact hc j u hu

namespace Mk
def row (l : List Mk) : List Value := l.flatMap cells
theorem row_len (l : List Mk) : (row l).length = l.length * 3 := row3_len (fun _ => rfl) l
theorem row_append (a b : List Mk) : row (a ++ b) = row a ++ row b := List.flatMap_append
theorem row_at (l : List Mk) (k i : Nat) (hk : k < l.length) (hi : i < 3) : (row l)[k * 3 + i]? = (cells l[k])[i]? := row3_at (fun _ => rfl) l k i hk hi
theorem row_take (l : List Mk) (k : Nat) : (row l).take (k * 3) = row (l.take k) := row3_take (fun _ => rfl) l k
theorem row_drop (l : List Mk) (k : Nat) : (row l).drop (k * 3) = row (l.drop k) := row3_drop (fun _ => rfl) l k
theorem row_one (l : List Mk) : ∀ u ∈ row l, u.oneCell' = true := by
  intro u hu
  obtain ⟨m, _, h⟩ := List.mem_flatMap.1 hu
  simp only [cells, List.mem_cons, List.not_mem_nil, or_false] at h
  rcases h with rfl | rfl | rfl <;> rfl
theorem row_nil : row [] = [] := rfl
theorem row_sing (m : Mk) : row [m] = cells m := by simp [row]
end Mk
namespace En
def row (l : List En) : List Value := l.flatMap cells
theorem row_len (l : List En) : (row l).length = l.length * 3 := row3_len (fun _ => rfl) l
theorem row_append (a b : List En) : row (a ++ b) = row a ++ row b := List.flatMap_append
theorem row_at (l : List En) (k i : Nat) (hk : k < l.length) (hi : i < 3) : (row l)[k * 3 + i]? = (cells l[k])[i]? := row3_at (fun _ => rfl) l k i hk hi
theorem row_take (l : List En) (k : Nat) : (row l).take (k * 3) = row (l.take k) := row3_take (fun _ => rfl) l k
theorem row_drop (l : List En) (k : Nat) : (row l).drop (k * 3) = row (l.drop k) := row3_drop (fun _ => rfl) l k
theorem row_one (l : List En) : ∀ u ∈ row l, u.oneCell' = true := by
  intro u hu
  obtain ⟨m, _, h⟩ := List.mem_flatMap.1 hu
  simp only [cells, List.mem_cons, List.not_mem_nil, or_false] at h
  rcases h with rfl | rfl | rfl <;> rfl
end En
/-- The slice '.slice A ms.length _' reads as the marks ms. -/
def Marks (w : World) (A : Option Addr) (ms : List Mk) : Prop := Reads w 3 A ms.length (Mk.row ms)
def Entries (w : World) (A : Option Addr) (ms : List En) : Prop := Reads w 3 A ms.length (En.row ms)
theorem Marks.below {w w' : World} {A : Option Addr} {ms : List Mk} (h : Marks w A ms) (hb : Below w.heap.size w w') : Marks w' A ms := Reads.below h hb
theorem Entries.below {w w' : World} {A : Option Addr} {ms : List En} (h : Entries w A ms) (hb : Below w.heap.size w w') : Entries w' A ms := Reads.below h hb
theorem Marks.nil_ (w : World) (A : Option Addr) : Marks w A [] := Reads.nil_ w 3 A
theorem Marks.at_ {w : World} {A : Option Addr} {ms : List Mk} (h : Marks w A ms) {k : Nat} (hk : k < ms.length) :
    ∃ b o, A = some ⟨b, o, none⟩ ∧ b < w.heap.size ∧ w.cell? ⟨b, o + k * 3, none⟩ = some (.int .i64 ms[k].p.toInt) ∧ w.cell? ⟨b, o + k * 3 + 1, none⟩ = some (.int .u64 (ms[k].s.toNat : Int)) ∧ w.cell? ⟨b, o + k * 3 + 2, none⟩ = some (.int .u64 (ms[k].o.toNat : Int)) := by
  obtain ⟨b, o, e, hb, hc⟩ := Reads.flat h (by omega) (by decide)
  exact ⟨b, o, e, hb, hc (k * 3) _ ((Mk.row_at ms k 0 hk (by decide)).trans rfl), hc (k * 3 + 1) _ ((Mk.row_at ms k 1 hk (by decide)).trans rfl), hc (k * 3 + 2) _ ((Mk.row_at ms k 2 hk (by decide)).trans rfl)⟩
theorem Entries.at_ {w : World} {A : Option Addr} {ms : List En} (h : Entries w A ms) {k : Nat} (hk : k < ms.length) :
    ∃ b o, A = some ⟨b, o, none⟩ ∧ b < w.heap.size ∧ w.cell? ⟨b, o + k * 3, none⟩ = some (.int .i64 ms[k].p.toInt) ∧ w.cell? ⟨b, o + k * 3 + 1, none⟩ = some (.int .u64 (ms[k].s.toNat : Int)) ∧ w.cell? ⟨b, o + k * 3 + 2, none⟩ = some (.slice ms[k].A ms[k].n ms[k].c) := by
  obtain ⟨b, o, e, hb, hc⟩ := Reads.flat h (by omega) (by decide)
  exact ⟨b, o, e, hb, hc (k * 3) _ ((En.row_at ms k 0 hk (by decide)).trans rfl), hc (k * 3 + 1) _ ((En.row_at ms k 1 hk (by decide)).trans rfl), hc (k * 3 + 2) _ ((En.row_at ms k 2 hk (by decide)).trans rfl)⟩
theorem Reads.three (w : World) (t : TypeId) (us : List Value) (cs : Array Value) (n : Nat) (fr : Nat × Nat) (hc : cs = us.toArray) (hn : us.length = n * 3) : Reads (w.alloc (.cells cs t fr)) 3 (some ⟨w.heap.size, 0, none⟩) n us := by
  subst hc
  refine ⟨hn, fun _ => ⟨_, rfl, by simp, fun j u hu => ?_⟩⟩
  rw [add_flat]
  have hb : (w.alloc (.cells us.toArray t fr)).heap[w.heap.size]? = some (.cells us.toArray t fr) := heap_alloc_new w _
  rw [cell_of_row _ _ _ _ _ _ hb]
  simpa using hu
/-- The new slice of a few marks. -/
theorem Marks.new (w : World) (t : TypeId) (ms : List Mk) (cs : Array Value) (fr : Nat × Nat) (h : cs = (Mk.row ms).toArray) : Marks (w.alloc (.cells cs t fr)) (some ⟨w.heap.size, 0, none⟩) ms :=
  Reads.three w t _ cs _ fr h (Mk.row_len ms)
theorem row3_set {α : Type} {f : α → List Value} (g : α → Value × Value × Value) (hf : ∀ x, f x = [(g x).1, (g x).2.1, (g x).2.2]) : ∀ (l : List α) (j : Nat) (m : α), (((l.flatMap f).set (j * 3) (g m).1).set (j * 3 + 1) (g m).2.1).set (j * 3 + 2) (g m).2.2 = (l.set j m).flatMap f
  | [], j, m => by simp
  | x :: l, 0, m => by
    rw [List.flatMap_cons, hf x, List.set_cons_zero, List.flatMap_cons, hf m]
    rfl
  | x :: l, j + 1, m => by
    rw [List.flatMap_cons, hf x, List.set_cons_succ, List.flatMap_cons, hf x, ← row3_set g hf l j m]
    have e : (j + 1) * 3 = j * 3 + 1 + 1 + 1 := by omega
    rw [e]
    simp only [List.cons_append, List.nil_append, List.set_cons_succ]
theorem Mk.row_set (l : List Mk) (j : Nat) (m : Mk) : (((row l).set (j * 3) (.int .i64 m.p.toInt)).set (j * 3 + 1) (.int .u64 (m.s.toNat : Int))).set (j * 3 + 2) (.int .u64 (m.o.toNat : Int)) = row (l.set j m) :=
  row3_set (f := Mk.cells) (fun m : Mk => ((.int .i64 m.p.toInt, .int .u64 (m.s.toNat : Int), .int .u64 (m.o.toNat : Int)) : Value × Value × Value)) (fun _ => rfl) l j m
/-- A row of marks of the call's own. -/
def OwnM (w : World) (base : Nat) (v : Value) (ms : List Mk) : Prop := w.ownsRow base 38 3 v ms.length (Mk.row ms)
section
variable {w w' : World} {base : Nat} {v : Value} {ms : List Mk}
theorem OwnM.marks {A : Option Addr} {n c : Nat} (h : OwnM w base (.slice A n c) ms) : Marks w A ms := by
  obtain ⟨A', c', e, _, _⟩ := own_slice h
  injection e with e1 e2 e3
  subst e1 e2 e3
  exact Reads.of_own h
theorem OwnM.form (h : OwnM w base v ms) : ∃ A c, v = .slice A ms.length c ∧ ms.length ≤ c ∧ c ≤ maxLen := own_slice h
theorem OwnM.ptr (h : OwnM w base v ms) (hn : 0 < ms.length) : ∃ g c, v = .slice (some ⟨g, 0, none⟩) ms.length c ∧ base ≤ g ∧ g < w.heap.size ∧ ms.length ≤ c ∧ c ≤ maxLen := by
  obtain ⟨g, c, rfl, h1, h2, h3⟩ := own_ptr h hn
  exact ⟨g, c, rfl, h1, (h.lt g rfl).2, h2, h3⟩
theorem OwnM.call (h : OwnM w base v ms) (hb : Below w.heap.size w w') : OwnM w' base v ms := own_call h hb
theorem OwnM.alloc (h : OwnM w base v ms) (o : Obj) : OwnM (w.alloc o) base v ms := World.ownsRow.alloc h o
theorem OwnM.drew (h : OwnM w base v ms) : OwnM w.drew base v ms := h
theorem OwnM.less {base' : Nat} (h : OwnM w base v ms) (hb : base' ≤ base) : OwnM w base' v ms := base_le h hb
theorem OwnM.nil_ (w : World) (base : Nat) : OwnM w base (.slice none 0 0) [] := World.ownsRow_nil _ _ _ _
theorem OwnM.at_ {g c : Nat} (h : OwnM w base (.slice (some ⟨g, 0, none⟩) ms.length c) ms) {k : Nat} (hk : k < ms.length) :
    w.cell? ⟨g, k * 3, none⟩ = some (.int .i64 ms[k].p.toInt) ∧ w.cell? ⟨g, k * 3 + 1, none⟩ = some (.int .u64 (ms[k].s.toNat : Int)) ∧ w.cell? ⟨g, k * 3 + 2, none⟩ = some (.int .u64 (ms[k].o.toNat : Int)) ∧ (∀ j, w.frozen? ⟨g, j, none⟩ = false) ∧ g < w.heap.size ∧ base ≤ g :=
  ⟨(World.ownsRow.cellAt h _ (by omega)).trans (Mk.row_at ms k 0 hk (by decide)), (World.ownsRow.cellAt h _ (by omega)).trans (Mk.row_at ms k 1 hk (by decide)), (World.ownsRow.cellAt h _ (by omega)).trans (Mk.row_at ms k 2 hk (by decide)), fun j => World.ownsRow.frozenAt h j, (World.ownsRow.lt h g rfl).2, (World.ownsRow.lt h g rfl).1⟩
theorem OwnM.set {g c : Nat} (h : OwnM w base (.slice (some ⟨g, 0, none⟩) ms.length c) ms) (j : Nat) (m : Mk) :
    OwnM (((w.setCell ⟨g, j * 3, none⟩ (.int .i64 m.p.toInt)).setCell ⟨g, j * 3 + 1, none⟩ (.int .u64 (m.s.toNat : Int))).setCell ⟨g, j * 3 + 2, none⟩ (.int .u64 (m.o.toNat : Int))) base (.slice (some ⟨g, 0, none⟩) ms.length c) (ms.set j m) ∧
    w.grownBy (((w.setCell ⟨g, j * 3, none⟩ (.int .i64 m.p.toInt)).setCell ⟨g, j * 3 + 1, none⟩ (.int .u64 (m.s.toNat : Int))).setCell ⟨g, j * 3 + 2, none⟩ (.int .u64 (m.o.toNat : Int))) (some g) := by
  obtain ⟨h1, g1⟩ := World.ownsRow.stored h (j * 3) (.int .i64 m.p.toInt)
  obtain ⟨h2, g2⟩ := World.ownsRow.stored h1 (j * 3 + 1) (.int .u64 (m.s.toNat : Int))
  obtain ⟨h3, g3⟩ := World.ownsRow.stored h2 (j * 3 + 2) (.int .u64 (m.o.toNat : Int))
  rw [Mk.row_set] at h3
  refine ⟨?_, only_trans (only_trans g1 g2) g3⟩
  unfold OwnM
  rw [List.length_set]
  exact h3
theorem OwnM.take {g c : Nat} (h : OwnM w base (.slice (some ⟨g, 0, none⟩) ms.length c) ms) {k : Nat} (hk : k ≤ ms.length) : OwnM w base (.slice (some ⟨g, 0, none⟩) k c) (ms.take k) := by
  have := own_trunc h hk
  rw [Mk.row_take] at this
  unfold OwnM
  rw [List.length_take, Nat.min_eq_left hk]
  exact this
end
end Go.Proofs.Ytgdbknbpnlpdnaa
