/- Parts: what they are as cells; rows of them. -/
import Derived.Test.YtcklbhplhpohpaaDoorFlat
namespace Go.Proofs.YtcklbhplhpohpaaDoor
open Go.RowKit

/-- A part: its sort, what is asked for, its number, its bytes. -/
structure Pt where
  s : Int64
  m : Int64
  x : UInt64
  A : Option Addr
  b : List UInt8
  c : Nat
namespace Pt
def cells (p : Pt) : List Value := [.int .i64 p.s.toInt, .int .i64 p.m.toInt, .int .u64 (p.x.toNat : Int), .slice p.A p.b.length p.c]
def val (p : Pt) : Value := .agg #[.int .i64 p.s.toInt, .int .i64 p.m.toInt, .int .u64 (p.x.toNat : Int), .slice p.A p.b.length p.c]
def row (l : List Pt) : List Value := l.flatMap cells
theorem row_len (l : List Pt) : (row l).length = l.length * 4 := rows_len (K := 4) (fun _ => rfl) l
theorem row_append (a b : List Pt) : row (a ++ b) = row a ++ row b := List.flatMap_append
theorem row_at (l : List Pt) (k i : Nat) (hk : k < l.length) (hi : i < 4) : (row l)[k * 4 + i]? = (cells l[k])[i]? := rows_at (K := 4) (fun _ => rfl) l k i hk hi
theorem row_one (l : List Pt) : ∀ u ∈ row l, u.oneCell' = true := by
  intro u hu
  obtain ⟨m, _, h⟩ := List.mem_flatMap.1 hu
  simp only [cells, List.mem_cons, List.not_mem_nil, or_false] at h
  rcases h with rfl | rfl | rfl | rfl <;> rfl
/-- A part whose bytes stand. -/
def ok (w : World) (p : Pt) : Prop := Bytes w p.A p.b ∧ p.b.length ≤ p.c ∧ p.c ≤ 9223372036854775807
theorem ok.below {w w' : World} {p : Pt} (h : p.ok w) (hb : Below w.heap.size w w') : p.ok w' := ⟨h.1.below hb, h.2⟩
end Pt
/-- The slice '.slice A l.length _' reads as the parts l. -/
def Pts (w : World) (A : Option Addr) (l : List Pt) : Prop := Reads w 4 A l.length (Pt.row l) ∧ ∀ p ∈ l, p.ok w
theorem Pts.below {w w' : World} {A : Option Addr} {l : List Pt} (h : Pts w A l) (hb : Below w.heap.size w w') : Pts w' A l := ⟨Reads.below h.1 hb, fun p hp => (h.2 p hp).below hb⟩
theorem Pts.nil_ (w : World) (A : Option Addr) : Pts w A [] := ⟨Reads.nil_ w 4 A, fun _ h => by cases h⟩
theorem Pts.at_ {w : World} {A : Option Addr} {l : List Pt} (h : Pts w A l) {k : Nat} (hk : k < l.length) :
    ∃ b o, A = some ⟨b, o, none⟩ ∧ b < w.heap.size ∧ w.cell? ⟨b, o + k * 4, none⟩ = some (.int .i64 l[k].s.toInt) ∧ w.cell? ⟨b, o + k * 4 + 1, none⟩ = some (.int .i64 l[k].m.toInt) ∧ w.cell? ⟨b, o + k * 4 + 2, none⟩ = some (.int .u64 (l[k].x.toNat : Int)) ∧ w.cell? ⟨b, o + k * 4 + 3, none⟩ = some (.slice l[k].A l[k].b.length l[k].c) := by
  obtain ⟨b, o, e, hb, hc⟩ := Reads.flat h.1 (by omega) (by decide)
  exact ⟨b, o, e, hb, hc (k * 4) _ ((Pt.row_at l k 0 hk (by decide)).trans rfl), hc (k * 4 + 1) _ ((Pt.row_at l k 1 hk (by decide)).trans rfl), hc (k * 4 + 2) _ ((Pt.row_at l k 2 hk (by decide)).trans rfl), hc (k * 4 + 3) _ ((Pt.row_at l k 3 hk (by decide)).trans rfl)⟩
end Go.Proofs.YtcklbhplhpohpaaDoor
