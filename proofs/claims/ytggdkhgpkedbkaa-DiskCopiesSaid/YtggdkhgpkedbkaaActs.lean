/- Calls as data: rows of them; whether they are too many. -/
import Derived.Test.YtggdkhgpkedbkaaDiskX
import Derived.Test.YtggdkhgpkedbkaaFlat
namespace Go.Proofs.Ytggdkhgpkedbkaa
open Go.RowKit

/-- A call: which one, its names, its bytes, its numbers. -/
structure Ac where
  k : Int64
  n : Nm
  t : Nm
  A : Option Addr
  b : List UInt8
  c : Nat
  p : Int64
  q : Int64
namespace Ac
def cells (x : Ac) : List Value := [.int .i64 x.k.toInt, .string ⟨x.n.toArray⟩, .string ⟨x.t.toArray⟩, .slice x.A x.b.length x.c, .int .i64 x.p.toInt, .int .i64 x.q.toInt]
def val (x : Ac) : Value := .agg #[.int .i64 x.k.toInt, .string ⟨x.n.toArray⟩, .string ⟨x.t.toArray⟩, .slice x.A x.b.length x.c, .int .i64 x.p.toInt, .int .i64 x.q.toInt]
def row (l : List Ac) : List Value := l.flatMap cells
theorem row_at (l : List Ac) (k i : Nat) (hk : k < l.length) (hi : i < 6) : (row l)[k * 6 + i]? = (cells l[k])[i]? := rows_at (K := 6) (fun _ => rfl) l k i hk hi
/-- A call whose bytes stand. -/
structure ok (w : World) (x : Ac) : Prop where
  bytes : Bytes w x.A x.b
  room : x.b.length ≤ x.c
  cap : x.c ≤ 9223372036854775807
  ln : x.n.length ≤ 140737488351232
  lt : x.t.length ≤ 140737488351232
  lb : x.b.length ≤ 140737488351232
theorem ok.below {w w' : World} {x : Ac} (h : x.ok w) (hb : Below w.heap.size w w') : x.ok w' := ⟨h.bytes.below hb, h.room, h.cap, h.ln, h.lt, h.lb⟩
def cost (x : Ac) : Nat := 1 + (x.n.length + x.t.length + x.b.length) / 64
end Ac
/-- The slice '.slice A l.length _' reads as the calls l. -/
def Acts (w : World) (A : Option Addr) (l : List Ac) : Prop := Reads w 6 A l.length (Ac.row l) ∧ ∀ x ∈ l, x.ok w
theorem Acts.below {w w' : World} {A : Option Addr} {l : List Ac} (h : Acts w A l) (hb : Below w.heap.size w w') : Acts w' A l := ⟨Reads.below h.1 hb, fun x hx => (h.2 x hx).below hb⟩
theorem Acts.at_ {w : World} {A : Option Addr} {l : List Ac} (h : Acts w A l) {k : Nat} (hk : k < l.length) :
    ∃ b o, A = some ⟨b, o, none⟩ ∧ b < w.heap.size ∧ w.cell? ⟨b, o + k * 6, none⟩ = some (.int .i64 l[k].k.toInt) ∧ w.cell? ⟨b, o + k * 6 + 1, none⟩ = some (.string ⟨l[k].n.toArray⟩) ∧ w.cell? ⟨b, o + k * 6 + 2, none⟩ = some (.string ⟨l[k].t.toArray⟩) ∧
      w.cell? ⟨b, o + k * 6 + 3, none⟩ = some (.slice l[k].A l[k].b.length l[k].c) ∧ w.cell? ⟨b, o + k * 6 + 4, none⟩ = some (.int .i64 l[k].p.toInt) ∧ w.cell? ⟨b, o + k * 6 + 5, none⟩ = some (.int .i64 l[k].q.toInt) := by
  obtain ⟨b, o, e, hb, hc⟩ := Reads.flat h.1 (by omega) (by decide)
  exact ⟨b, o, e, hb, hc (k * 6) _ ((Ac.row_at l k 0 hk (by decide)).trans rfl), hc (k * 6 + 1) _ ((Ac.row_at l k 1 hk (by decide)).trans rfl), hc (k * 6 + 2) _ ((Ac.row_at l k 2 hk (by decide)).trans rfl),
    hc (k * 6 + 3) _ ((Ac.row_at l k 3 hk (by decide)).trans rfl), hc (k * 6 + 4) _ ((Ac.row_at l k 4 hk (by decide)).trans rfl), hc (k * 6 + 5) _ ((Ac.row_at l k 5 hk (by decide)).trans rfl)⟩
def costs (l : List Ac) : Nat := (l.map Ac.cost).sum
theorem costs_take {l : List Ac} {k : Nat} (hk : k < l.length) : costs (l.take (k + 1)) = costs (l.take k) + l[k].cost := by
  unfold costs
  rw [List.take_succ_eq_append_getElem hk, List.map_append, List.sum_append]
  simp
theorem costs_le (l : List Ac) (k : Nat) : costs (l.take k) ≤ costs l := by
  unfold costs
  conv => rhs; rw [← List.take_append_drop k l, List.map_append, List.sum_append]
  omega
theorem costs_len (l : List Ac) : l.length ≤ costs l := by
  unfold costs
  induction l with
  | nil => simp
  | cons x l ih =>
    have : 1 ≤ x.cost := by unfold Ac.cost; omega
    rw [List.map_cons, List.sum_cons, List.length_cons]
    omega
set_option maxHeartbeats 1000000 in
theorem many_any (A : Option Addr) (c : Nat) (l : List Ac) (w : World) (hA : Acts w A l) (hn : l.length ≤ 9223372036854775806) :
    Calls Try.prog 10 #[.slice A l.length c] w fun e w' => e = .returned (.bool (decide (400 < costs l))) ∧ Below w.heap.size w w' := by
  go_enter Try.func10, Try.ntmps10
  go_wp2_with fail
  go_loopw [3, 4] (fun s i wr => ∃ k : Nat, k ≤ l.length ∧ i = .int .i64 k ∧ s = .int .i64 (costs (l.take k) : Nat) ∧ costs (l.take k) ≤ 400 ∧ Below w.heap.size w wr) (fun _ i _ => l.length - (intOf i).toNat)
  case atStart => exact ⟨0, by omega, rfl, rfl, by simp [costs], Below.refl _ _⟩
  case round =>
    obtain ⟨k, hk, rfl, rfl, hs, hb⟩ := hrel
    by_cases hlt : k < l.length
    · obtain ⟨b, o, rfl, had, c0, c1, c2, c3, _, _⟩ := hA.at_ hlt
      replace c1 := (hb.cell (p := ⟨b, o + k * 6 + 1, none⟩) had).trans c1
      replace c2 := (hb.cell (p := ⟨b, o + k * 6 + 2, none⟩) had).trans c2
      replace c3 := (hb.cell (p := ⟨b, o + k * 6 + 3, none⟩) had).trans c3
      have hok := hA.2 _ (List.getElem_mem hlt)
      have hl1 := hok.ln
      have hl2 := hok.lt
      have hl3 := hok.lb
      have HC := Lib.hid (costs_take hlt)
      unfold Ac.cost at HC
      generalize l[k] = x at c1 c2 c3 hl1 hl2 hl3 HC
      generalize costs (l.take k) = s at hs HC ⊢
      clear hok c0
      have z1 := size_nv x.n
      have z2 := size_nv x.t
      have hw1 : IntKind.i64.wrap ((x.n.length : Int) + (x.t.length : Int)) = (x.n.length : Int) + (x.t.length : Int) := by rw [IntKind.wrap_i64]; omega
      have hw2 : IntKind.i64.wrap ((x.n.length : Int) + (x.t.length : Int) + (x.b.length : Int)) = (x.n.length : Int) + (x.t.length : Int) + (x.b.length : Int) := by rw [IntKind.wrap_i64]; omega
      obtain ⟨q, hq⟩ : ∃ q : Nat, (x.n.length + x.t.length + x.b.length) / 64 = q := ⟨_, rfl⟩
      rw [hq] at HC
      have hq1 : ((x.n.length : Int) + (x.t.length : Int) + (x.b.length : Int)).tdiv 64 = (q : Int) := by
        rw [Int.tdiv_eq_ediv_of_nonneg (by omega), ← hq]
        omega
      have hql : q ≤ 140737488351232 := by omega
      clear hq
      have hq2 : IntKind.i64.wrap (q : Int) = (q : Int) := by rw [IntKind.wrap_i64]; omega
      have hq3 : IntKind.i64.wrap (1 + (q : Int)) = 1 + (q : Int) := by rw [IntKind.wrap_i64]; omega
      have hq4 : IntKind.i64.wrap ((s : Int) + (1 + (q : Int))) = ((s + (1 + q) : Nat) : Int) := by rw [IntKind.wrap_i64]; omega
      go_wp2_with fail
      by_cases hbig : 400 < s + (1 + q)
      · have hd : decide ((400 : Int) < ((s + (1 + q) : Nat) : Int)) = true := by simp; omega
        have HB := Lib.hid hbig
        refine PF.pf_begin (by kernel_rfl) ?_
        refine PF.pf_take0 0 (by kernel_rfl) rfl (fun _ _ _ _ _ h => h) (by kernel_rfl) (fun u => by go_simp; try rfl) ?_
        try simp only [Act.put, List.setIfInBounds_toArray, List.set_cons_zero, List.set_cons_succ]
        refine PF.pf_take0 1 (by kernel_rfl) rfl (fun _ _ _ _ _ h => h) (by kernel_rfl) (fun u => by go_simp; try rfl) ?_
        try simp only [Act.put, List.setIfInBounds_toArray, List.set_cons_zero, List.set_cons_succ]
        refine PF.pf_take0 2 (by kernel_rfl) rfl (fun _ _ _ _ _ h => h) (by kernel_rfl) (fun u => by go_simp; try rfl) ?_
        try simp only [Act.put, List.setIfInBounds_toArray, List.set_cons_zero, List.set_cons_succ]
        refine PF.pf_take0 3 (by kernel_rfl) rfl (fun _ _ _ _ _ h => h) (by kernel_rfl) (fun u => by go_simp; try rfl) ?_
        try simp only [Act.put, List.setIfInBounds_toArray, List.set_cons_zero, List.set_cons_succ]
        refine PF.pf_take0 4 (by kernel_rfl) rfl (fun _ _ _ _ _ h => h) (by kernel_rfl) (fun u => by go_simp; try rfl) ?_
        try simp only [Act.put, List.setIfInBounds_toArray, List.set_cons_zero, List.set_cons_succ]
        refine PF.pf_take1 5 (PF.Same (b) _) (by kernel_rfl) rfl (fun _ _ _ _ _ h => h) (by kernel_rfl) (PF.Same.refl _ _) (fun u hu => by have hcu := hu.cell; go_simp; try rfl) ?_
        try simp only [Act.put, List.setIfInBounds_toArray, List.set_cons_zero, List.set_cons_succ]
        refine PF.pf_take0 6 (by kernel_rfl) rfl (fun _ _ _ _ _ h => h) (by kernel_rfl) (fun u => by go_simp; try rfl) ?_
        try simp only [Act.put, List.setIfInBounds_toArray, List.set_cons_zero, List.set_cons_succ]
        refine PF.pf_take0 7 (by kernel_rfl) rfl (fun _ _ _ _ _ h => h) (by kernel_rfl) (fun u => by go_simp; try rfl) ?_
        try simp only [Act.put, List.setIfInBounds_toArray, List.set_cons_zero, List.set_cons_succ]
        refine PF.pf_take0 8 (by kernel_rfl) rfl (fun _ _ _ _ _ h => h) (by kernel_rfl) (fun u => by go_simp; try rfl) ?_
        try simp only [Act.put, List.setIfInBounds_toArray, List.set_cons_zero, List.set_cons_succ]
        refine PF.pf_take0 9 (by kernel_rfl) rfl (fun _ _ _ _ _ h => h) (by kernel_rfl) (fun u => by go_simp; try rfl) ?_
        try simp only [Act.put, List.setIfInBounds_toArray, List.set_cons_zero, List.set_cons_succ]
        refine PF.pf_take0 10 (by kernel_rfl) rfl (fun _ _ _ _ _ h => h) (by kernel_rfl) (fun u => by go_simp; try rfl) ?_
        try simp only [Act.put, List.setIfInBounds_toArray, List.set_cons_zero, List.set_cons_succ]
        refine PF.pf_take1 11 (PF.Same (b) _) (by kernel_rfl) rfl (fun _ _ _ _ _ h => h) (by kernel_rfl) (PF.Same.refl _ _) (fun u hu => by have hcu := hu.cell; go_simp; try rfl) ?_
        try simp only [Act.put, List.setIfInBounds_toArray, List.set_cons_zero, List.set_cons_succ]
        refine PF.pf_take0 12 (by kernel_rfl) rfl (fun _ _ _ _ _ h => h) (by kernel_rfl) (fun u => by go_simp; try rfl) ?_
        try simp only [Act.put, List.setIfInBounds_toArray, List.set_cons_zero, List.set_cons_succ]
        refine PF.pf_take0 13 (by kernel_rfl) rfl (fun _ _ _ _ _ h => h) (by kernel_rfl) (fun u => by go_simp; try rfl) ?_
        try simp only [Act.put, List.setIfInBounds_toArray, List.set_cons_zero, List.set_cons_succ]
        refine PF.pf_take0 14 (by kernel_rfl) rfl (fun _ _ _ _ _ h => h) (by kernel_rfl) (fun u => by go_simp; try rfl) ?_
        try simp only [Act.put, List.setIfInBounds_toArray, List.set_cons_zero, List.set_cons_succ]
        refine PF.pf_take0 15 (by kernel_rfl) rfl (fun _ _ _ _ _ h => h) (by kernel_rfl) (fun u => by go_simp; try rfl) ?_
        try simp only [Act.put, List.setIfInBounds_toArray, List.set_cons_zero, List.set_cons_succ]
        refine PF.pf_take0 16 (by kernel_rfl) rfl (fun _ _ _ _ _ h => h) (by kernel_rfl) (fun u => by go_simp; try rfl) ?_
        try simp only [Act.put, List.setIfInBounds_toArray, List.set_cons_zero, List.set_cons_succ]
        refine PF.pf_take0 17 (by kernel_rfl) rfl (fun _ _ _ _ _ h => h) (by kernel_rfl) (fun u => by go_simp; try rfl) ?_
        try simp only [Act.put, List.setIfInBounds_toArray, List.set_cons_zero, List.set_cons_succ]
        refine PF.pf_take1 18 (PF.Same (b) _) (by kernel_rfl) rfl (fun _ _ _ _ _ h => h) (by kernel_rfl) (PF.Same.refl _ _) (fun u hu => by have hcu := hu.cell; go_simp; try rfl) ?_
        try simp only [Act.put, List.setIfInBounds_toArray, List.set_cons_zero, List.set_cons_succ]
        refine PF.pf_take0 19 (by kernel_rfl) rfl (fun _ _ _ _ _ h => h) (by kernel_rfl) (fun u => by go_simp; try rfl) ?_
        try simp only [Act.put, List.setIfInBounds_toArray, List.set_cons_zero, List.set_cons_succ]
        refine PF.pf_take0 20 (by kernel_rfl) rfl (fun _ _ _ _ _ h => h) (by kernel_rfl) (fun u => by go_simp; try rfl) ?_
        try simp only [Act.put, List.setIfInBounds_toArray, List.set_cons_zero, List.set_cons_succ]
        refine PF.pf_take0 21 (by kernel_rfl) rfl (fun _ _ _ _ _ h => h) (by kernel_rfl) (fun u => by go_simp; try rfl) ?_
        try simp only [Act.put, List.setIfInBounds_toArray, List.set_cons_zero, List.set_cons_succ]
        refine PF.pf_take0 22 (by kernel_rfl) rfl (fun _ _ _ _ _ h => h) (by kernel_rfl) (fun u => by go_simp; try rfl) ?_
        try simp only [Act.put, List.setIfInBounds_toArray, List.set_cons_zero, List.set_cons_succ]
        refine PF.pf_take0 23 (by kernel_rfl) rfl (fun _ _ _ _ _ h => h) (by kernel_rfl) (fun u => by go_simp; try rfl) ?_
        try simp only [Act.put, List.setIfInBounds_toArray, List.set_cons_zero, List.set_cons_succ]
        refine PF.pf_take0 24 (by kernel_rfl) rfl (fun _ _ _ _ _ h => h) (by kernel_rfl) (fun u => by go_simp; try rfl) ?_
        try simp only [Act.put, List.setIfInBounds_toArray, List.set_cons_zero, List.set_cons_succ]
        refine PF.pf_done (by kernel_rfl) ?_
        go_wp2_with fail
        go_ret
        exact ⟨ret_bool (by symm; rw [decide_eq_true_iff]; have := HC.out; have := costs_le l (k + 1); have := HB.out; omega), hb.drew⟩
      · have hd : decide ((400 : Int) < ((s + (1 + q) : Nat) : Int)) = false := by simp; omega
        have HB := Lib.hid hbig
        refine PF.pf_begin (by kernel_rfl) ?_
        refine PF.pf_take0 0 (by kernel_rfl) rfl (fun _ _ _ _ _ h => h) (by kernel_rfl) (fun u => by go_simp; try rfl) ?_
        try simp only [Act.put, List.setIfInBounds_toArray, List.set_cons_zero, List.set_cons_succ]
        refine PF.pf_take0 1 (by kernel_rfl) rfl (fun _ _ _ _ _ h => h) (by kernel_rfl) (fun u => by go_simp; try rfl) ?_
        try simp only [Act.put, List.setIfInBounds_toArray, List.set_cons_zero, List.set_cons_succ]
        refine PF.pf_take0 2 (by kernel_rfl) rfl (fun _ _ _ _ _ h => h) (by kernel_rfl) (fun u => by go_simp; try rfl) ?_
        try simp only [Act.put, List.setIfInBounds_toArray, List.set_cons_zero, List.set_cons_succ]
        refine PF.pf_take0 3 (by kernel_rfl) rfl (fun _ _ _ _ _ h => h) (by kernel_rfl) (fun u => by go_simp; try rfl) ?_
        try simp only [Act.put, List.setIfInBounds_toArray, List.set_cons_zero, List.set_cons_succ]
        refine PF.pf_take0 4 (by kernel_rfl) rfl (fun _ _ _ _ _ h => h) (by kernel_rfl) (fun u => by go_simp; try rfl) ?_
        try simp only [Act.put, List.setIfInBounds_toArray, List.set_cons_zero, List.set_cons_succ]
        refine PF.pf_take1 5 (PF.Same (b) _) (by kernel_rfl) rfl (fun _ _ _ _ _ h => h) (by kernel_rfl) (PF.Same.refl _ _) (fun u hu => by have hcu := hu.cell; go_simp; try rfl) ?_
        try simp only [Act.put, List.setIfInBounds_toArray, List.set_cons_zero, List.set_cons_succ]
        refine PF.pf_take0 6 (by kernel_rfl) rfl (fun _ _ _ _ _ h => h) (by kernel_rfl) (fun u => by go_simp; try rfl) ?_
        try simp only [Act.put, List.setIfInBounds_toArray, List.set_cons_zero, List.set_cons_succ]
        refine PF.pf_take0 7 (by kernel_rfl) rfl (fun _ _ _ _ _ h => h) (by kernel_rfl) (fun u => by go_simp; try rfl) ?_
        try simp only [Act.put, List.setIfInBounds_toArray, List.set_cons_zero, List.set_cons_succ]
        refine PF.pf_take0 8 (by kernel_rfl) rfl (fun _ _ _ _ _ h => h) (by kernel_rfl) (fun u => by go_simp; try rfl) ?_
        try simp only [Act.put, List.setIfInBounds_toArray, List.set_cons_zero, List.set_cons_succ]
        refine PF.pf_take0 9 (by kernel_rfl) rfl (fun _ _ _ _ _ h => h) (by kernel_rfl) (fun u => by go_simp; try rfl) ?_
        try simp only [Act.put, List.setIfInBounds_toArray, List.set_cons_zero, List.set_cons_succ]
        refine PF.pf_take0 10 (by kernel_rfl) rfl (fun _ _ _ _ _ h => h) (by kernel_rfl) (fun u => by go_simp; try rfl) ?_
        try simp only [Act.put, List.setIfInBounds_toArray, List.set_cons_zero, List.set_cons_succ]
        refine PF.pf_take1 11 (PF.Same (b) _) (by kernel_rfl) rfl (fun _ _ _ _ _ h => h) (by kernel_rfl) (PF.Same.refl _ _) (fun u hu => by have hcu := hu.cell; go_simp; try rfl) ?_
        try simp only [Act.put, List.setIfInBounds_toArray, List.set_cons_zero, List.set_cons_succ]
        refine PF.pf_take0 12 (by kernel_rfl) rfl (fun _ _ _ _ _ h => h) (by kernel_rfl) (fun u => by go_simp; try rfl) ?_
        try simp only [Act.put, List.setIfInBounds_toArray, List.set_cons_zero, List.set_cons_succ]
        refine PF.pf_take0 13 (by kernel_rfl) rfl (fun _ _ _ _ _ h => h) (by kernel_rfl) (fun u => by go_simp; try rfl) ?_
        try simp only [Act.put, List.setIfInBounds_toArray, List.set_cons_zero, List.set_cons_succ]
        refine PF.pf_take0 14 (by kernel_rfl) rfl (fun _ _ _ _ _ h => h) (by kernel_rfl) (fun u => by go_simp; try rfl) ?_
        try simp only [Act.put, List.setIfInBounds_toArray, List.set_cons_zero, List.set_cons_succ]
        refine PF.pf_take0 15 (by kernel_rfl) rfl (fun _ _ _ _ _ h => h) (by kernel_rfl) (fun u => by go_simp; try rfl) ?_
        try simp only [Act.put, List.setIfInBounds_toArray, List.set_cons_zero, List.set_cons_succ]
        refine PF.pf_take0 16 (by kernel_rfl) rfl (fun _ _ _ _ _ h => h) (by kernel_rfl) (fun u => by go_simp; try rfl) ?_
        try simp only [Act.put, List.setIfInBounds_toArray, List.set_cons_zero, List.set_cons_succ]
        refine PF.pf_take0 17 (by kernel_rfl) rfl (fun _ _ _ _ _ h => h) (by kernel_rfl) (fun u => by go_simp; try rfl) ?_
        try simp only [Act.put, List.setIfInBounds_toArray, List.set_cons_zero, List.set_cons_succ]
        refine PF.pf_take1 18 (PF.Same (b) _) (by kernel_rfl) rfl (fun _ _ _ _ _ h => h) (by kernel_rfl) (PF.Same.refl _ _) (fun u hu => by have hcu := hu.cell; go_simp; try rfl) ?_
        try simp only [Act.put, List.setIfInBounds_toArray, List.set_cons_zero, List.set_cons_succ]
        refine PF.pf_take0 19 (by kernel_rfl) rfl (fun _ _ _ _ _ h => h) (by kernel_rfl) (fun u => by go_simp; try rfl) ?_
        try simp only [Act.put, List.setIfInBounds_toArray, List.set_cons_zero, List.set_cons_succ]
        refine PF.pf_take0 20 (by kernel_rfl) rfl (fun _ _ _ _ _ h => h) (by kernel_rfl) (fun u => by go_simp; try rfl) ?_
        try simp only [Act.put, List.setIfInBounds_toArray, List.set_cons_zero, List.set_cons_succ]
        refine PF.pf_take0 21 (by kernel_rfl) rfl (fun _ _ _ _ _ h => h) (by kernel_rfl) (fun u => by go_simp; try rfl) ?_
        try simp only [Act.put, List.setIfInBounds_toArray, List.set_cons_zero, List.set_cons_succ]
        refine PF.pf_take0 22 (by kernel_rfl) rfl (fun _ _ _ _ _ h => h) (by kernel_rfl) (fun u => by go_simp; try rfl) ?_
        try simp only [Act.put, List.setIfInBounds_toArray, List.set_cons_zero, List.set_cons_succ]
        refine PF.pf_take0 23 (by kernel_rfl) rfl (fun _ _ _ _ _ h => h) (by kernel_rfl) (fun u => by go_simp; try rfl) ?_
        try simp only [Act.put, List.setIfInBounds_toArray, List.set_cons_zero, List.set_cons_succ]
        refine PF.pf_take0 24 (by kernel_rfl) rfl (fun _ _ _ _ _ h => h) (by kernel_rfl) (fun u => by go_simp; try rfl) ?_
        try simp only [Act.put, List.setIfInBounds_toArray, List.set_cons_zero, List.set_cons_succ]
        refine PF.pf_done (by kernel_rfl) ?_
        go_wp2_with fail
        go_roundw
        case rel => exact ⟨k + 1, by omega, by go_num, by rw [HC.out]; simp, by have := HB.out; have := HC.out; omega, hb.drew⟩
        case measure => simp [intOf]; omega
    · obtain rfl : k = l.length := by omega
      rw [List.take_length] at hs
      go_wp2_with fail
      go_ret
      exact ⟨ret_bool (by symm; rw [decide_eq_false_iff_not]; omega), hb⟩

/-- What a call makes of a disk. -/
def Ac.does (a : Ac) (x : Dk) : Dk :=
  if a.k.toInt = 0 then (x.append a.n a.b).2 else if a.k.toInt = 1 then (x.put a.n a.b).2 else if a.k.toInt = 2 then (x.rename a.n a.t).2 else if a.k.toInt = 3 then (x.remove a.n).2 else if a.k.toInt = 4 then x.sync.2
  else if a.k.toInt = 5 then x else if a.k.toInt = 6 then (x.crash a.p.toInt a.q.toInt).2 else if a.k.toInt = 7 then x.start.2 else if a.k.toInt = 8 then x.wipe else x
theorem Fine.act {N : Nat} {x : Dk} (h : Fine N x) (a : Ac) : Fine (N + 1) (a.does x) := by
  unfold Ac.does
  split
  · exact h.append _ _
  split
  · exact h.put _ _
  split
  · exact h.rename _ _
  split
  · exact h.remove _
  split
  · exact h.sync.mono (Nat.le_succ _)
  split
  · exact h.mono (Nat.le_succ _)
  split
  · exact h.crash _ _
  split
  · exact h.start.mono (Nat.le_succ _)
  split
  · exact h.wipe.mono (Nat.le_succ _)
  · exact h.mono (Nat.le_succ _)
def DoesPost (w0 w : World) (K : Nat → Prop) (L : List (Nat × Dk)) (d : Nat) (x' : Dk) (e : Ending) (w' : World) : Prop := e = .returned (.tuple #[]) ∧ Held w0 w' K ((d, x') :: L) ∧ Kept K w w'
theorem Kept.behind {K : Nat → Prop} {w w1 w' : World} (hb : Below w.heap.size w w1) (hK : ∀ b, K b → b < w.heap.size) (h : Kept K w1 w') : Kept K w w' := ⟨Nat.le_trans hb.size h.1, fun b hk => (h.2 b hk).trans (hb.block b (hK b hk))⟩
theorem Kept.of_below {K : Nat → Prop} {w w' : World} (hb : Below w.heap.size w w') (hK : ∀ b, K b → b < w.heap.size) : Kept K w w' := ⟨hb.size, fun b hk => hb.block b (hK b hk)⟩
theorem Held.kl {w0 w : World} {K : Nat → Prop} {L : List (Nat × Dk)} (h : Held w0 w K L) : ∀ b, K b → b < w.heap.size := h.2.1
theorem DoesPost.mk {w0 w w1 : World} {K : Nat → Prop} {L : List (Nat × Dk)} {d : Nat} {x' x'' : Dk} {w' : World} (hb : Below w.heap.size w w1) (hK : ∀ b, K b → b < w.heap.size) (hx : x'' = x') (h : Held w0 w' K ((d, x') :: L)) (hk : Kept K w1 w') : DoesPost w0 w K L d x'' (.returned (.tuple #[])) w' := by
  subst hx
  exact ⟨rfl, h, hk.behind hb hK⟩
set_option maxRecDepth 100000 in
set_option maxHeartbeats 4000000 in
theorem does_act {w0 w : World} {K : Nat → Prop} {L : List (Nat × Dk)} {d : Nat} {x : Dk} (h : Held w0 w K ((d, x) :: L)) {N : Nat} (hx : Fine N x) (hN : N ≤ 999999) (a : Ac) (ha : a.ok w) :
    Calls Try.prog 12 #[pd d, a.val] w (DoesPost w0 w K L d (a.does x)) := by
  have hsm := hx.small (by omega)
  have hnn : Nok a.n := Nat.le_trans ha.ln (by decide)
  have hnt : Nok a.t := Nat.le_trans ha.lt (by decide)
  have hnb : a.b.length ≤ 9223372036854775807 := Nat.le_trans ha.lb (by decide)
  have hKl := h.kl
  have HD : Hid (a.does x = a.does x) := rfl
  have hdo : a.does x = a.does x := rfl
  conv at hdo => rhs; unfold Ac.does
  have HDO := Lib.hid hdo
  clear hdo HD
  have hbW : Below w.heap.size w (w.alloc (.cells #[.int .i64 a.k.toInt, .string ⟨a.n.toArray⟩, .string ⟨a.t.toArray⟩, .slice a.A a.b.length a.c, .int .i64 a.p.toInt, .int .i64 a.q.toInt] 32)) := below_new _ _
  have h1 : Held w0 (w.alloc (.cells #[.int .i64 a.k.toInt, .string ⟨a.n.toArray⟩, .string ⟨a.t.toArray⟩, .slice a.A a.b.length a.c, .int .i64 a.p.toInt, .int .i64 a.q.toInt] 32)) K ((d, x) :: L) := h.new_block _
  have hby := ha.bytes.below hbW
  have c0 := h1.append hsm a.n hnn a.A a.c a.b hby hnb
  have c1 := h1.put hsm a.n hnn a.A a.c a.b hby hnb
  have c2 := h1.rename hsm a.n a.t hnn hnt
  have c3 := h1.remove hsm a.n hnn
  have c4 := h1.sync hsm
  have c5 := h1.tell hsm a.n hnn
  have c6 := h1.crash hx hN a.p.toInt a.q.toInt
  have c7 := h1.start
  have c8 := h1.wipe hsm
  unfold Ac.val pd at *
  generalize a.k.toInt = k at *
  generalize a.p.toInt = p at *
  generalize a.q.toInt = q at *
  clear ha hby
  have HB := Lib.hid hbW
  have HK := Lib.hid hKl
  clear hbW hKl h
  by_cases e0 : k = 0
  · subst e0
    go_enter Try.func12, Try.ntmps12
    go_wp2_with (go_at_call 24; refine c0.mono ?_; rintro e w2 ⟨rfl, hh, hk⟩)
    go_end0
    exact DoesPost.mk HB.out HK.out (by rw [HDO.out]; rfl) hh hk
  by_cases e1 : k = 1
  · subst e1
    go_enter Try.func12, Try.ntmps12
    go_wp2_with (go_at_call 15; refine c1.mono ?_; rintro e w2 ⟨rfl, hh, hk⟩)
    go_end0
    exact DoesPost.mk HB.out HK.out (by rw [HDO.out]; rfl) hh hk
  by_cases e2 : k = 2
  · subst e2
    go_enter Try.func12, Try.ntmps12
    go_wp2_with (go_at_call 17; refine c2.mono ?_; rintro e w2 ⟨rfl, hh, hk⟩)
    go_end0
    exact DoesPost.mk HB.out HK.out (by rw [HDO.out]; rfl) hh hk
  by_cases e3 : k = 3
  · subst e3
    go_enter Try.func12, Try.ntmps12
    go_wp2_with (go_at_call 25; refine c3.mono ?_; rintro e w2 ⟨rfl, hh, hk⟩)
    go_end0
    exact DoesPost.mk HB.out HK.out (by rw [HDO.out]; rfl) hh hk
  by_cases e4 : k = 4
  · subst e4
    go_enter Try.func12, Try.ntmps12
    go_wp2_with (go_at_call 16; refine c4.mono ?_; rintro e w2 ⟨rfl, hh, hk⟩)
    go_end0
    exact DoesPost.mk HB.out HK.out (by rw [HDO.out]; rfl) hh hk
  by_cases e5 : k = 5
  · subst e5
    go_enter Try.func12, Try.ntmps12
    go_wp2_with (go_at_call 14; refine c5.mono ?_; rintro e w2 ⟨A5, k5, K5, rfl, hh, _, _, hks, hb5⟩)
    go_end0
    exact DoesPost.mk HB.out HK.out (by rw [HDO.out]; rfl) (hh.less hks) (Kept.of_below hb5 fun b hb => Nat.lt_of_lt_of_le (HK.out b hb) HB.out.size)
  by_cases e6 : k = 6
  · subst e6
    go_enter Try.func12, Try.ntmps12
    go_wp2_with (go_at_call 19; refine c6.mono ?_; rintro e w2 ⟨rfl, hh, hk⟩)
    go_end0
    exact DoesPost.mk HB.out HK.out (by rw [HDO.out]; rfl) hh hk
  by_cases e7 : k = 7
  · subst e7
    go_enter Try.func12, Try.ntmps12
    go_wp2_with (go_at_call 13; refine c7.mono ?_; rintro e w2 ⟨rfl, hh, hk⟩)
    go_end0
    exact DoesPost.mk HB.out HK.out (by rw [HDO.out]; rfl) hh hk
  by_cases e8 : k = 8
  · subst e8
    go_enter Try.func12, Try.ntmps12
    go_wp2_with (go_at_call 28; refine c8.mono ?_; rintro e w2 ⟨rfl, hh, hk⟩)
    go_end0
    exact DoesPost.mk HB.out HK.out (by rw [HDO.out]; rfl) hh hk
  have HE : Hid (¬ k = 0 ∧ ¬ k = 1 ∧ ¬ k = 2 ∧ ¬ k = 3 ∧ ¬ k = 4 ∧ ¬ k = 5 ∧ ¬ k = 6 ∧ ¬ k = 7 ∧ ¬ k = 8) := ⟨e0, e1, e2, e3, e4, e5, e6, e7, e8⟩
  have f0 : (k == 0) = false := by simpa using e0
  have f1 : (k == 1) = false := by simpa using e1
  have f2 : (k == 2) = false := by simpa using e2
  have f3 : (k == 3) = false := by simpa using e3
  have f4 : (k == 4) = false := by simpa using e4
  have f5 : (k == 5) = false := by simpa using e5
  have f6 : (k == 6) = false := by simpa using e6
  have f7 : (k == 7) = false := by simpa using e7
  have f8 : (k == 8) = false := by simpa using e8
  clear e0 e1 e2 e3 e4 e5 e6 e7 e8 c0 c1 c2 c3 c4 c5 c6 c7 c8
  go_enter Try.func12, Try.ntmps12
  go_wp2_with fail
  go_end0
  obtain ⟨e0, e1, e2, e3, e4, e5, e6, e7, e8⟩ := HE.out
  exact DoesPost.mk HB.out HK.out (by rw [HDO.out, if_neg e0, if_neg e1, if_neg e2, if_neg e3, if_neg e4, if_neg e5, if_neg e6, if_neg e7, if_neg e8]) h1 (Kept.of_below (Below.refl _ _) h1.kl)
end Go.Proofs.Ytggdkhgpkedbkaa
