/- Events; what goes on between them. -/
import Derived.Test.YtpbaofabflgpkaaCliSt
namespace Go.Proofs.Ytpbaofabflgpkaa
set_option linter.unusedVariables false
set_option linter.unusedSimpArgs false
open Go.RowKit

/-- An event. -/
structure Ev where
  do_ : Int
  call : Cal
  vc : Value
  rep : Rep
  vr : Value
  by_ : Int
def Ev.cells (e : Ev) : List Value := .int .i64 e.do_ :: (calL e.call e.vc ++ (repL e.rep e.vr ++ [.int .i64 e.by_]))
/-- What it holds is there. -/
def Ev.ok (K : Nat → Prop) (w : World) (e : Ev) : Prop := SlB K w e.vc e.call.body ∧ SlB K w e.vr e.rep.body
/-- A row of events. -/
def Evs (K : Nat → Prop) (w : World) (A : Option Addr) (es : List Ev) : Prop := Reads w 20 A es.length (es.flatMap Ev.cells) ∧ ∀ e ∈ es, e.ok K w
theorem Ev.len (e : Ev) : e.cells.length = 20 := rfl
theorem ev_at {w : World} {A : Option Addr} {es : List Ev} (h : Reads w 20 A es.length (es.flatMap Ev.cells)) {k : Nat} (hk : k < es.length) : ∃ b o, A = some ⟨b, o, none⟩ ∧ b < w.heap.size ∧ w.rangeAt b (o + k * 20) es[k].cells := by
  obtain ⟨b, o, e, hb, hc⟩ := Reads.flat h (by omega) (by decide)
  refine ⟨b, o, e, hb, fun j u hu => ?_⟩
  have hj : j < 20 := by
    have := (List.getElem?_eq_some_iff.1 hu).1
    rwa [Ev.len] at this
  have := hc (k * 20 + j) u ((rows_at Ev.len es k j hk hj).trans hu)
  rwa [← Nat.add_assoc] at this
def zEv : Ev := { do_ := 0, call := zCal, vc := .slice none 0 0, rep := zRep, vr := .slice none 0 0, by_ := 0 }
theorem zero_event (w : World) : (zeroValue 38).run Try.prog w = .ok (.agg zEv.cells.toArray) w := (zero_of_info (n := 20) (by kernel_rfl)).1 w
theorem info_event {cs : Array Value} (h : cs.size = 20) : (Try.prog.info? 38).map (·.size) = some cs.size := by rw [h]; kernel_rfl
theorem info_event20 {vs : List Value} (h : vs.length = 20) : (Try.prog.info? 38).map (·.size) = some vs.length := by rw [h]; kernel_rfl
theorem info_reply9 {vs : List Value} (h : vs.length = 9) : (Try.prog.info? 36).map (·.size) = some vs.length := by rw [h]; kernel_rfl
theorem ev_one {e : Ev} (h1 : e.vc.oneCell' = true) (h2 : e.vr.oneCell' = true) : ∀ x ∈ e.cells.toArray.toList, x.oneCell' = true := by
  intro x hx
  simp only [Ev.cells, calL, repL, List.toList_toArray, List.mem_cons, List.mem_append, List.not_mem_nil, or_false] at hx
  rcases hx with rfl | (rfl | rfl | rfl | rfl | rfl | rfl | rfl | rfl | rfl) | (rfl | rfl | rfl | rfl | rfl | rfl | rfl | rfl | rfl) | rfl
  all_goals first | exact h1 | exact h2 | rfl
/-- The variable in block b holds the event. -/
def Xv (w : World) (b : Nat) (e : Ev) : Prop := Blk w b 38 e.cells.toArray
theorem Xv.call {w : World} {b : Nat} {e : Ev} (h : Xv w b e) : w.rangeAt b 1 (calL e.call e.vc) := Blk.range h 1 9
theorem Xv.rep {w : World} {b : Nat} {e : Ev} (h : Xv w b e) : w.rangeAt b 10 (repL e.rep e.vr) := Blk.range h 10 9
theorem Xv.do_ {w : World} {b : Nat} {e : Ev} (h : Xv w b e) : w.cell? ⟨b, 0, none⟩ = some (.int .i64 e.do_) := (Blk.cell h 0).trans rfl
theorem Xv.by_ {w : World} {b : Nat} {e : Ev} (h : Xv w b e) : w.cell? ⟨b, 19, none⟩ = some (.int .i64 e.by_) := (Blk.cell h 19).trans rfl
theorem Xv.vc {w : World} {b : Nat} {e : Ev} (h : Xv w b e) : w.cell? ⟨b, 9, none⟩ = some e.vc := (Blk.cell h 9).trans rfl
theorem Xv.vr {w : World} {b : Nat} {e : Ev} (h : Xv w b e) : w.cell? ⟨b, 18, none⟩ = some e.vr := (Blk.cell h 18).trans rfl
section
variable {P : Program} {ops : Array Oper} {rest : List Oper} {op : Oper} {a : Act} {w : World} {Q : Exit → Act → World → Prop}
theorem wpList_load_rgG (hw : Region.wanted op (yielded ops a.tmps) = true) {ty : TypeId} {x : Operand} (ho : op.op = .load ty x) {g o : Nat} (hx : a.eval x = .pointer (some ⟨g, o, none⟩)) {vs : List Value} {d : TypeDesc} (hc : w.rangeAt g o vs)
    (hu : P.underlying ty = some d) (hd : d.isRow = true) (hi : (P.info? ty).map (·.size) = some vs.length) (h : wpList P ops Q rest (a.put op.dst (.agg vs.toArray)) w) : wpList P ops Q (op :: rest) a w :=
  wpList_step fun K hK => by
    rw [if_pos hw]
    have hl := exec_load_rg (op := op) (E := a.eval) ho hx hc hu hd hi
    unfold Oper.wp
    simp only [hl]
    exact hK _ _ h
end
/-- What goes on. -/
structure OneI (nid : Int) (inc : Nat) (bs : List Int) (k : Nat) (X : Cli) (B : Cal) : Prop where
  id_ : X.id = nid
  inc_ : X.inc = inc
  bs_ : X.bs = bs
  good : Good X
  n : X.n ≤ k
  body : X.call.body.length ≤ 5000
  busy : X.busy = 0 ∨ X.busy = 1
  begun : X.busy = 1 → X.call = B ∧ mayC B = true ∧ B.cl = nid ∧ B.inc = inc ∧ B.n = X.n
section
variable {nid : Int} {inc : Nat} {bs : List Int} {k : Nat} {X : Cli} {B : Cal}
theorem OneI.new (h : newOk nid inc bs) : OneI nid inc bs 0 (newX nid inc bs) zCal := ⟨rfl, rfl, rfl, good_new h, Nat.le_refl _, Nat.zero_le _, .inl rfl, fun h => by cases h⟩
theorem OneI.next (h : OneI nid inc bs k X B) : OneI nid inc bs (k + 1) X B := ⟨h.id_, h.inc_, h.bs_, h.good, Nat.le_succ_of_le h.n, h.body, h.busy, h.begun⟩
theorem OneI.turn (h : OneI nid inc bs k X B) {T : Turn} (g : Goes X T) : OneI nid inc bs (k + 1) T.cli B := by
  refine ⟨g.id.trans h.id_, g.inc.trans h.inc_, g.bs.trans h.bs_, g.good, by rw [g.n]; exact Nat.le_succ_of_le h.n, by rw [g.call]; exact h.body, ?_, ?_⟩
  · rw [g.busy]
    split
    · exact .inl rfl
    · exact h.busy
  · intro hb
    rw [g.busy] at hb
    split at hb
    · cases hb
    · rw [g.call, g.n]
      exact h.begun hb
theorem OneI.start (h : OneI nid inc bs k X B) {D : Cal} (now : Nat) (hs : startE X D = 0) (hk : k < 100000) (hb : D.body.length ≤ 5000) : OneI nid inc bs (k + 1) (startX X now D) (callX X D) := by
  have hm : mayC (callX X D) = true := by
    cases hm : mayC (callX X D)
    · unfold startE at hs
      rw [if_pos hm] at hs
      cases hs
    · rfl
  have hn := h.n
  exact ⟨h.id_, h.inc_, h.bs_, start_good h.good (by omega) now D, Nat.succ_le_succ h.n, hb, .inr rfl, fun _ => ⟨rfl, hm, h.id_, h.inc_, rfl⟩⟩
theorem startE_busy {D : Cal} (h : startE X D = 0) : X.busy ≠ 1 := fun e => by
  unfold startE at h
  split at h
  · cases h
  · first | cases h | (rw [if_pos e] at h; cases h)
theorem startE_odd (D : Cal) : startE X D = 0 ∨ startE X D = 1 ∨ startE X D = 5 := by
  unfold startE
  split
  · exact .inr (.inl rfl)
  · split
    · exact .inr (.inr rfl)
    · exact .inl rfl
theorem take_ends {now : Nat} {R : Rep} (h : (takeX X now R).rep.isSome = true) : (takeX X now R).sent = none := by
  unfold takeX at h ⊢
  split
  · rfl
  · rename_i h1
    rw [if_neg h1] at h
    split
    · rename_i h2
      rw [if_pos h2] at h
      split at h
      · split at h <;> cases h
      · cases h
    · rfl
theorem tick_ends {now : Nat} (h : (tickX X now).rep.isSome = true) : (tickX X now).sent = none := by
  unfold tickX at h ⊢
  split
  · rfl
  · rename_i h1
    rw [if_neg h1] at h
    split
    · rfl
    · rename_i h2
      rw [if_neg h2] at h
      split at h
      · split at h <;> cases h
      · cases h
end
end Go.Proofs.Ytpbaofabflgpkaa
