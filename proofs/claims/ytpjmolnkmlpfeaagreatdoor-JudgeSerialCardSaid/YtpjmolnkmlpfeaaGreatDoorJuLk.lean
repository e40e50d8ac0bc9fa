/- The law JudgeSerial, walked. -/
import Derived.Test.YtpjmolnkmlpfeaaGreatDoorJcS
import Derived.Test.YtpjmolnkmlpfeaaGreatDoorJuSh
namespace Go.Proofs.YtpjmolnkmlpfeaaGreatDoor
set_option linter.unusedVariables false
set_option linter.unusedSimpArgs false
set_option maxRecDepth 100000
open Go.RowKit

/-- A call, a reply that came in. -/
structure CaIn (W : World) (x : CaV) : Prop where
  v : SlB (fun _ => True) W x.v x.c.body
  ok : CalOk x.c
  b : x.c.body.length ≤ 140737488351232
structure ReIn (W : World) (x : ReV) : Prop where
  v : SlB (fun _ => True) W x.v x.r.body
  ok : RepOk x.r
  b : x.r.body.length ≤ 140737488351232
/-- The three models, in a row. -/
def mdT (f : Int → Mdl) (vs : Int → Value × Value) : List Value := mdL (f 1) (vs 1).1 (vs 1).2 ++ (mdL (f 2) (vs 2).1 (vs 2).2 ++ mdL (f 3) (vs 3).1 (vs 3).2)
def SerB (g : Nat) (hv : Value) (w : World) (f : Int → Mdl) : Prop := ∃ vs : Int → Value × Value, Blk w g 45 (mdT f vs).toArray ∧ ∀ n, MdF (fun b => g < b ∧ hv.ownBlock ≠ some b) w (vs n).1 (vs n).2 (f n)
theorem SerB.below {g : Nat} {hv : Value} {w w' : World} {f : Int → Mdl} (h : SerB g hv w f) (hb : Below w.heap.size w w') : SerB g hv w' f := by
  obtain ⟨vs, h1, h2⟩ := h
  exact ⟨vs, h1.below hb h1.lt, fun n => (h2 n).below hb⟩
/-- Behind a write elsewhere. -/
theorem SerB.mod {S : Nat → Prop} {g : Nat} {hv : Value} {w w' : World} {f : Int → Mdl} (h : SerB g hv w f) (hm : Mod S w w') (hg : ¬ S g) (hS : ∀ b, g < b → hv.ownBlock ≠ some b → b < w.heap.size → ¬ S b) : SerB g hv w' f := by
  obtain ⟨vs, h1, h2⟩ := h
  exact ⟨vs, h1.mod hm hg, fun n => (((h2 n).weak (K' := fun b => (g < b ∧ hv.ownBlock ≠ some b) ∧ b < w.heap.size) fun b hb h => ⟨h, hb⟩).mod hm fun b hb => hS b hb.1.1 hb.1.2 hb.2).weak fun b _ h => h.1⟩
/-- Behind an append of notes. -/
theorem SerB.grown {g : Nat} {hv hv' : Value} {w w' : World} {f : Int → Mdl} (h : SerB g hv w f) (hg : w.grownBy w' hv.ownBlock) (h0 : ∀ b, hv.ownBlock = some b → g < b) (hq : hv'.ownBlock = hv.ownBlock ∨ hv'.ownBlock = some w.heap.size) : SerB g hv' w' f := by
  have hm := mod_grownO hg
  obtain ⟨vs, h1, h2⟩ := h
  refine ⟨vs, h1.mod hm fun e => by have := h0 g e; omega, fun n => ?_⟩
  have h3 := (h2 n).weak (K' := fun b => (g < b ∧ hv.ownBlock ≠ some b) ∧ b < w.heap.size) fun b hb h => ⟨h, hb⟩
  refine (h3.mod hm fun b hb e => hb.1.2 e).weak fun b _ hb => ⟨hb.1.1, fun e => ?_⟩
  rcases hq with h' | h'
  · exact hb.1.2 (h' ▸ e)
  · rw [h'] at e
    injection e with e
    have := hb.2
    omega
theorem mdT_range {w : World} {g : Nat} {f : Int → Mdl} {vs : Int → Value × Value} (h : Blk w g 45 (mdT f vs).toArray) {q : Nat} (hq : q < 3) : w.rangeAt g (q * 3) (mdL (f ((q : Int) + 1)) (vs ((q : Int) + 1)).1 (vs ((q : Int) + 1)).2) := by
  match q, hq with
  | 0, _ => exact Blk.range h 0 3
  | 1, _ => exact Blk.range h 3 3
  | 2, _ => exact Blk.range h 6 3
theorem mdT_put {f : Int → Mdl} {vs : Int → Value × Value} {m : Mdl} {u1 u2 : Value} {q : Nat} (hq : q < 3) : putL (mdT f vs).toArray (q * 3) (mdL m u1 u2) = (mdT (fun n => if n = (q : Int) + 1 then m else f n) (fun n => if n = (q : Int) + 1 then (u1, u2) else vs n)).toArray := by
  match q, hq with
  | 0, _ => rfl
  | 1, _ => rfl
  | 2, _ => rfl
/-- A model is put. -/
theorem SerB.put {g : Nat} {hv : Value} {w w' : World} {f : Int → Mdl} {vs : Int → Value × Value} {m : Mdl} {u1 u2 : Value} {q : Nat} (hq : q < 3) (h2 : ∀ n, MdF (fun b => g < b ∧ hv.ownBlock ≠ some b) w (vs n).1 (vs n).2 (f n)) (h3 : MdF (fun b => g < b ∧ hv.ownBlock ≠ some b) w u1 u2 m)
    (hB : Blk w' g 45 (putL (mdT f vs).toArray (q * 3) (mdL m u1 u2))) (hm : Mod (fun b => b = g) w w') : SerB g hv w' (fun n => if n = (q : Int) + 1 then m else f n) := by
  rw [mdT_put hq] at hB
  refine ⟨_, hB, fun n => ?_⟩
  show MdF _ _ (if n = (q : Int) + 1 then (u1, u2) else vs n).1 (if n = (q : Int) + 1 then (u1, u2) else vs n).2 (if n = (q : Int) + 1 then m else f n)
  split
  · exact h3.mod hm fun b hb e => by have := hb.1; omega
  · exact (h2 n).mod hm fun b hb e => by have := hb.1; omega
theorem mdT_size (f : Int → Mdl) (vs : Int → Value × Value) : (mdT f vs).toArray.size = 9 := rfl
theorem info_modelL {vs : List Value} (h : vs.length = 3) : (Tryz.prog.info? 45).map (·.size) = some vs.length := by rw [h]; kernel_rfl
theorem build_mdl (w : World) : (Instr.build 45 #[]).run Tryz.prog w = .ok (.agg (mdL zMdl nilV nilV).toArray) w := by kernel_rfl
theorem bs_mdl (w : World) : (Instr.buildSlice 57 3 #[(0, .agg (mdL zMdl nilV nilV).toArray), (1, .agg (mdL zMdl nilV nilV).toArray), (2, .agg (mdL zMdl nilV nilV).toArray)]).run Tryz.prog w = .ok (.slice (some ⟨w.heap.size, 0, none⟩) 3 3) (w.alloc (.cells (mdT (fun _ => zMdl) (fun _ => (nilV, nilV))).toArray 45)) := by kernel_rfl
section
variable {P : Program} {ops : Array Oper} {rest : List Oper} {op : Oper} {a : Act} {w w' : World} {Q : Exit → Act → World → Prop}
theorem wpList_build0 (hgd : op.guard = none) {ty : TypeId} (ho : op.op = .build ty #[]) {v : Value} (hb : (Instr.build ty #[]).run P w = .ok v w) (h : wpList P ops Q rest (a.put op.dst v) w) : wpList P ops Q (op :: rest) a w :=
  wpList_plain hgd fun _ hK => by
    unfold Oper.wp execOp
    simp only [ho, Sem.run_bind, List.map_toArray, List.map_nil, hb, Result.andThen_ok, Sem.run_pure]
    exact hK _ _ h
theorem wpList_bs3 (hgd : op.guard = none) {ty : TypeId} {n i j k : Nat} {p q r : Operand} (ho : op.op = .buildSlice ty n #[(i, p), (j, q), (k, r)]) {x y z v : Value} (hx : a.eval p = x) (hy : a.eval q = y) (hz : a.eval r = z)
    (hb : (Instr.buildSlice ty n #[(i, x), (j, y), (k, z)]).run P w = .ok v w') (h : wpList P ops Q rest (a.put op.dst v) w') : wpList P ops Q (op :: rest) a w :=
  wpList_plain hgd fun _ hK => by
    unfold Oper.wp execOp
    simp only [ho, Sem.run_bind, List.map_toArray, List.map_cons, List.map_nil, hx, hy, hz, hb, Result.andThen_ok, Sem.run_pure]
    exact hK _ _ h
end
theorem serV_in {w : World} {lc : List CaV} {lr : List ReV} {k : Nat} (hc : ∀ x ∈ lc, CaIn w x) (hr : ∀ x ∈ lr, ReIn w x) (h1 : k ≤ lc.length) (h2 : k ≤ lr.length) (h3 : k ≤ 1000) : ∀ x ∈ serV lc lr k, NtIn w x := by
  intro x hx
  obtain ⟨j, hj, h⟩ := serV_mem hx
  have e1 : lc.getD j zCaV = lc[j] := by rw [List.getD_eq_getElem?_getD, List.getElem?_eq_getElem]; rfl
  have e2 : lr.getD j zReV = lr[j] := by rw [List.getD_eq_getElem?_getD, List.getElem?_eq_getElem]; rfl
  have hx := hc _ (List.getElem_mem (show j < lc.length by omega))
  have hy := hr _ (List.getElem_mem (show j < lr.length by omega))
  have hC : callK lc j = nuC lc[j].c (j + 1) := by unfold callK; rw [e1]
  have hR : repK lc lr j = toR lr[j].r (nuC lc[j].c (j + 1)) := by unfold repK; rw [e2, hC]
  rw [hC, hR, e1, e2] at h
  obtain ⟨a1, ⟨⟨i1, i2, i3, i4⟩, s, t⟩, a3⟩ := hx
  obtain ⟨b1, ⟨_, s2, t2⟩, b3⟩ := hy
  have hid : IdOk (idOf (nuC lc[j].c (j + 1))) := ⟨i1, i2, i3, by show j + 1 < _; omega⟩
  rcases h with rfl | rfl
  · exact ⟨a1, SlB.nil _ _, ⟨hid, s, t⟩, ⟨zrep_ok, (by show 0 < 18446744073709551616; decide), (by show 0 < 18446744073709551616; decide)⟩, a3, (by show 0 ≤ 140737488351232; decide)⟩
  · exact ⟨a1, b1, ⟨hid, s, t⟩, ⟨hid, s2, t2⟩, a3, b3⟩
theorem serV_sl {w : World} {N : List NtV} (h : ∀ x ∈ N, NtIn w x) {g : Nat} {v : Value} (ho : OwH g w v N) : SlH (fun b => True ∨ g ≤ b) w v (N.map (·.n)) := ho.slh fun x hx => ⟨(h x hx).vc, (h x hx).vr⟩
theorem ntIn_below {w w' : World} {x : NtV} (h : NtIn w x) (hb : Below w.heap.size w w') : NtIn w' x := ⟨h.vc.below hb, h.vr.below hb, h.call, h.rep, h.bc, h.br⟩
theorem put_nuC {C : Cal} {v : Value} (k : Nat) : (calL C v).toArray.setIfInBounds 2 (.int .u64 ((k : Int) + 1)) = (calL (nuC C (k + 1)) v).toArray := rfl
end Go.Proofs.YtpjmolnkmlpfeaaGreatDoor
