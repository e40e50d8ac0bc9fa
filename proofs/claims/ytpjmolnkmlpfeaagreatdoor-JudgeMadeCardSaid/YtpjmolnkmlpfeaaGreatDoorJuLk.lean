/- The law JudgeSerial, walked. -/
import Derived.Test.YtpjmolnkmlpfeaaGreatDoorJcS
import Derived.Test.YtpjmolnkmlpfeaaGreatDoorJuSh
namespace Go.Proofs.YtpjmolnkmlpfeaaGreatDoor
set_option linter.unusedVariables false
set_option linter.unusedSimpArgs false
set_option maxRecDepth 100000
open Go.RowKit

/-- The three models, in a row. -/
def mdT (f : Int → Mdl) (vs : Int → Value × Value) : List Value := mdL (f 1) (vs 1).1 (vs 1).2 ++ (mdL (f 2) (vs 2).1 (vs 2).2 ++ mdL (f 3) (vs 3).1 (vs 3).2)
def SerB (g : Nat) (hv : Value) (w : World) (f : Int → Mdl) : Prop := ∃ vs : Int → Value × Value, Blk w g 45 (mdT f vs).toArray ∧ ∀ n, MdF (fun b => g < b ∧ hv.ownBlock ≠ some b) w (vs n).1 (vs n).2 (f n)
theorem SerB.below {g : Nat} {hv : Value} {w w' : World} {f : Int → Mdl} (h : SerB g hv w f) (hb : Below w.heap.size w w') : SerB g hv w' f := by
  obtain ⟨vs, h1, h2⟩ := h
  exact ⟨vs, h1.below hb h1.lt, fun n => (h2 n).below hb⟩
/-- Behind a write elsewhere. -/
theorem SerB.mod {S : Nat → Prop} {g : Nat} {hv : Value} {w w' : World} {f : Int → Mdl} (h : SerB g hv w f) (hm : Mod S w w') (hg : ¬ S g) (hS : ∀ b, g < b → hv.ownBlock ≠ some b → b < w.heap.size → ¬ S b) : SerB g hv w' f := by
  obtain ⟨vs, h1, h2⟩ := h
  exact ⟨vs, h1.mod hm hg, fun n => (((h2 n).weak (K' := fun b => (g < b ∧ hv.ownBlock ≠ some b) ∧ b < w.heap.size) fun b hb h => ⟨h, hb⟩).mod hm fun b hb => hS b hb.1.1 hb.1.2 hb.2).weak fun b _ h => h.1⟩
/-- Behind an append of notes. -/
theorem SerB.grown {g : Nat} {hv hv' : Value} {w w' : World} {f : Int → Mdl} (h : SerB g hv w f) (hg : w.grownBy w' hv.ownBlock) (h0 : ∀ b, hv.ownBlock = some b → g < b) (hq : hv'.ownBlock = hv.ownBlock ∨ hv'.ownBlock = some w.heap.size) : SerB g hv' w' f := by
  have hm := mod_grownO hg
  obtain ⟨vs, h1, h2⟩ := h
  refine ⟨vs, h1.mod hm fun e => by have := h0 g e; omega, fun n => ?_⟩
  have h3 := (h2 n).weak (K' := fun b => (g < b ∧ hv.ownBlock ≠ some b) ∧ b < w.heap.size) fun b hb h => ⟨h, hb⟩
  refine (h3.mod hm fun b hb e => hb.1.2 e).weak fun b _ hb => ⟨hb.1.1, fun e => ?_⟩
  rcases hq with h' | h'
  · exact hb.1.2 (h' ▸ e)
  · rw [h'] at e
    injection e with e
    have := hb.2
    omega
theorem mdT_put {f : Int → Mdl} {vs : Int → Value × Value} {m : Mdl} {u1 u2 : Value} {q : Nat} (hq : q < 3) : putL (mdT f vs).toArray (q * 3) (mdL m u1 u2) = (mdT (fun n => if n = (q : Int) + 1 then m else f n) (fun n => if n = (q : Int) + 1 then (u1, u2) else vs n)).toArray := by
  match q, hq with
  | 0, _ => rfl
  | 1, _ => rfl
  | 2, _ => rfl
/-- A model is put. -/
theorem SerB.put {g : Nat} {hv : Value} {w w' : World} {f : Int → Mdl} {vs : Int → Value × Value} {m : Mdl} {u1 u2 : Value} {q : Nat} (hq : q < 3) (h2 : ∀ n, MdF (fun b => g < b ∧ hv.ownBlock ≠ some b) w (vs n).1 (vs n).2 (f n)) (h3 : MdF (fun b => g < b ∧ hv.ownBlock ≠ some b) w u1 u2 m)
    (hB : Blk w' g 45 (putL (mdT f vs).toArray (q * 3) (mdL m u1 u2))) (hm : Mod (fun b => b = g) w w') : SerB g hv w' (fun n => if n = (q : Int) + 1 then m else f n) := by
  rw [mdT_put hq] at hB
  refine ⟨_, hB, fun n => ?_⟩
  show MdF _ _ (if n = (q : Int) + 1 then (u1, u2) else vs n).1 (if n = (q : Int) + 1 then (u1, u2) else vs n).2 (if n = (q : Int) + 1 then m else f n)
  split
  · exact h3.mod hm fun b hb e => by have := hb.1; omega
  · exact (h2 n).mod hm fun b hb e => by have := hb.1; omega
theorem build_mdl (w : World) : (Instr.build 45 #[]).run Tryz.prog w = .ok (.agg (mdL zMdl nilV nilV).toArray) w := by kernel_rfl
section
variable {P : Program} {ops : Array Oper} {rest : List Oper} {op : Oper} {a : Act} {w w' : World} {Q : Exit → Act → World → Prop}
theorem wpList_build0 (hgd : op.guard = none) {ty : TypeId} (ho : op.op = .build ty #[]) {v : Value} (hb : (Instr.build ty #[]).run P w = .ok v w) (h : wpList P ops Q rest (a.put op.dst v) w) : wpList P ops Q (op :: rest) a w :=
  wpList_plain hgd fun _ hK => by
    unfold Oper.wp execOp
    simp only [ho, Sem.run_bind, List.map_toArray, List.map_nil, hb, Result.andThen_ok, Sem.run_pure]
    exact hK _ _ h
end
end Go.Proofs.YtpjmolnkmlpfeaaGreatDoor
