/- Walks of operations, carried into a round of a range over a function. -/
import Derived.Test.YtpjmolnkmlpfeaaGreatDoorJT
import Derived.Test.YtpjmolnkmlpfeaaGreatDoorJuM
import Derived.Test.YtpjmolnkmlpfeaaGreatDoorRegion
import Derived.RangeFuncNested
import Derived.RangeFuncLeaves
import Derived.OwnWalkIn
import Derived.TacticsInMore
import Derived.LoopIn
import Derived.BigRegionIn
namespace Go.Proofs.YtpjmolnkmlpfeaaGreatDoor
set_option linter.unusedVariables false
set_option linter.unusedSimpArgs false
set_option maxRecDepth 100000
open Go.RowKit

/-- No defer statement. -/
def noDefer (o : Oper) : Bool := match o.op with | .defer _ => false | _ => true
theorem noDefer_ne {o : Oper} (h : noDefer o = true) (c : Call) : o.op ≠ .defer c := fun e => by unfold noDefer at h; rw [e] at h; cases h
/-- The fence that shuts nobody out, and its rounds. -/
def Wd (F : Fence) : Prop := F = Fence.wide ∨ ∃ l, F = Fence.wide.inRound l
theorem Wd.wide : Wd Fence.wide := .inl rfl
theorem Wd.round (l : Nat) : Wd (Fence.wide.inRound l) := .inr ⟨l, rfl⟩
theorem Wd.fn {F : Fence} (h : Wd F) (f : FuncId) : F.fn f := by rcases h with rfl | ⟨l, rfl⟩ <;> trivial
theorem Wd.depth {F : Fence} (h : Wd F) : F.depth = none := by rcases h with rfl | ⟨l, rfl⟩ <;> rfl
theorem Wd.calls {F : Fence} (h : Wd F) {n : Nat} {P : Program} {f : FuncId} {args : Array Value} {w : World} {R : Ending → World → Prop} (hc : Calls P f args w R) : CallsIn F n P f args w R := by
  rcases h with rfl | ⟨l, rfl⟩
  · exact callsIn_wide.2 hc
  · exact CallsIn.inRound l (callsIn_wide.2 hc)
section
variable {P : Program} {ops : Array Oper} {Q : Exit → Act → World → Prop} {a : Act} {w : World} {l n : Nat}
theorem oper_in {F : Fence} (hF : Wd F) {o : Oper} {K : Act → World → Prop} (hnd : noDefer o = true) (h : o.wp P a w K Q) : o.wpIn F n P a w K Q := by
  unfold Oper.wp at h
  refine ⟨fun _ _ => hF.fn _, ?_⟩
  rw [Oper.semAt_eq _ _ _ (noDefer_ne hnd)]
  generalize (execOp a.eval o).run P w = r at h ⊢
  cases r with
  | ok x w' =>
    cases x with
    | value v => exact h
    | skip => exact h
    | defer d => exact h
    | enter f args => exact ⟨(fun h => by rw [hF.depth] at h; cases h), hF.calls h⟩
    | row row args =>
      refine ⟨(fun h => by rw [hF.depth] at h; cases h), fun c cs _ => ?_⟩
      obtain ⟨v, w2, r, s⟩ := h c cs
      rcases hF with rfl | ⟨l, rfl⟩
      · exact ⟨v, w2, r, stepsIn_wide.2 s⟩
      · exact ⟨v, w2, r, stepsIn_wide.2 s⟩
    | round => exact h.elim
    | _ => exact h.elim
  | halt x w' => cases x <;> first | exact h | exact h.elim
theorem list_round (hQ : ¬ LetsOut Q) : ∀ {rest : List Oper} {a : Act} {w : World}, rest.all noDefer = true → wpList P ops Q rest a w → wpListIn (Fence.wide.inRound l) n P ops Q rest a w
  | [], _, _, _, h => h
  | o :: rest, a, w, hnd, h => by
    simp only [List.all_cons, Bool.and_eq_true] at hnd
    rw [wpList] at h
    rw [wpListIn]
    split at h
    · rename_i hw
      rw [if_pos hw]
      refine oper_in (.round l) hnd.1 ?_
      rcases h with h | h
      · exact Oper.wp_mono (fun a w h => list_round hQ hnd.2 h) h
      · exact absurd h.2 hQ
    · rename_i hw
      rw [if_neg hw]
      exact ⟨fun _ _ => trivial, list_round hQ hnd.2 h⟩
/-- A region in a round. -/
theorem region_round {id : Nat} {ls : List Oper} (hQ : ¬ LetsOut Q) (hnd : ls.all noDefer = true) (h : wpList P ls.toArray Q ls a w) : (Code.region id ls.toArray false).wpIn (Fence.wide.inRound l) n P Q a w :=
  wpIn_region_lit (list_round hQ hnd h)
theorem any_round {md : Region.Mode} (hQ : ¬ LetsOut Q) (hnd : ∀ (i : Nat) (o : Oper), ops[i]? = some o → noDefer o = true) : ∀ (f : Nat) (L : Array Bool) (a : Act) (w : World), wpAny P md ops Q f L a w → wpAnyIn (Fence.wide.inRound l) n P md ops Q f L a w
  | 0, _, _, _, h => h
  | f + 1, L, a, w, h => ⟨h.1, fun i hi => by
      have h1 := h.2 i hi
      unfold wpOp at h1
      unfold wpOpIn
      cases ho : ops[i]? with
      | none => rw [ho] at h1; exact any_round hQ hnd f _ _ _ h1
      | some o =>
        rw [ho] at h1
        simp only at h1 ⊢
        split at h1
        · rename_i hw
          rw [if_pos hw]
          refine oper_in (.round l) (hnd i o ho) ?_
          rcases h1 with h1 | h1
          · exact Oper.wp_mono (fun a w h => any_round hQ hnd f _ _ _ h) h1
          · exact absurd h1.2 hQ
        · rename_i hw
          rw [if_neg hw]
          exact ⟨fun _ _ => trivial, any_round hQ hnd f _ _ _ h1⟩⟩
theorem pf_beginR {id : Nat} {ls : List Oper} (hm : P.follows .mixedOrders = true) (hQ : ¬ LetsOut Q) (hnd : ls.all noDefer = true)
    (h : PF.wpS P ls Q ls.length [] (Array.replicate ls.length false) a w.drew) : (Code.region id ls.toArray true).wpIn (Fence.wide.inRound l) n P Q a w := by
  refine wpIn_region_any hm (any_round hQ (fun i o ho => ?_) _ _ _ _ ?_)
  · rw [List.getElem?_toArray] at ho
    exact List.all_eq_true.1 hnd o (List.mem_of_getElem? ho)
  · have h2 := PF.wpAny_of_T _ _ _ _ _ (h fun x hx => by cases hx)
    simpa using h2
variable {rest : List Oper} {op : Oper} {F : Fence}
theorem listIn_alloc (hF : Wd F) (hgd : op.guard = none) {ty : TypeId} (ho : op.op = .alloc ty) {Z : Array Value} (hz : ∀ w, (zeroValue ty).run P w = .ok (.agg Z) w)
    (h : ∀ g w', w.heap.size = g → Blk w' g ty Z → Below w.heap.size w w' → wpListIn F n P ops Q rest (a.put op.dst (.pointer (some ⟨g, 0, none⟩))) w') : wpListIn F n P ops Q (op :: rest) a w :=
  wpListIn_plain hgd fun _ hK => oper_in hF (by unfold noDefer; rw [ho]) (wp_alloc_blk ho hz fun g w' e hb hl => hK _ _ (h g w' e hb hl))
theorem listIn_store (hF : Wd F) (hgd : op.guard = none) {ty : TypeId} {x y : Operand} (ho : op.op = .store ty x y) {g : Nat} {t : TypeId} {c0 cs : Array Value} (hx : a.eval x = .pointer (some ⟨g, 0, none⟩)) (hy : a.eval y = .agg cs)
    (hB : Blk w g t c0) (hs : c0.size = cs.size) (hi : (P.info? ty).map (·.size) = some cs.size) (h1 : ∀ v ∈ cs.toList, v.oneCell' = true)
    (h : ∀ w', Blk w' g t cs → Mod (fun b => b = g) w w' → wpListIn F n P ops Q rest (a.put op.dst undef) w') : wpListIn F n P ops Q (op :: rest) a w :=
  wpListIn_plain hgd fun _ hK => oper_in hF (by unfold noDefer; rw [ho]) (wp_store_rgB (vs := cs.toList) ho hx (by rw [hy]) hB (by rw [hs]; simp) (by simpa using hi) h1 fun w' hb hm => hK _ _ (h w' (by rw [putL_all hs] at hb; exact hb) hm))
end
set_option maxHeartbeats 400000 in
theorem next_any {w : World} {o9 : Array Value} {m3 : Array Value} (h1 : o9.size = 19) (h2 : m3.size = 3) : Calls Tryz.prog 66 #[.agg o9, .agg m3] w fun e w' =>
    e = .returned (.func (.func 77) #[] #[.pointer (some ⟨w.heap.size, 0, none⟩), .pointer (some ⟨w.heap.size + 1, 0, none⟩)]) ∧ w' = (w.alloc (.cells o9 95)).alloc (.cells m3 45) := by
  go_enter Tryz.func66, Tryz.ntmps66
  go_wp2_with fail
  go_ret
  exact ⟨rfl, rfl⟩
/-- What a call of a history makes of a model. -/
def nxM (o : Opr) (M : Mdl) : List Mdl := if o.known then (doesM M o.call o.rep).toList else mightM M o.call
def opL (o : Opr) (v vr : Value) : List Value := calL o.call v ++ repL o.rep vr ++ [.bool o.known]
end Go.Proofs.YtpjmolnkmlpfeaaGreatDoor
