/- A packet's own texts and list. -/
import Derived.Test.YtdckdjkkaangmaaDoorWireC2
import Derived.Lib.SliceRun
import Derived.Laws.IdiomStrings
namespace Go.Proofs.YtdckdjkkaangmaaDoor
set_option linter.unusedVariables false
set_option linter.unusedSimpArgs false
set_option maxRecDepth 100000
open Go.RowKit

set_option maxHeartbeats 400000 in
theorem sclone_any (A : Option Addr) (c : Nat) (l : List UInt8) (w : World) (hA : Bytes w A l) (hn : l.length ≤ 140737488355328) :
    Calls Tryd.prog 51 #[.slice A l.length c] w fun e w' => CloneB w.heap.size l e w' ∧ Below w.heap.size w w' := by
  have hen := fun (w : World) (a : Option Addr) (n c n' c' : Nat) => Lib.run_eql_slice_nil (P := Tryd.prog) w 22 5 a n c n' c' Tryd.underlying22
  rcases A with _ | ad
  · obtain rfl : l = [] := by
      rcases Nat.eq_zero_or_pos l.length with h0 | h0
      · exact List.eq_nil_of_length_eq_zero h0
      · obtain ⟨_, h, _⟩ := hA.2 h0; cases h
    go_enter Tryd.func51, Tryd.ntmps51
    go_wp2_with fail
    go_ret
    exact ⟨⟨_, _, rfl, World.ownsRow_nil _ _ _ _⟩, Below.refl _ _⟩
  · have hown0 : (w.alloc (.cells #[] 5)).ownsRow w.heap.size 5 1 (.slice (some ⟨w.heap.size, 0, none⟩) 0 0) 0 [] := World.ownsRow_made _ _ _ (Nat.le_refl _) (by simp [maxLen]) rfl
    have hA' := Reads.alloc hA (.cells #[] 5)
    have h1 := bv_one l
    generalize hrow : l.map bv = r at hA' h1
    have HR := Lib.hid hrow
    clear hrow hA
    go_enter Tryd.func51, Tryd.ntmps51
    go_wp2_with (first
      | (at_builtin; refine app_list bytes_ty rfl (s := .tmp 5) (x := .tmp 6) rfl hown0 rfl hA' rfl h1 (by omega) (by simp) ?_; intro v3 w3 hown3 hg3 _))
    go_ret
    obtain ⟨A3, c3, rfl, _, _⟩ := own_slice hown3
    refine ⟨⟨A3, c3, by simp, ?_⟩, (below_new _ _).grown hg3 (by simp) (own_ge hown0)⟩
    rw [HR.out]
    simpa using hown3
def CloneK (base : Nat) (l : List Nat) (e : Ending) (w' : World) : Prop := ∃ A c, e = .returned (.slice A l.length c) ∧ w'.ownsRow base 24 1 (.slice A l.length c) l.length (l.map u64v)
set_option maxHeartbeats 400000 in
theorem kclone_any (A : Option Addr) (c : Nat) (l : List Nat) (w : World) (hA : Keeps w A l) (hn : l.length ≤ 1000000) :
    Calls Tryd.prog 52 #[.slice A l.length c] w fun e w' => CloneK w.heap.size l e w' ∧ Below w.heap.size w w' := by
  have hen := fun (w : World) (a : Option Addr) (n c n' c' : Nat) => Lib.run_eql_slice_nil (P := Tryd.prog) w 33 24 a n c n' c' Tryd.underlying33
  rcases A with _ | ad
  · obtain rfl : l = [] := by
      rcases Nat.eq_zero_or_pos l.length with h0 | h0
      · exact List.eq_nil_of_length_eq_zero h0
      · obtain ⟨_, h, _⟩ := hA.2 h0; cases h
    go_enter Tryd.func52, Tryd.ntmps52
    go_wp2_with fail
    go_ret
    exact ⟨⟨_, _, rfl, World.ownsRow_nil _ _ _ _⟩, Below.refl _ _⟩
  · have hown0 : (w.alloc (.cells #[] 24)).ownsRow w.heap.size 24 1 (.slice (some ⟨w.heap.size, 0, none⟩) 0 0) 0 [] := World.ownsRow_made _ _ _ (Nat.le_refl _) (by simp [maxLen]) rfl
    have hA' := Reads.alloc hA (.cells #[] 24)
    have h1 := u64_one l
    generalize hrow : l.map u64v = r at hA' h1
    have HR := Lib.hid hrow
    clear hrow hA
    go_enter Tryd.func52, Tryd.ntmps52
    go_wp2_with (first
      | (at_builtin; refine app_list u64_ty rfl (s := .tmp 5) (x := .tmp 6) rfl hown0 rfl hA' rfl h1 (by omega) (by simp) ?_; intro v3 w3 hown3 hg3 _))
    go_ret
    obtain ⟨A3, c3, rfl, _, _⟩ := own_slice hown3
    refine ⟨⟨A3, c3, by simp, ?_⟩, (below_new _ _).grown hg3 (by simp) (own_ge hown0)⟩
    rw [HR.out]
    simpa using hown3
def txtOff (j : Nat) : Nat := txtOffs.getD j 0
theorem txtOff_mem {j : Nat} (h : j < 6) : txtOff j ∈ txtOffs := by
  have : ∀ i : Fin 6, txtOff i.1 ∈ txtOffs := by decide
  exact this ⟨j, h⟩
theorem txtOff_inj {i j : Nat} (hi : i < 6) (hj : j < 6) (h : txtOff i = txtOff j) : i = j := by
  have : ∀ a b : Fin 6, txtOff a.1 = txtOff b.1 → a.1 = b.1 := by decide
  exact this ⟨i, hi⟩ ⟨j, hj⟩ h
theorem txtOff_all {o : Nat} (h : o ∈ txtOffs) : ∃ j, j < 6 ∧ txtOff j = o := by
  have : ∀ o ∈ txtOffs, ∃ j : Fin 6, txtOff j.1 = o := by decide
  obtain ⟨j, hj⟩ := this o h
  exact ⟨j.1, j.2, hj⟩
/-- A text of its own. -/
def TxOwn (B C : Nat) (w : World) (cs : Array Value) (P : Pk) (o : Nat) : Prop := ∃ A c, cs[o]? = some (.slice A (P.t o).length c) ∧ (P.t o).length ≤ c ∧ c ≤ 9223372036854775807 ∧ TxO w B C A (P.t o)
/-- The first k texts are its own. -/
structure OwnT (B : Nat) (w : World) (cs cs' : Array Value) (P : Pk) (k : Nat) : Prop where
  size : cs'.size = 56
  same : ∀ o, o ∉ txtOffs → cs'[o]? = cs[o]?
  done : ∀ j, j < k → j < 6 → TxOwn B w.heap.size w cs' P (txtOff j)
  rest : ∀ j, k ≤ j → j < 6 → cs'[txtOff j]? = cs[txtOff j]?
theorem TxOwn.mod {S : Nat → Prop} {B C C' : Nat} {w w' : World} {cs cs' : Array Value} {P : Pk} {o : Nat} (h : TxOwn B C w cs P o) (hm : Mod S w w') (hS : ∀ k, B ≤ k → k < w.heap.size → ¬ S k) (hC : C ≤ C') (hc : cs'[o]? = cs[o]?) : TxOwn B C' w' cs' P o := by
  obtain ⟨A, c, e, h1, h2, h3⟩ := h
  obtain ⟨h4, h5⟩ := h3.mod hm hS
  refine ⟨A, c, hc.trans e, h1, h2, h4, fun ad ea => ?_⟩
  obtain ⟨a1, a2, a3, a4, a5⟩ := h5 ad ea
  exact ⟨a1, a2, a3, by omega, a5⟩
theorem OwnT.step {B pb : Nat} {w w1 : World} {cs cs' : Array Value} {P : Pk} {k : Nat} (h : OwnT B w cs cs' P k) (hk : k < 6) (hb : Below w.heap.size w w1) (hpb : pb < B) (hB : B ≤ w.heap.size) {A : Option Addr} {c : Nat} (ho : w1.ownsRow w.heap.size 5 1 (.slice A (P.t (txtOff k)).length c) (P.t (txtOff k)).length ((P.t (txtOff k)).map bv)) :
    OwnT B (w1.setCell ⟨pb, txtOff k, none⟩ (.slice A (P.t (txtOff k)).length c)) cs (cs'.setIfInBounds (txtOff k) (.slice A (P.t (txtOff k)).length c)) P (k + 1) := by
  have hm : Mod (fun b => b = pb) w (w1.setCell ⟨pb, txtOff k, none⟩ (.slice A (P.t (txtOff k)).length c)) := Mod.set (S := fun b => b = pb) (Mod.below hb (Nat.le_refl _)) (p := ⟨pb, txtOff k, none⟩) (fun _ => rfl) _
  have hm1 : Mod (fun b => b = pb) w1 (w1.setCell ⟨pb, txtOff k, none⟩ (.slice A (P.t (txtOff k)).length c)) := Mod.set (S := fun b => b = pb) (Mod.refl _ _) (p := ⟨pb, txtOff k, none⟩) (fun _ => rfl) _
  have hlt : txtOff k < cs'.size := by rw [h.size]; exact (txt_apart _ (txtOff_mem hk)).2.2.2.2
  refine ⟨by rw [Array.size_setIfInBounds]; exact h.size, fun o hno => ?_, fun j hj hj6 => ?_, fun j hj hj6 => ?_⟩
  · rw [set_get hlt, if_neg fun e => hno (by rw [e]; exact txtOff_mem hk)]
    exact h.same o hno
  · by_cases e : j = k
    · subst e
      obtain ⟨_, _, e1, hc1, hc2⟩ := own_slice ho
      injection e1 with e1 e2 e3
      subst e3
      refine ⟨A, c, by rw [set_get hlt, if_pos rfl], hc1, by simpa [maxLen] using hc2, ?_⟩
      obtain ⟨q1, q2⟩ := (TxO.own (base_le ho hB) (Nat.le_refl _)).mod hm1 fun k h1 h2 e => by omega
      refine ⟨q1, fun ad ea => ?_⟩
      obtain ⟨a1, a2, a3, a4, a5, a6⟩ := q2 ad ea
      exact ⟨a1, a2, a3, a5, a5, a6⟩
    · exact (h.done j (by omega) hj6).mod hm (fun k h1 h2 e => by omega) hm.size (by rw [set_get hlt, if_neg fun e' => e (txtOff_inj hj6 hk e')])
  · rw [set_get hlt, if_neg fun e' => by have := txtOff_inj hj6 hk e'; omega]
    exact h.rest j (by omega) hj6
end Go.Proofs.YtdckdjkkaangmaaDoor
