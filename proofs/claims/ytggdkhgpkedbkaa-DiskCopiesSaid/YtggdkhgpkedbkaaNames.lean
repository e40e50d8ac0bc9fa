/- The names of files, by names rising. -/
import Derived.Test.YtggdkhgpkedbkaaActs
import Derived.Test.YtggdkhgpkedbkaaShelfK
namespace Go.Proofs.Ytggdkhgpkedbkaa
open Go.RowKit

theorem before_lt : ∀ a b : List UInt8, bytesBefore a b = true → a < b
  | [], [], h => by simp [bytesBefore] at h
  | [], _ :: _, _ => by simp
  | _ :: _, [], h => by simp [bytesBefore] at h
  | a :: r, b :: s, h => by
    unfold bytesBefore at h
    rw [List.cons_lt_cons_iff]
    simp only [Bool.or_eq_true, Bool.and_eq_true, decide_eq_true_eq, beq_iff_eq] at h
    exact h.imp id fun h => ⟨h.1, before_lt r s h.2⟩
theorem names_sorted {β : Type} {F : List (Nm × β)} (h : Srt F) : (F.map (·.1)).mergeSort (fun x y => decide (x ≤ y)) = F.map (·.1) := by
  refine List.mergeSort_of_pairwise ?_
  rw [List.pairwise_map]
  refine h.imp fun {p q} hp => ?_
  rw [decide_eq_true_iff]
  exact List.le_of_lt (before_lt _ _ hp)
theorem strKeys_ents (E : List (Nm × Sl)) : strKeys (ents E) = E.map (·.1) := by
  show (E.map fun p => (Lit.string p.1, (DataW.held p.2 : DataW Sl))).map (fun p => strOf p.1) = _
  rw [List.map_map]
  rfl
/-- A row of names of the call's own. -/
def NamesPost (w : World) (ns : List Nm) (e : Ending) (w' : World) : Prop :=
  (∃ A c, e = .returned (.slice A ns.length c) ∧ w'.ownsRow w.heap.size 9 1 (.slice A ns.length c) ns.length (ns.map nv)) ∧ Below w.heap.size w w'
set_option maxHeartbeats 1000000 in
theorem names_any {w : World} {d : Nat} {U V : Nat → Prop} {x : Dk} (h : Dsk w d U V x) (hx : Small x) : Calls Try.prog 22 #[pd d] w (NamesPost w (if x.down then [] else x.seen.map (·.1))) := by
  obtain ⟨mf, ml, v, h⟩ := h
  have hoff := off_any h.blk
  have d0 := Blk.cell h.blk 0
  simp only [List.getElem?_toArray, List.getElem?_cons_zero, List.getElem?_cons_succ] at d0
  have hsrt := h.seen.srt
  obtain ⟨E, hE, hF, _⟩ := h.seen
  have hk := Try.maps_Keys_46 (some mf) w
  have hlen : E.length ≤ 1000000 := by have := hx.ns; rw [hF, len_map] at this; exact this
  have hs := Try.sorted_keys mf _ _ slR w hE (by rw [ents_size, len_map]; unfold maxLen; omega) (by rw [ents_size, len_map]; omega)
  have hperm : ∀ ss : List (List UInt8), ss.Perm (strKeys (ents (fmap (fun x : Sl × List UInt8 => x.1) E))) → ss.mergeSort (fun x y => decide (x ≤ y)) = x.seen.map (·.1) ∧ ss.length = (x.seen.map (·.1)).length := by
    intro ss hp
    rw [strKeys_ents] at hp
    have e1 : (fmap (fun x : Sl × List UInt8 => x.1) E).map (·.1) = x.seen.map (·.1) := by rw [hF]; simp [fmap]
    rw [e1] at hp
    refine ⟨?_, hp.length_eq⟩
    have := mergeSort_of_perm hp
    unfold leB at this
    rw [this]
    exact names_sorted hsrt
  have HP := Lib.hid hperm
  clear hperm hE hF
  cases hdn : x.down
  · rw [hdn] at hoff
    clear h
    unfold pd at *
    go_enter Try.func22, Try.ntmps22
    go_wp2_with (first
      | (go_at_call 40; refine hoff.mono ?_; rintro e w1 ⟨rfl, rfl⟩)
      | (go_at_call 46; refine hk.mono ?_; rintro e w1 ⟨rfl, rfl⟩)
      | (go_at_call 45; refine hs.mono ?_; rintro e w2 ⟨v, ss, rfl, hS, hrow, hnil, hb⟩))
    go_ret
    obtain ⟨e1, e2⟩ := HP.out ss hS
    rw [e1, e2] at hrow
    obtain ⟨A, c, rfl, _, _⟩ := own_slice hrow
    exact ⟨⟨A, c, rfl, base_le hrow (by simp)⟩, (below_new w _).trans (hb.mono (by simp))⟩
  · rw [hdn] at hoff
    clear h
    unfold pd at *
    go_enter Try.func22, Try.ntmps22
    go_wp2_with (go_at_call 40; refine hoff.mono ?_; rintro e w1 ⟨rfl, rfl⟩)
    go_ret
    exact ⟨⟨none, 0, rfl, World.ownsRow_nil _ _ _ _⟩, Below.refl _ _⟩
end Go.Proofs.Ytggdkhgpkedbkaa
