/- The document's disk: New, Start, Wipe, Sync, Read. -/
import Derived.Test.YtggdkhgpkedbkaaRdE
namespace Go.Proofs.Ytggdkhgpkedbkaa
open Go.RowKit

/-- The document's disk is x' now; nothing else that stood has changed. -/
def Rst (w : World) (m : Nat) (R : Nat → Prop) (x' : Dk) (w' : World) : Prop := Mod (· = m) w w' ∧ Rat w' m (fun b => R b ∨ From w.heap.size w' b) x'
def RDid (w : World) (m : Nat) (R : Nat → Prop) (r : Int × Dk) (e : Ending) (w' : World) : Prop := e = .returned (.int .i64 r.1) ∧ Rst w m R r.2 w'
theorem Mod.setm {w w' : World} {m : Nat} (h : Mod (fun b => b = m) w w') (i : Nat) (v : Value) : Mod (fun b => b = m) w (w'.setCell ⟨m, i, none⟩ v) := Mod.set (S := fun b => b = m) h (p := ⟨m, i, none⟩) (fun _ => rfl) v
section
variable {w w' : World} {m : Nat} {R : Nat → Prop} {x x' : Dk}
theorem Rat.lt (h : Rat w m R x) : m < w.heap.size := by
  obtain ⟨A, c, E, B, g, l, h⟩ := h
  exact h.blk.lt
theorem Rat.off (h : Rat w m R x) : ∀ b, R b → b < w.heap.size ∧ b ≠ m := by
  obtain ⟨A, c, E, B, g, l, h⟩ := h
  exact h.off
theorem Rst.mk (h : Rat w m R x) (hm : Mod (· = m) w w') {A B : Option Addr} {c g : Nat} {E : List (Nm × Sb)} {l : List Rc}
    (blk : Blk w' m 66 #[.slice A E.length c, .slice B l.length g, .int .i64 x'.cap, .int .u64 x'.serial, .bool x'.down])
    (files : FRow w' (fun b => R b ∨ From w.heap.size w' b) A E) (last : fil E = x'.last) (chgs : CRow w' (fun b => R b ∨ From w.heap.size w' b) B l) (waits : l.map Rc.chg = x'.waits) : Rst w m R x' w' :=
  ⟨hm, A, c, E, B, g, l, blk, files, last, chgs, waits, fun b hb => by
    have h1 := h.lt
    rcases hb with hb | hb
    · exact ⟨Nat.lt_of_lt_of_le (h.off b hb).1 hm.size, (h.off b hb).2⟩
    · exact ⟨hb.2, fun e => by have := hb.1; omega⟩⟩
theorem Rst.same (h : Rat w m R x) (hb : Below w.heap.size w w') : Rst w m R x w' := by
  have h0 := h
  obtain ⟨A, c, E, B, g, l, h⟩ := h
  exact Rst.mk h0 (Mod.below hb (Nat.le_refl _)) (h.blk.below hb h.blk.lt) ((h.files.below hb).mono fun b => .inl) h.last ((h.chgs.below hb).mono fun b => .inl) h.waits
end
def RNewPost (cap : Int) (w : World) (e : Ending) (w' : World) : Prop :=
    ((cap < 0 ∨ 65536 < cap) ∧ e = .returned (.pointer none) ∧ w = w') ∨ ((0 ≤ cap ∧ cap ≤ 65536) ∧ e = .returned (.pointer (some ⟨w.heap.size, 0, none⟩)) ∧ Rat w' w.heap.size (fun _ => False) (Dk.new cap) ∧ Below w.heap.size w w')
set_option maxHeartbeats 1000000 in
theorem rnew_any (cap : Int) (w : World) : Calls Try.prog 27 #[.int .i64 cap] w (RNewPost cap w) := by
  by_cases h1 : cap < 0
  · have e1 : decide (cap < 0) = true := decide_eq_true h1
    go_enter Try.func27, Try.ntmps27
    go_wp2_with fail
    go_ret
    exact .inl ⟨.inl h1, rfl, rfl⟩
  have e1 : decide (cap < 0) = false := decide_eq_false h1
  by_cases h2 : 65536 < cap
  · have e2 : decide (65536 < cap) = true := decide_eq_true h2
    go_enter Try.func27, Try.ntmps27
    go_wp2_with fail
    go_ret
    exact .inl ⟨.inr h2, rfl, rfl⟩
  have e2 : decide (65536 < cap) = false := decide_eq_false h2
  go_enter Try.func27, Try.ntmps27
  go_wp2_with fail
  go_ret
  refine .inr ⟨by omega, rfl, ⟨none, 0, [], none, 0, [], Blk.new _ _ _, FRow.nil _ _, rfl, CRow.nil _ _, rfl, fun _ h => h.elim⟩, below_new _ _⟩
set_option maxHeartbeats 1000000 in
theorem rstart_any {w : World} {m : Nat} {R : Nat → Prop} {x : Dk} (h : Rat w m R x) : Calls Try.prog 54 #[.pointer (some ⟨m, 0, none⟩)] w (RDid w m R x.start) := by
  have h0 := h
  obtain ⟨A, c, E, B, g, l, h⟩ := h
  have q4 := h.blk.cell 4
  have f4 := h.blk.free 4
  simp only [List.getElem?_toArray, List.getElem?_cons_zero, List.getElem?_cons_succ] at q4
  cases hdn : x.down
  · have HD := Lib.hid hdn
    rw [hdn] at q4
    clear hdn
    go_enter Try.func54, Try.ntmps54
    go_wp2_with fail
    go_ret
    have e : x.start = (5, x) := by unfold Dk.start; rw [HD.out]; rfl
    rw [e]
    exact ⟨rfl, Rst.same h0 (Below.refl _ _)⟩
  · have HD := Lib.hid hdn
    rw [hdn] at q4
    clear hdn
    go_enter Try.func54, Try.ntmps54
    go_wp2_with fail
    go_ret
    have e : x.start = (0, { x with down := false }) := by unfold Dk.start; rw [HD.out]; rfl
    rw [e]
    have hm : Mod (· = m) w (w.setCell ⟨m, 4, none⟩ (.bool false)) := (Mod.refl _ _).setm _ _
    have hR : ∀ b, R b → ¬ b = m := fun b hb => (h.off b hb).2
    exact ⟨rfl, Rst.mk h0 hm (h.blk.put 4 _) ((h.files.mod hm hR).mono fun b => .inl) h.last ((h.chgs.mod hm hR).mono fun b => .inl) h.waits⟩
set_option maxHeartbeats 1000000 in
theorem rwipe_any {w : World} {m : Nat} {R : Nat → Prop} {x : Dk} (h : Rat w m R x) : Calls Try.prog 55 #[.pointer (some ⟨m, 0, none⟩)] w fun e w' => e = .returned (.tuple #[]) ∧ Rst w m R x.wipe w' := by
  have h0 := h
  obtain ⟨A, c, E, B, g, l, h⟩ := h
  have q0 := h.blk.cell 0
  have q1 := h.blk.cell 1
  have q3 := h.blk.cell 3
  have f0 := h.blk.free 0
  have f1 := h.blk.free 1
  have f3 := h.blk.free 3
  simp only [List.getElem?_toArray, List.getElem?_cons_zero, List.getElem?_cons_succ] at q0 q1 q3
  go_enter Try.func55, Try.ntmps55
  go_wp2_with fail
  go_end0
  have hm : Mod (· = m) w (((w.setCell ⟨m, 0, none⟩ (.slice none 0 0)).setCell ⟨m, 1, none⟩ (.slice none 0 0)).setCell ⟨m, 3, none⟩ (.int .u64 (IntKind.u64.wrap (x.serial + 1)))) := (((Mod.refl _ _).setm _ _).setm _ _).setm _ _
  exact ⟨rfl, Rst.mk (x' := x.wipe) h0 hm (((h.blk.put 0 _).put 1 _).put 3 _) (FRow.nil _ _) rfl (CRow.nil _ _) rfl⟩
set_option maxHeartbeats 1000000 in
theorem rsync_any {w : World} {m : Nat} {R : Nat → Prop} {x : Dk} (h : Rat w m R x) {N : Nat} (hx : Fine N x) (hN : N ≤ 1000000) : Calls Try.prog 51 #[.pointer (some ⟨m, 0, none⟩)] w (RDid w m R x.sync) := by
  have h0 := h
  have hse := seen_any h hx hN
  obtain ⟨A, c, E, B, g, l, h⟩ := h
  have q4 := h.blk.cell 4
  simp only [List.getElem?_toArray, List.getElem?_cons_zero, List.getElem?_cons_succ] at q4
  cases hdn : x.down
  · have HD := Lib.hid hdn
    rw [hdn] at q4
    clear hdn
    go_enter Try.func51, Try.ntmps51
    go_wp2_with fail
    refine hse.mono ?_
    rintro e w1 ⟨E1, hf1, ⟨A1, c1, rfl, hE1⟩, hb1⟩
    have kb := h.blk.below hb1 h.blk.lt
    have q0 := kb.cell 0
    have q1 := kb.cell 1
    have f0 := kb.free 0
    have f1 := kb.free 1
    simp only [List.getElem?_toArray, List.getElem?_cons_zero, List.getElem?_cons_succ] at q0 q1
    clear q4 hse
    have HF := Lib.hid hf1
    clear hf1
    go_wp2_with fail
    go_ret
    have e : x.sync = (0, ({ x with last := x.seen } : Dk).rests) := by unfold Dk.sync; rw [HD.out]; rfl
    rw [e]
    have hm1 : Mod (· = m) w1 ((w1.setCell ⟨m, 0, none⟩ (.slice A1 E1.length c1)).setCell ⟨m, 1, none⟩ (.slice none 0 0)) := ((Mod.refl _ _).setm _ _).setm _ _
    have hm : Mod (· = m) w ((w1.setCell ⟨m, 0, none⟩ (.slice A1 E1.length c1)).setCell ⟨m, 1, none⟩ (.slice none 0 0)) := (Mod.below hb1 (Nat.le_refl _)).trans hm1
    have hlt := h.blk.lt
    refine ⟨rfl, Rst.mk (l := []) h0 hm ((kb.put 0 _).put 1 _) ((hE1.mod hm1 fun b hb => ?_).mono fun b hb => ?_) HF.out (CRow.nil _ _) rfl⟩
    · rcases hb with hb | hb
      · exact (h.off b hb).2
      · have := hb.1
        intro e
        omega
    · rcases hb with hb | hb
      · exact .inl hb
      · exact .inr ⟨hb.1, Nat.lt_of_lt_of_le hb.2 hm1.size⟩
  · have HD := Lib.hid hdn
    rw [hdn] at q4
    clear hdn hse
    go_enter Try.func51, Try.ntmps51
    go_wp2_with fail
    go_ret
    have e : x.sync = (6, x) := by unfold Dk.sync; rw [HD.out]; rfl
    rw [e]
    exact ⟨rfl, Rst.same h0 (Below.refl _ _)⟩
end Go.Proofs.Ytggdkhgpkedbkaa
