/- Two writers and a row of bytes, side by side. -/
import Derived.Test.YtcklbhplhpohpaaDoorRefB
namespace Go.Proofs.YtcklbhplhpohpaaDoor
open Go.RowKit

/-- Two writers and a row, in blocks from B on, no block of theirs shared, none of which F is true. -/
structure Trio (F : Nat → Prop) (B b1 b2 : Nat) (w : World) (L1 L2 LV : List UInt8) (row1 row2 : Option Nat) (V : Value) : Prop where
  h1 : Wr w b1 row1 L1
  h2 : Wr w b2 row2 L2
  hv : w.ownsRow B 5 1 V LV.length (LV.map bv)
  b12 : b1 ≠ b2
  r1 : row1 ≠ some b2
  r2 : row2 ≠ some b1
  r12 : ∀ g, row1 = some g → row2 ≠ some g
  v1 : V.ownBlock ≠ some b1
  v2 : V.ownBlock ≠ some b2
  v3 : ∀ g, V.ownBlock = some g → row1 ≠ some g ∧ row2 ≠ some g
  f1 : ¬ F b1
  f2 : ¬ F b2
  fr1 : ∀ g, row1 = some g → ¬ F g
  fr2 : ∀ g, row2 = some g → ¬ F g
  fv : ∀ g, V.ownBlock = some g → ¬ F g
  B1 : B ≤ b1
  B2 : B ≤ b2
  Br1 : ∀ g, row1 = some g → B ≤ g
  Br2 : ∀ g, row2 = some g → B ≤ g
theorem own_lt {w : World} {base : Nat} {e : TypeId} {size : Nat} {v : Value} {n : Nat} {xs : List Value} (h : w.ownsRow base e size v n xs) : ∀ g, v.ownBlock = some g → g < w.heap.size := by
  intro g hg
  rcases h.2 with ⟨rfl, _⟩ | ⟨g', cap, cur, rfl, _, hb, _⟩
  · simp [Value.ownBlock] at hg
  · simp [Value.ownBlock] at hg
    subst hg
    exact (Array.getElem?_eq_some_iff.1 hb).1
theorem own_mod {S : Nat → Prop} {w w' : World} {base : Nat} {e : TypeId} {size : Nat} {v : Value} {n : Nat} {xs : List Value} (h : w.ownsRow base e size v n xs) (hm : Mod S w w') (hv : ∀ g, v.ownBlock = some g → ¬ S g) : w'.ownsRow base e size v n xs := by
  refine ⟨h.1, ?_⟩
  rcases h.2 with h2 | ⟨g, cap, cur, rfl, h3, h4, h5⟩
  · exact .inl h2
  · refine .inr ⟨g, cap, cur, rfl, h3, ?_, h5⟩
    rw [hm.block g (Array.getElem?_eq_some_iff.1 h4).1 (hv g (by simp [Value.ownBlock]))]
    exact h4
section
variable {F F' : Nat → Prop} {B b1 b2 : Nat} {w w' : World} {L1 L2 LV L : List UInt8} {row1 row2 : Option Nat} {V : Value}
theorem Trio.swap (t : Trio F B b1 b2 w L1 L2 LV row1 row2 V) : Trio F B b2 b1 w L2 L1 LV row2 row1 V :=
  ⟨t.h2, t.h1, t.hv, t.b12.symm, t.r2, t.r1, fun g h k => t.r12 g k h, t.v2, t.v1, fun g h => ⟨(t.v3 g h).2, (t.v3 g h).1⟩, t.f2, t.f1, t.fr2, t.fr1, t.fv, t.B2, t.B1, t.Br2, t.Br1⟩
theorem Trio.mod {S : Nat → Prop} (t : Trio F B b1 b2 w L1 L2 LV row1 row2 V) (hm : Mod S w w') (hS : ∀ k, k < w.heap.size → S k → F k) : Trio F B b1 b2 w' L1 L2 LV row1 row2 V := by
  have hg : ∀ k, k < w.heap.size → ¬ F k → ¬ S k := fun k h1 h2 h3 => h2 (hS k h1 h3)
  exact { t with h1 := Buf.mod t.h1 hm (hg _ t.h1.lt t.f1) (fun g e => hg g (t.h1.row_lt g e) (t.fr1 g e)), h2 := Buf.mod t.h2 hm (hg _ t.h2.lt t.f2) (fun g e => hg g (t.h2.row_lt g e) (t.fr2 g e)), hv := own_mod t.hv hm fun g e => hg g (own_lt t.hv g e) (t.fv g e) }
theorem Trio.below (t : Trio F B b1 b2 w L1 L2 LV row1 row2 V) (hb : Below w.heap.size w w') : Trio F B b1 b2 w' L1 L2 LV row1 row2 V := t.mod (Mod.below (S := fun _ => False) hb (Nat.le_refl _)) fun _ _ h => h.elim
/-- Others are left out from now on. -/
theorem Trio.turn (t : Trio F B b1 b2 w L1 L2 LV row1 row2 V) (hF : ∀ k, k < w.heap.size → ¬ F' k) : Trio F' B b1 b2 w L1 L2 LV row1 row2 V :=
  { t with f1 := hF _ t.h1.lt, f2 := hF _ t.h2.lt, fr1 := fun g e => hF g (t.h1.row_lt g e), fr2 := fun g e => hF g (t.h2.row_lt g e), fv := fun g e => hF g (own_lt t.hv g e) }
theorem Trio.one (t : Trio F B b1 b2 w L1 L2 LV row1 row2 V) (h : Wrt b1 row1 L w w') (hF : ∀ g, w.heap.size ≤ g → ¬ F g) (hB : B ≤ w.heap.size) : ∃ row1', Trio F B b1 b2 w' L L2 LV row1' row2 V := by
  obtain ⟨row', k1, k2, k3⟩ := h
  have hnew : ∀ g, row' = some g → row1 = some g ∨ w.heap.size ≤ g := fun g e => by
    rcases k2 with k2 | ⟨g', h1, h2⟩
    · exact .inl (by rw [← k2, e])
    · rw [e] at h2
      injection h2 with h2
      exact .inr (by omega)
  have l2 := t.h2.lt
  refine ⟨row', { t with h1 := k1, h2 := Buf.mod t.h2 k3 ?_ ?_, hv := own_mod t.hv k3 ?_, r1 := ?_, r12 := ?_, v3 := ?_, fr1 := ?_, Br1 := ?_ }⟩
  · rintro (h | h)
    · exact t.b12 h.symm
    · exact t.r1 h.symm
  · intro g e
    rintro (h | h)
    · exact t.r2 (by rw [e, h])
    · exact t.r12 g h.symm e
  · intro g e
    rintro (h | h)
    · exact t.v1 (by rw [e, h])
    · exact (t.v3 g e).1 h.symm
  · intro e
    rcases hnew _ e with h | h
    · exact t.r1 h
    · omega
  · intro g e
    rcases hnew g e with h | h
    · exact t.r12 g h
    · intro e2
      have := t.h2.row_lt g e2
      omega
  · intro g e
    refine ⟨fun e2 => ?_, (t.v3 g e).2⟩
    rcases hnew g e2 with h | h
    · exact (t.v3 g e).1 h
    · have := own_lt t.hv g e
      omega
  · intro g e
    rcases hnew g e with h | h
    · exact t.fr1 g h
    · exact hF g h
  · intro g e
    rcases hnew g e with h | h
    · exact t.Br1 g h
    · omega
theorem Trio.want {V' : Value} (t : Trio F B b1 b2 w L1 L2 LV row1 row2 V) (h : w'.ownsRow B 5 1 V' L.length (L.map bv)) (hg : w.grownBy w' V.ownBlock) (hV : V'.ownBlock = V.ownBlock ∨ V'.ownBlock = some w.heap.size) (hF : ∀ g, w.heap.size ≤ g → ¬ F g) : Trio F B b1 b2 w' L1 L2 L row1 row2 V' := by
  have hm : Mod (fun k => some k = V.ownBlock) w w' := Mod.grown hg fun g e _ => e.symm
  have l1 := t.h1.lt
  have l2 := t.h2.lt
  refine { t with h1 := Buf.mod t.h1 hm (fun h => t.v1 h.symm) (fun g e h => (t.v3 g h.symm).1 e), h2 := Buf.mod t.h2 hm (fun h => t.v2 h.symm) (fun g e h => (t.v3 g h.symm).2 e), hv := h, v1 := ?_, v2 := ?_, v3 := ?_, fv := ?_ }
  · rcases hV with e | e
    · rw [e]; exact t.v1
    · rw [e]; simp; omega
  · rcases hV with e | e
    · rw [e]; exact t.v2
    · rw [e]; simp; omega
  · intro g e2
    rcases hV with e | e
    · exact t.v3 g (by rw [← e, e2])
    · rw [e] at e2
      injection e2 with e2
      subst e2
      exact ⟨fun h => by have := t.h1.row_lt _ h; omega, fun h => by have := t.h2.row_lt _ h; omega⟩
  · intro g e2
    rcases hV with e | e
    · exact t.fv g (by rw [← e, e2])
    · rw [e] at e2
      injection e2 with e2
      subst e2
      exact hF _ (Nat.le_refl _)
theorem Trio.keeps1 {w0 : World} (t : Trio F B b1 b2 w L1 L2 LV row1 row2 V) (h : Wrt b1 row1 L w w') (hb : Below B w0 w) (hB : B ≤ w.heap.size) : Below B w0 w' := by
  obtain ⟨_, _, _, k3⟩ := h
  refine Below.mod hb k3 hB fun k hk => ?_
  rcases hk with rfl | hk
  · exact t.B1
  · exact t.Br1 k hk.symm
end
end Go.Proofs.YtcklbhplhpohpaaDoor
