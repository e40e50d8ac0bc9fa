/- Several disks side by side, and blocks that are none of theirs. -/
import Derived.Test.YtggdkhgpkedbkaaDiskU
namespace Go.Proofs.Ytggdkhgpkedbkaa
open Go.RowKit

/-- The disks of L in w, each with blocks of its own, all made behind w0; of K's blocks none is theirs. -/
def Held (w0 w : World) (K : Nat → Prop) (L : List (Nat × Dk)) : Prop :=
  Below w0.heap.size w0 w ∧ (∀ b, K b → b < w.heap.size) ∧ (L.map (·.1)).Nodup ∧ ∃ U V : Nat → Nat → Prop, ∀ p ∈ L, Dsk w p.1 (U p.1) (V p.1) p.2 ∧ (∀ b, U p.1 b ∨ V p.1 b → w0.heap.size ≤ b ∧ ¬ K b) ∧
    ∀ q ∈ L, q.1 ≠ p.1 → ∀ b, U p.1 b → ¬ U q.1 b ∧ ¬ V q.1 b
section
variable {w0 w w' : World} {K : Nat → Prop} {L : List (Nat × Dk)} {d : Nat} {x : Dk}
theorem Held.bel (h : Held w0 w K L) : Below w0.heap.size w0 w := h.1
theorem Held.le (h : Held w0 w K L) : w0.heap.size ≤ w.heap.size := h.1.size
theorem Dsk.lo {U V : Nat → Prop} (h : Dsk w d U V x) : (∀ b, U b → b < w.heap.size) ∧ ∀ b, V b → b < w.heap.size := by
  obtain ⟨mf, ml, v, h⟩ := h
  exact ⟨h.ulo, h.vlo⟩
theorem Held.nil (w0 : World) : Held w0 w0 (fun _ => False) [] := ⟨Below.refl _ _, fun _ h => h.elim, List.nodup_nil, fun _ _ => False, fun _ _ => False, fun _ h => by cases h⟩
theorem Held.perm {M : List (Nat × Dk)} (h : Held w0 w K L) (hp : L.Perm M) : Held w0 w K M := by
  obtain ⟨h1, h2, h3, U, V, h4⟩ := h
  refine ⟨h1, h2, (hp.map _).nodup_iff.1 h3, U, V, fun p hp' => ?_⟩
  obtain ⟨a, b, c⟩ := h4 p (hp.mem_iff.2 hp')
  exact ⟨a, b, fun q hq => c q (hp.mem_iff.2 hq)⟩
theorem Held.drop {M : List (Nat × Dk)} (h : Held w0 w K L) (hs : M.Sublist L) : Held w0 w K M := by
  obtain ⟨h1, h2, h3, U, V, h4⟩ := h
  refine ⟨h1, h2, h3.sublist (hs.map _), U, V, fun p hp' => ?_⟩
  obtain ⟨a, b, c⟩ := h4 p (hs.subset hp')
  exact ⟨a, b, fun q hq => c q (hs.subset hq)⟩
/-- Something is made, nothing that stood is written but what is not theirs. -/
theorem Held.other {S : Nat → Prop} (h : Held w0 w K L) (hb : Below w0.heap.size w0 w') (hm : Mod S w w') (hS : ∀ b, b < w.heap.size → S b → K b) : Held w0 w' (fun b => K b ∨ From w.heap.size w' b) L := by
  obtain ⟨h1, h2, h3, U, V, h4⟩ := h
  refine ⟨hb, fun b hb => hb.elim (fun e => Nat.lt_of_lt_of_le (h2 b e) hm.size) fun e => e.2, h3, U, V, fun p hp => ?_⟩
  obtain ⟨a, b, c⟩ := h4 p hp
  have hlo := a.lo
  refine ⟨a.mod hm (fun k hk e => (b k (.inl hk)).2 (hS k (hlo.1 k hk) e)) (fun k hk e => (b k (.inr hk)).2 (hS k (hlo.2 k hk) e)), fun k hk => ⟨(b k hk).1, fun e => e.elim (b k hk).2 fun e => ?_⟩, c⟩
  have := e.1
  rcases hk with hk | hk
  · have := hlo.1 k hk; omega
  · have := hlo.2 k hk; omega
theorem Held.below (h : Held w0 w K L) (hb : Below w.heap.size w w') : Held w0 w' (fun b => K b ∨ From w.heap.size w' b) L :=
  h.other (S := fun _ => False) (h.1.trans (hb.mono h.le)) (Mod.below hb (Nat.le_refl _)) fun _ _ e => e.elim
theorem Held.less {K' : Nat → Prop} (h : Held w0 w K L) (hK : ∀ b, K' b → K b) : Held w0 w K' L := by
  obtain ⟨h1, h2, h3, U, V, h4⟩ := h
  exact ⟨h1, fun b hb => h2 b (hK b hb), h3, U, V, fun p hp => ⟨(h4 p hp).1, fun b hb => ⟨((h4 p hp).2.1 b hb).1, fun e => ((h4 p hp).2.1 b hb).2 (hK b e)⟩, (h4 p hp).2.2⟩⟩
/-- The blocks of K have stayed as they were. -/
def Kept (K : Nat → Prop) (w w' : World) : Prop := w.heap.size ≤ w'.heap.size ∧ ∀ b, K b → w'.heap[b]? = w.heap[b]?
/-- One function at one place another. -/
def upd (U : Nat → Nat → Prop) (d : Nat) (U' : Nat → Prop) : Nat → Nat → Prop := fun p => if p = d then U' else U p
theorem upd_same (U : Nat → Nat → Prop) (d : Nat) (U' : Nat → Prop) : upd U d U' d = U' := by simp [upd]
theorem upd_other (U : Nat → Nat → Prop) {d p : Nat} (U' : Nat → Prop) (h : p ≠ d) : upd U d U' p = U p := by simp [upd, h]
/-- One of them is changed. -/
theorem Held.step {x' : Dk} (h : Held w0 w K ((d, x) :: L)) {R : Ending → World → Prop} {f : Nat} {args : Array Value} {S : Ending → Prop}
    (hc : ∀ U V, Dsk w d U V x → Calls Try.prog f args w fun e w' => S e ∧ To w d U V x' w')
    (hR : ∀ e w', S e → Held w0 w' K ((d, x') :: L) → Kept K w w' → R e w') : Calls Try.prog f args w R := by
  obtain ⟨h1, h2, h3, U, V, h4⟩ := h
  obtain ⟨a, b, c⟩ := h4 _ (List.mem_cons_self)
  refine (hc _ _ a).mono fun e w' ⟨hs, U', V', t1, t2, t3, t4⟩ => hR e w' hs ?_ ⟨t2.size, fun k hk => t2.block k (h2 k hk) fun e => (b k (.inl e)).2 hk⟩
  have hnd : d ∉ L.map (·.1) ∧ (L.map (·.1)).Nodup := List.nodup_cons.1 (show (d :: L.map (·.1)).Nodup from h3)
  have hz := t2.size
  refine ⟨⟨t2.os.trans h1.os, t2.tape.trans h1.tape, t2.output.trans h1.output, Nat.le_trans h1.size hz, fun k hk => (t2.block k (Nat.lt_of_lt_of_le hk h1.size) fun e => ?_).trans (h1.block k hk)⟩,
    fun k hk => Nat.lt_of_lt_of_le (h2 k hk) hz, h3, upd U d U', upd V d V', fun p hp => ?_⟩
  · have := (b k (.inl e)).1
    omega
  · rcases List.mem_cons.1 hp with rfl | hp
    · simp only [upd_same]
      refine ⟨t1, fun k hk => ?_, fun q hq hne k hk => ?_⟩
      · rcases hk with hk | hk
        · rcases t3 k hk with e | e
          · exact b k (.inl e)
          · exact ⟨Nat.le_trans h1.size e, fun hk' => by have := h2 k hk'; omega⟩
        · rcases t4 k hk with e | e
          · exact b k (.inr e)
          · exact ⟨Nat.le_trans h1.size e, fun hk' => by have := h2 k hk'; omega⟩
      · rcases List.mem_cons.1 hq with rfl | hq
        · exact absurd rfl hne
        · rw [upd_other _ _ hne, upd_other _ _ hne]
          obtain ⟨a', _, _⟩ := h4 q (List.mem_cons_of_mem _ hq)
          rcases t3 k hk with e | e
          · exact c q (List.mem_cons_of_mem _ hq) hne k e
          · exact ⟨fun e' => by have := a'.lo.1 k e'; omega, fun e' => by have := a'.lo.2 k e'; omega⟩
    · have hpd : p.1 ≠ d := fun e => hnd.1 (e ▸ List.mem_map_of_mem hp)
      obtain ⟨a', b', c'⟩ := h4 p (List.mem_cons_of_mem _ hp)
      rw [upd_other _ _ hpd, upd_other _ _ hpd]
      have hap : ∀ k, U d k → ¬ U p.1 k ∧ ¬ V p.1 k := fun k hk => c p (List.mem_cons_of_mem _ hp) hpd k hk
      refine ⟨a'.mod t2 (fun k hk e => (hap k e).1 hk) (fun k hk e => (hap k e).2 hk), b', fun q hq hne k hk => ?_⟩
      rcases List.mem_cons.1 hq with rfl | hq
      · simp only [upd_same]
        have hl := a'.lo.1 k hk
        have hh := c' (d, x) List.mem_cons_self (fun e => hpd e.symm) k hk
        exact ⟨fun e => (t3 k e).elim hh.1 fun e => by omega, fun e => (t4 k e).elim hh.2 fun e => by omega⟩
      · have hqd : q.1 ≠ d := fun e => hnd.1 (e ▸ List.mem_map_of_mem hq)
        rw [upd_other _ _ hqd, upd_other _ _ hqd]
        exact c' q (List.mem_cons_of_mem _ hq) hne k hk
theorem Dsk.ap {U V : Nat → Prop} (h : Dsk w d U V x) : ∀ b, U b → ¬ V b := by
  obtain ⟨mf, ml, v, h⟩ := h
  exact h.apart
/-- A new one, which may read what no other one writes. -/
theorem Held.cons {U' V' : Nat → Prop} {U V : Nat → Nat → Prop} (h1 : Below w0.heap.size w0 w) (h2 : ∀ b, K b → b < w.heap.size) (h3 : (L.map (·.1)).Nodup)
    (h4 : ∀ p ∈ L, Dsk w p.1 (U p.1) (V p.1) p.2 ∧ (∀ b, U p.1 b ∨ V p.1 b → w0.heap.size ≤ b ∧ ¬ K b) ∧ ∀ q ∈ L, q.1 ≠ p.1 → ∀ b, U p.1 b → ¬ U q.1 b ∧ ¬ V q.1 b)
    (hb : Below w.heap.size w w') (hd : Dsk w' d U' V' x) (hu : ∀ b, U' b → w.heap.size ≤ b) (hv : ∀ b, V' b → w0.heap.size ≤ b ∧ ¬ K b) (hvq : ∀ q ∈ L, ∀ b, V' b → ¬ U q.1 b) : Held w0 w' K ((d, x) :: L) := by
  have hz := hb.size
  have hz1 := h1.size
  have hdl : ∀ p ∈ L, p.1 ≠ d := fun p hp e => by
    obtain ⟨mf, ml, v, hk⟩ := (h4 p hp).1
    have h5 := hk.ulo _ hk.ud
    obtain ⟨mf', ml', v', hk'⟩ := hd
    have h6 := hu _ hk'.ud
    omega
  refine ⟨h1.trans (hb.mono h1.size), fun k hk => Nat.lt_of_lt_of_le (h2 k hk) hz, ?_, upd U d U', upd V d V', fun p hp => ?_⟩
  · rw [List.map_cons, List.nodup_cons]
    refine ⟨fun e => ?_, h3⟩
    obtain ⟨p, hp, e⟩ := List.mem_map.1 e
    exact hdl p hp e
  · rcases List.mem_cons.1 hp with rfl | hp
    · simp only [upd_same]
      refine ⟨hd, fun k hk => ?_, fun q hq hne k hk => ?_⟩
      · rcases hk with hk | hk
        · have := hu k hk
          exact ⟨by omega, fun e => by have := h2 k e; omega⟩
        · exact hv k hk
      · rcases List.mem_cons.1 hq with rfl | hq
        · exact absurd rfl hne
        · rw [upd_other _ _ hne, upd_other _ _ hne]
          have hl := (h4 q hq).1.lo
          have := hu k hk
          exact ⟨fun e => by have := hl.1 k e; omega, fun e => by have := hl.2 k e; omega⟩
    · obtain ⟨a', b', c'⟩ := h4 p hp
      have hpd := hdl p hp
      rw [upd_other _ _ hpd, upd_other _ _ hpd]
      have hl := a'.lo
      refine ⟨a'.below hb, b', fun q hq hne k hk => ?_⟩
      rcases List.mem_cons.1 hq with rfl | hq
      · simp only [upd_same]
        have := hl.1 k hk
        exact ⟨fun e => by have := hu k e; omega, fun e => hvq p hp k e hk⟩
      · rw [upd_other _ _ (hdl q hq), upd_other _ _ (hdl q hq)]
        exact c' q hq hne k hk
/-- A copy. -/
theorem Held.copy (h : Held w0 w K ((d, x) :: L)) (hx : Small x) : Calls Try.prog 20 #[pd d] w fun e w' => ∃ d', e = .returned (pd d') ∧ Held w0 w' K ((d', x) :: (d, x) :: L) ∧ Below w.heap.size w w' := by
  obtain ⟨h1, h2, h3, U, V, h4⟩ := h
  obtain ⟨a, b, c⟩ := h4 _ (List.mem_cons_self)
  refine (copy_any a hx).mono fun e w' ⟨⟨d', U', V', he, k1, k2, k3⟩, k4⟩ => ⟨d', he, ?_, k4⟩
  have hz := h1.size
  refine Held.cons h1 h2 h3 h4 k4 k1 k2 (fun k hk => ?_) fun q hq k hk hu => ?_
  · rcases k3 k hk with e | e
    · exact b k (.inr e)
    · exact ⟨by omega, fun hk' => by have := h2 k hk'; omega⟩
  · rcases k3 k hk with e | e
    · by_cases hqd : q.1 = d
      · rw [hqd] at hu
        exact a.ap k hu e
      · exact ((h4 q hq).2.2 (d, x) List.mem_cons_self (fun e => hqd e.symm) k hu).2 e
    · have := (h4 q hq).1.lo.1 k hu; omega
theorem Held.new (cap : Int) (h : Held w0 w K L) : Calls Try.prog 9 #[.int .i64 cap] w fun e w' => Below w.heap.size w w' ∧
    ((cap < 0 ∨ 65536 < cap) ∧ e = .returned (.tuple #[.pointer none, .int .i64 1]) ∨ (0 ≤ cap ∧ cap ≤ 65536) ∧ ∃ d, e = .returned (.tuple #[pd d, .int .i64 0]) ∧ Held w0 w' K ((d, Dk.new cap) :: L)) := by
  refine (new_any cap w).mono fun e w' ⟨hb, hp⟩ => ⟨hb, ?_⟩
  by_cases hc : cap < 0 ∨ 65536 < cap
  · rw [if_pos hc] at hp
    exact .inl ⟨hc, hp⟩
  · rw [if_neg hc] at hp
    obtain ⟨d, he, hd⟩ := hp
    obtain ⟨h1, h2, h3, U, V, h4⟩ := h
    exact .inr ⟨by omega, d, he, Held.cons h1 h2 h3 h4 hb hd (fun b hb => hb.1) (fun _ h => h.elim) fun _ _ _ h => h.elim⟩
theorem Held.dsk (h : Held w0 w K ((d, x) :: L)) : ∃ U V, Dsk w d U V x := by
  obtain ⟨_, _, _, U, V, h4⟩ := h
  exact ⟨_, _, (h4 _ List.mem_cons_self).1⟩
end
end Go.Proofs.Ytggdkhgpkedbkaa
