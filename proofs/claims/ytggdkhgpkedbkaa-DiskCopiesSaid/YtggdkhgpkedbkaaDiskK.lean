/- A disk in memory; a change waits, and is done to the files as they are seen. -/
import Derived.Test.YtggdkhgpkedbkaaDiskJ
namespace Go.Proofs.Ytggdkhgpkedbkaa
open Go.RowKit

theorem drew_size (w : World) : w.drew.heap.size = w.heap.size := rfl
/-- A disk, plain. -/
structure Dk where
  seen : Files
  last : Files
  waits : List Chg
  cap : Int
  serial : Int
  down : Bool

theorem chg_ty : SliceTy Try.prog 55 75 3 24 := SliceTy.mk Try.underlying55 (z := .agg #[.nilFunc, .nilFunc, .int .i64 0]) (by kernel_rfl) (by kernel_rfl)
/-- The cells of what waits. -/
def wrow (E : List ((Value × Value) × Chg)) : List Value := E.flatMap fun p => [p.1.1, p.1.2, .int .i64 (p.2.size : Int)]
theorem wrow_len (E : List ((Value × Value) × Chg)) : (wrow E).length = E.length * 3 := by
  induction E with
  | nil => rfl
  | cons p E ih => simp only [wrow, List.flatMap_cons, List.length_append, List.length_cons, List.length_nil] at ih ⊢; omega
theorem wrow_app (E G : List ((Value × Value) × Chg)) : wrow (E ++ G) = wrow E ++ wrow G := by simp [wrow]
theorem wrow_drop (E : List ((Value × Value) × Chg)) (k : Nat) : wrow (E.drop k) = (wrow E).drop (k * 3) := by
  induction k generalizing E with
  | zero => simp
  | succ k ih =>
    cases E with
    | nil => simp [wrow]
    | cons p E =>
      rw [List.drop_succ_cons, ih, show (k + 1) * 3 = k * 3 + 3 by omega]
      simp [wrow, List.drop_append]
theorem wrow_take (E : List ((Value × Value) × Chg)) (k : Nat) : wrow (E.take k) = (wrow E).take (k * 3) := by
  induction k generalizing E with
  | zero => simp [wrow]
  | succ k ih =>
    cases E with
    | nil => simp [wrow]
    | cons p E =>
      rw [List.take_succ_cons, show (k + 1) * 3 = k * 3 + 3 by omega]
      have := ih E
      simp only [wrow, List.flatMap_cons] at this ⊢
      rw [this]
      simp [List.take_append]
theorem wrow_at (E : List ((Value × Value) × Chg)) {k : Nat} (hk : k < E.length) : (wrow E)[k * 3]? = some E[k].1.1 ∧ (wrow E)[k * 3 + 1]? = some E[k].1.2 ∧ (wrow E)[k * 3 + 2]? = some (.int .i64 (E[k].2.size : Int)) := by
  have h1 : E = E.take k ++ (E[k] :: E.drop (k + 1)) := by rw [List.getElem_cons_drop, List.take_append_drop]
  have h2 : wrow E = wrow (E.take k) ++ ([E[k].1.1, E[k].1.2, .int .i64 (E[k].2.size : Int)] ++ wrow (E.drop (k + 1))) := by
    conv => lhs; rw [h1]
    rw [wrow_app]
    rfl
  have hl : (wrow (E.take k)).length = k * 3 := by rw [wrow_len, List.length_take, Nat.min_eq_left (by omega)]
  rw [h2]
  refine ⟨?_, ?_, ?_⟩
  · rw [List.getElem?_append_right (by omega), hl]; simp
  · rw [List.getElem?_append_right (by omega), hl]; simp
  · rw [List.getElem?_append_right (by omega), hl]; simp
def WaitsR (w : World) (V : Nat → Prop) (v : Value) (cs : List Chg) : Prop :=
  ∃ E : List ((Value × Value) × Chg), w.ownsRow 0 75 3 v cs.length (wrow E) ∧ cs = E.map (·.2) ∧ ∀ p ∈ E, DoesV w V p.1.1 p.2 ∧ TornV w V p.1.2 p.2
theorem DoesV.one {w : World} {V : Nat → Prop} {v : Value} {c : Chg} (h : DoesV w V v c) : v.oneCell' = true := by
  cases c <;> simp only [DoesV] at h
  · obtain ⟨_, _, rfl, _⟩ := h; rfl
  · obtain ⟨_, _, rfl, _⟩ := h; rfl
  · obtain ⟨_, _, rfl, _⟩ := h; rfl
  · obtain ⟨_, rfl, _⟩ := h; rfl
theorem TornV.one {w : World} {V : Nat → Prop} {v : Value} {c : Chg} (h : TornV w V v c) : v.oneCell' = true := by
  cases c <;> simp only [TornV] at h
  · obtain ⟨_, _, rfl, _⟩ := h; rfl
  · subst h; rfl
  · subst h; rfl
  · subst h; rfl
section
variable {w w' : World} {V V' S : Nat → Prop} {v : Value} {cs : List Chg}
theorem wrow_one {E : List ((Value × Value) × Chg)} (h : ∀ p ∈ E, DoesV w V p.1.1 p.2 ∧ TornV w V p.1.2 p.2) : ∀ u ∈ wrow E, u.oneCell' = true := by
  intro u hu
  obtain ⟨p, hp, hu⟩ := List.mem_flatMap.1 hu
  simp only [List.mem_cons, List.not_mem_nil, or_false] at hu
  rcases hu with rfl | rfl | rfl
  · exact (h p hp).1.one
  · exact (h p hp).2.one
  · rfl
theorem own_mod {base : Nat} {e : TypeId} {size n : Nat} {xs : List Value} (h : w.ownsRow base e size v n xs) (hm : Mod S w w') (hv : ∀ b, v.ownBlock = some b → ¬ S b) : w'.ownsRow base e size v n xs := by
  refine ⟨h.1, ?_⟩
  rcases h.2 with h2 | ⟨g, cap, cur, rfl, hg, hb, r⟩
  · exact .inl h2
  · exact .inr ⟨g, cap, cur, rfl, hg, (hm.block g (Array.getElem?_eq_some_iff.1 hb).1 (hv g rfl)).trans hb, r⟩
theorem WaitsR.nil (w : World) (V : Nat → Prop) : WaitsR w V (.slice none 0 0) [] := ⟨[], World.ownsRow_nil _ _ _ _, rfl, fun _ h => by cases h⟩
theorem WaitsR.mod (h : WaitsR w V v cs) (hm : Mod S w w') (hv : ∀ b, v.ownBlock = some b → ¬ S b) (hS : ∀ b, V b → ¬ S b) : WaitsR w' V v cs := by
  obtain ⟨E, h1, h2, h3⟩ := h
  exact ⟨E, own_mod h1 hm hv, h2, fun p hp => ⟨(h3 p hp).1.mod hm hS, (h3 p hp).2.mod hm hS⟩⟩
theorem WaitsR.mono (h : WaitsR w V v cs) (hV : ∀ b, V b → V' b) : WaitsR w V' v cs := by
  obtain ⟨E, h1, h2, h3⟩ := h
  exact ⟨E, h1, h2, fun p hp => ⟨(h3 p hp).1.mono hV, (h3 p hp).2.mono hV⟩⟩
end
theorem own_ne {w : World} {base : Nat} {e t : TypeId} {size n b : Nat} {v : Value} {xs : List Value} {cs : Array Value} (h : w.ownsRow base e size v n xs) (k : Blk w b t cs) (he : e ≠ t) : v.ownBlock ≠ some b := by
  rcases h.2 with ⟨rfl, _⟩ | ⟨g, cap, cur, rfl, _, hb, _⟩
  · simp [Value.ownBlock]
  · intro e'
    simp [Value.ownBlock] at e'
    subst e'
    unfold Blk at k
    rw [hb] at k
    injection k with k
    injection k with _ k _
    exact he k
theorem own_ne_fil {w : World} {V : Nat → Prop} {base : Nat} {e : TypeId} {size n m : Nat} {v : Value} {xs : List Value} {F : Files} (h : w.ownsRow base e size v n xs) (k : Fil w V m F) : v.ownBlock ≠ some m := by
  rcases h.2 with ⟨rfl, _⟩ | ⟨g, cap, cur, rfl, _, hb, _⟩
  · simp [Value.ownBlock]
  · intro e'
    simp [Value.ownBlock] at e'
    subst e'
    obtain ⟨E, ⟨es, clock, h1, _⟩, _⟩ := k
    rw [h1] at hb
    cases hb
theorem Reads.block3 (w : World) (t : TypeId) (a b c : Value) : Reads (w.alloc (.cells #[a, b, c] t)) 3 (some ⟨w.heap.size, 0, none⟩) 1 [a, b, c] := by
  refine ⟨rfl, fun _ => ⟨_, rfl, by simp, fun j u hu => ?_⟩⟩
  rw [add_flat]
  have := (Blk.new w t #[a, b, c]).cell (0 + j)
  rw [this]
  simpa using hu
/-- Block d is the disk x; of the blocks that it writes U is true, of those that it reads alone V. -/
structure DskAt (w : World) (d : Nat) (U V : Nat → Prop) (x : Dk) (mf ml : Nat) (v : Value) : Prop where
  blk : DskB w d (some mf) (some ml) v x.cap x.serial x.down
  ne : mf ≠ ml
  ud : U d
  uf : U mf
  ul : U ml
  uv : ∀ b, v.ownBlock = some b → U b
  seen : Fil w V mf x.seen
  last : Fil w V ml x.last
  waits : WaitsR w V v x.waits
  apart : ∀ b, U b → ¬ V b
  ulo : ∀ b, U b → b < w.heap.size
  vlo : ∀ b, V b → b < w.heap.size
def Dsk (w : World) (d : Nat) (U V : Nat → Prop) (x : Dk) : Prop := ∃ mf ml v, DskAt w d U V x mf ml v
theorem DskAt.mod {w w' : World} {d : Nat} {U V S : Nat → Prop} {x : Dk} {mf ml : Nat} {v : Value} (h : DskAt w d U V x mf ml v) (hm : Mod S w w') (hU : ∀ b, U b → ¬ S b) (hV : ∀ b, V b → ¬ S b) : DskAt w' d U V x mf ml v :=
  ⟨Blk.mod h.blk hm (hU _ h.ud), h.ne, h.ud, h.uf, h.ul, h.uv, h.seen.mod hm (hU _ h.uf) hV, h.last.mod hm (hU _ h.ul) hV, h.waits.mod hm (fun b e => hU _ (h.uv b e)) hV, h.apart,
    fun b hb => Nat.lt_of_lt_of_le (h.ulo b hb) hm.size, fun b hb => Nat.lt_of_lt_of_le (h.vlo b hb) hm.size⟩
theorem Dsk.mod {w w' : World} {d : Nat} {U V S : Nat → Prop} {x : Dk} (h : Dsk w d U V x) (hm : Mod S w w') (hU : ∀ b, U b → ¬ S b) (hV : ∀ b, V b → ¬ S b) : Dsk w' d U V x := by
  obtain ⟨mf, ml, v, h⟩ := h
  exact ⟨mf, ml, v, h.mod hm hU hV⟩
theorem Dsk.below {w w' : World} {d : Nat} {U V : Nat → Prop} {x : Dk} (h : Dsk w d U V x) (hb : Below w.heap.size w w') : Dsk w' d U V x := h.mod (S := fun _ => False) (Mod.below hb (Nat.le_refl _)) (fun _ _ e => e) fun _ _ e => e
theorem DskAt.below {w w' : World} {d : Nat} {U V : Nat → Prop} {x : Dk} {mf ml : Nat} {v : Value} (h : DskAt w d U V x mf ml v) (hb : Below w.heap.size w w') : DskAt w' d U V x mf ml v := h.mod (S := fun _ => False) (Mod.below hb (Nat.le_refl _)) (fun _ _ e => e) fun _ _ e => e
theorem Fil.drew {w : World} {V : Nat → Prop} {m : Nat} {F : Files} (h : Fil w V m F) : Fil w.drew V m F := h.mod (Mod.refl (fun _ => False) w).drew (fun e => e) fun _ _ e => e
theorem Fil.below {w w' : World} {V : Nat → Prop} {m : Nat} {F : Files} (h : Fil w V m F) (hb : Below w.heap.size w w') : Fil w' V m F := h.mod (S := fun _ => False) (Mod.below hb (Nat.le_refl _)) (fun e => e) fun _ _ e => e
theorem DskAt.drew {w : World} {d : Nat} {U V : Nat → Prop} {x : Dk} {mf ml : Nat} {v : Value} (h : DskAt w d U V x mf ml v) : DskAt w.drew d U V x mf ml v := h.below (Below.refl _ w).drew
theorem DskAt.more {w : World} {d : Nat} {U V V' : Nat → Prop} {x : Dk} {mf ml : Nat} {v : Value} (h : DskAt w d U V x mf ml v) (hV : ∀ b, V b → V' b) (ha : ∀ b, U b → ¬ V' b) (hlo : ∀ b, V' b → b < w.heap.size) : DskAt w d U V' x mf ml v :=
  ⟨h.blk, h.ne, h.ud, h.uf, h.ul, h.uv, h.seen.mono hV, h.last.mono hV, h.waits.mono hV, ha, h.ulo, hlo⟩
/-- A step from w to w' that makes the disk d the disk x'. -/
def To (w : World) (d : Nat) (U V : Nat → Prop) (x' : Dk) (w' : World) : Prop :=
  ∃ U' V', Dsk w' d U' V' x' ∧ Mod U w w' ∧ (∀ b, U' b → U b ∨ w.heap.size ≤ b) ∧ ∀ b, V' b → V b ∨ w.heap.size ≤ b
theorem To.same {w w' : World} {d : Nat} {U V : Nat → Prop} {x : Dk} (h : Dsk w d U V x) (hb : Below w.heap.size w w') : To w d U V x w' := ⟨U, V, h.below hb, Mod.below hb (Nat.le_refl _), fun _ => .inl, fun _ => .inl⟩
theorem To.behind {w w1 w' : World} {d : Nat} {U V : Nat → Prop} {x' : Dk} (hb : Below w.heap.size w w1) (h : To w1 d U V x' w') : To w d U V x' w' := by
  obtain ⟨U', V', h1, h2, h3, h4⟩ := h
  have hz := hb.size
  exact ⟨U', V', h1, (Mod.below hb (Nat.le_refl _)).trans h2, fun b hu => (h3 b hu).imp id fun e => by omega, fun b hu => (h4 b hu).imp id fun e => by omega⟩
theorem To.start {w W w' : World} {d : Nat} {U V : Nat → Prop} {x' : Dk} (hb : Below w.heap.size w W) (h : To W d U (fun b => V b ∨ From w.heap.size W b) x' w') : To w d U V x' w' := by
  obtain ⟨U', V', h1, h2, h3, h4⟩ := h
  have hz := hb.size
  refine ⟨U', V', h1, (Mod.below hb (Nat.le_refl _)).trans h2, fun b hu => (h3 b hu).imp id fun e => by omega, fun b hu => ?_⟩
  rcases h4 b hu with (e | e) | e
  · exact .inl e
  · exact .inr e.1
  · exact .inr (by omega)
theorem To.more {w w1 w' : World} {d : Nat} {U V U1 V1 : Nat → Prop} {x' : Dk} (h2 : Mod U w w1) (h3 : ∀ b, U1 b → U b ∨ w.heap.size ≤ b) (h4 : ∀ b, V1 b → V b ∨ w.heap.size ≤ b) (k : To w1 d U1 V1 x' w') : To w d U V x' w' := by
  obtain ⟨U', V', k1, k2, k3, k4⟩ := k
  have hz := h2.size
  refine ⟨U', V', k1, h2.join k2 fun b hb hu => (h3 b hu).elim id fun e => by omega, fun b hu => ?_, fun b hu => ?_⟩
  · rcases k3 b hu with e | e
    · exact h3 b e
    · exact .inr (by omega)
  · rcases k4 b hu with e | e
    · exact h4 b e
    · exact .inr (by omega)
theorem To.trans {w w1 w' : World} {d : Nat} {U V : Nat → Prop} {x1 x' : Dk} (h : To w d U V x1 w1) (k : ∀ U' V', Dsk w1 d U' V' x1 → To w1 d U' V' x' w') : To w d U V x' w' := by
  obtain ⟨U1, V1, h1, h2, h3, h4⟩ := h
  obtain ⟨U', V', k1, k2, k3, k4⟩ := k _ _ h1
  have hz := h2.size
  refine ⟨U', V', k1, h2.join k2 fun b hb hu => (h3 b hu).elim id fun e => by omega, fun b hu => ?_, fun b hu => ?_⟩
  · rcases k3 b hu with e | e
    · exact h3 b e
    · exact .inr (by omega)
  · rcases k4 b hu with e | e
    · exact h4 b e
    · exact .inr (by omega)
end Go.Proofs.Ytggdkhgpkedbkaa
