/- Files in memory: a map of slices of bytes; bytes that nobody writes. -/
import Derived.Test.YtggdkhgpkedbkaaDiskA
import Derived.Test.YtggdkhgpkedbkaaMod
import Derived.Test.YtggdkhgpkedbkaaChecked
import Derived.Tactics
import Derived.Handy
namespace Go.Proofs.Ytggdkhgpkedbkaa
open Go.RowKit
open Go.Maps (Keyed)

theorem mod_of {w w' : World} {m : Nat} (h : w.grownBy w' (some m)) : Mod (fun b => b = m) w w' := ⟨h.os, h.tape, h.output, h.size, fun i hi hn => h.block i hi fun e => hn (Option.some.inj e)⟩
/-- A slice, as a datum. -/
abbrev Sl := Option Addr × Nat × Nat
def sv (s : Sl) : Value := .slice s.1 s.2.1 s.2.2
def slR : Value → Option (DataW Sl × List MemPlace)
  | .slice A n c => some (.held (A, n, c), [])
  | _ => none
theorem slR_mk (s : Sl) : slR (sv s) = some (.held s, []) := rfl
theorem slR_inv {v : Value} {y : DataW Sl × List MemPlace} (h : slR v = some y) : ∃ s, v = sv s ∧ y = (.held s, []) := by
  cases v <;> simp [slR] at h
  exact ⟨(_, _, _), rfl, h.symm⟩
theorem name_law : Keyed Try.prog 9 := Maps.string_keyed Try.underlying9
def nv (n : Nm) : Value := .string ⟨n.toArray⟩
theorem name_key {n : Nm} (h : n.length ≤ 9223372036854775807) : keyOf Try.prog 9 (nv n) = some (.string n) := by
  have := WideMaps.keyOf_string_mk (P := Try.prog) Try.underlying9 (s := ⟨n.toArray⟩) (by show n.toArray.size ≤ _; simpa [maxLen] using h)
  exact this

/-- The entries of a map. -/
def ents (E : List (Nm × Sl)) : DataW Sl := .map (E.map fun p => (.string p.1, .held p.2))
theorem same_str (a b : Nm) : Lit.sameKey (.string a) (.string b) = (a == b) := rfl
theorem ents_ins (x : Nm × Sl) : ∀ E : List (Nm × Sl), DataW.insert (Lit.string x.1, DataW.held x.2) (E.map fun p => (Lit.string p.1, DataW.held p.2)) = (fins x E).map fun p => (Lit.string p.1, DataW.held p.2)
  | [] => rfl
  | y :: r => by
    have ih := ents_ins x r
    simp only [List.map_cons, DataW.insert, fins, Lit.before]
    by_cases h : bytesBefore x.1 y.1 = true
    · simp [h]
    · simp only [h, if_false, Bool.false_eq_true, ih, List.map_cons]
theorem ents_filter (n : Nm) (E : List (Nm × Sl)) : (E.map fun p => (Lit.string p.1, (DataW.held p.2 : DataW Sl))).filter (fun p => !p.1.sameKey (.string n)) = (fdel n E).map fun p => (Lit.string p.1, DataW.held p.2) := by
  unfold fdel
  rw [List.filter_map]
  rfl
theorem ents_del (n : Nm) (E : List (Nm × Sl)) : (ents E).del (.string n) = ents (fdel n E) := by
  unfold ents DataW.del
  simp only [ents_filter]
theorem ents_put (n : Nm) (s : Sl) (E : List (Nm × Sl)) : (ents E).put (.string n) (.held s) = ents (fput n s E) := by
  unfold ents DataW.put
  simp only [ents_filter]
  exact congrArg _ (ents_ins (n, s) _)
theorem ents_find (n : Nm) (E : List (Nm × Sl)) : (E.map fun p => (Lit.string p.1, (DataW.held p.2 : DataW Sl))).find? (fun p => p.1.sameKey (.string n)) = (E.find? fun p => p.1 == n).map fun p => (Lit.string p.1, DataW.held p.2) := by
  rw [List.find?_map]
  rfl
theorem ents_at (n : Nm) (E : List (Nm × Sl)) (z : Sl) : (ents E).atKey (.string n) (.held z) = .held ((fget n E).getD z) := by
  unfold ents DataW.atKey fget
  simp only [ents_find]
  cases E.find? (fun p => p.1 == n) <;> rfl
theorem ents_has (n : Nm) (E : List (Nm × Sl)) : Maps.has (ents E) (.string n) = (fget n E).isSome := by
  unfold ents
  rw [Maps.has_eq, List.any_map]
  unfold fget
  rw [Option.isSome_map]
  induction E with
  | nil => rfl
  | cons y r ih =>
    simp only [List.any_cons, List.find?_cons, Function.comp]
    rw [same_str]
    cases hy : (y.1 == n)
    · simpa using ih
    · simp
theorem ents_size (E : List (Nm × Sl)) : Maps.size (ents E) = E.length := by simp [ents, Maps.size_eq]

/-- Block m is a map with the entries E. -/
def MapV (w : World) (m : Nat) (E : List (Nm × Sl)) : Prop := w.ownsMap Try.prog 9 slR m E.length (ents E)
theorem own_tight {H : Type} {P : Program} {k : TypeId} {R : Value → Option (DataW H × List MemPlace)} {w : World} {b n : Nat} {D : DataW H} (h : w.ownsMap P k R b n D) : w.ownsMap P k R b (Maps.size D) D := by
  obtain ⟨es, clock, hb, F, hs, rfl⟩ := h
  exact ⟨es, clock, hb, F, by simp [Maps.size, length_sorted], rfl⟩
theorem MapV.of {w : World} {m n : Nat} {E : List (Nm × Sl)} (h : w.ownsMap Try.prog 9 slR m n (ents E)) : MapV w m E := by
  have := own_tight h
  rw [ents_size] at this
  exact this
theorem MapV.srt {w : World} {m : Nat} {E : List (Nm × Sl)} (h : MapV w m E) : Srt E := by
  obtain ⟨es, clock, _, F, _, hD⟩ := h
  have hr := Maps.sorted_sorted name_law.one _ (Maps.fit_keys F) (Maps.fit_apart name_law F)
  unfold ents at hD
  injection hD with hD
  rw [← hD, List.pairwise_map] at hr
  exact hr
theorem MapV.lt {w : World} {m : Nat} {E : List (Nm × Sl)} (h : MapV w m E) : m < w.heap.size := World.ownsMap.lt h
theorem MapV.same {w w' : World} {m : Nat} {E : List (Nm × Sl)} (h : MapV w m E) (hb : w'.heap[m]? = w.heap[m]?) : MapV w' m E := by
  obtain ⟨es, clock, h1, r⟩ := h
  exact ⟨es, clock, hb.trans h1, r⟩
theorem MapV.mod {S : Nat → Prop} {w w' : World} {m : Nat} {E : List (Nm × Sl)} (h : MapV w m E) (hm : Mod S w w') (hS : ¬ S m) : MapV w' m E := h.same (hm.block m h.lt hS)
theorem MapV.made (w : World) : MapV (w.alloc (.map #[] 0)) w.heap.size [] := World.ownsMap_made w _ _ _
theorem zero_slice : ∀ w : World, (zeroValue 23).run Try.prog w = .ok (.slice none 0 0) w := fun w => by kernel_rfl

/-- 'm[k]'. -/
theorem MapV.look {w : World} {m : Nat} {E : List (Nm × Sl)} (h : MapV w m E) {n : Nm} (hn : n.length ≤ 9223372036854775807) :
    (Instr.lookup 52 (.map (some m)) (nv n) false).run Try.prog w = .ok (sv ((fget n E).getD (none, 0, 0))) w := by
  obtain ⟨v, ps, hrun, hv⟩ := World.ownsMap.lookup h name_law Try.underlying52 (zero_slice w) (slR_mk (none, 0, 0)) (name_key hn)
  rw [ents_at] at hv
  obtain ⟨s, rfl, hs⟩ := slR_inv hv
  simp only [Prod.mk.injEq, DataW.held.injEq] at hs
  rw [hs.1]
  exact hrun
/-- 'v, ok := m[k]'. -/
theorem MapV.look_ok {w : World} {m : Nat} {E : List (Nm × Sl)} (h : MapV w m E) {n : Nm} (hn : n.length ≤ 9223372036854775807) :
    (Instr.lookup 52 (.map (some m)) (nv n) true).run Try.prog w = .ok (.tuple #[sv ((fget n E).getD (none, 0, 0)), .bool (fget n E).isSome]) w := by
  obtain ⟨v, ps, hrun, hv⟩ := World.ownsMap.look_ok h name_law Try.underlying52 (zero_slice w) (slR_mk (none, 0, 0)) (name_key hn)
  rw [ents_at] at hv
  obtain ⟨s, rfl, hs⟩ := slR_inv hv
  simp only [Prod.mk.injEq, DataW.held.injEq] at hs
  rw [hs.1, ← ents_has]
  exact hrun
/-- 'm[k] = v'. -/
theorem MapV.store {w : World} {m : Nat} {E : List (Nm × Sl)} (h : MapV w m E) {n : Nm} (hn : n.length ≤ 9223372036854775807) (hE : E.length < 9223372036854775807) (s : Sl) :
    ∃ w', (Instr.mapUpdate 52 (.map (some m)) (nv n) (sv s)).run Try.prog w = .ok () w' ∧ MapV w' m (fput n s E) ∧ w.grownBy w' (some m) := by
  obtain ⟨w', hrun, h1, h2⟩ := World.ownsMap.update h name_law Try.underlying52 (by unfold maxLen; exact hE) (name_key hn) (slR_mk s)
  rw [ents_put] at h1
  exact ⟨w', hrun, .of h1, h2⟩
/-- 'delete(m, k)'. -/
theorem MapV.drop {w : World} {m : Nat} {E : List (Nm × Sl)} (h : MapV w m E) {n : Nm} (hn : n.length ≤ 9223372036854775807) (ty : TypeId) :
    ∃ w', (Builtin.delete_ #[52, 9] ty #[.map (some m), nv n]).run Try.prog w = .ok (.tuple #[]) w' ∧ MapV w' m (fdel n E) ∧ w.grownBy w' (some m) := by
  obtain ⟨w', hrun, h1, h2⟩ := World.ownsMap.drop h name_law Try.underlying52 (name_key hn) ty
  rw [ents_del] at h1
  exact ⟨w', hrun, .of h1, h2.grown⟩

/-- The slice s reads as l, in a block of which V is true. -/
structure BytesIn (w : World) (V : Nat → Prop) (s : Sl) (l : List UInt8) : Prop where
  len : s.2.1 = l.length
  room : l.length ≤ s.2.2
  cap : s.2.2 ≤ 9223372036854775807
  bytes : Bytes w s.1 l
  block : ∀ ad, s.1 = some ad → V ad.block
theorem BytesIn.none (w : World) (V : Nat → Prop) : BytesIn w V (none, 0, 0) [] := ⟨rfl, Nat.le_refl _, by simp, Reads.nil_ _ _ _, fun _ h => by cases h⟩
theorem BytesIn.mod {S V : Nat → Prop} {w w' : World} {s : Sl} {l : List UInt8} (h : BytesIn w V s l) (hm : Mod S w w') (hS : ∀ b, V b → ¬ S b) : BytesIn w' V s l :=
  ⟨h.len, h.room, h.cap, h.bytes.mod hm fun ad e => hS _ (h.block ad e), h.block⟩
theorem BytesIn.mono {V V' : Nat → Prop} {w : World} {s : Sl} {l : List UInt8} (h : BytesIn w V s l) (hV : ∀ b, V b → V' b) : BytesIn w V' s l :=
  ⟨h.len, h.room, h.cap, h.bytes, fun ad e => hV _ (h.block ad e)⟩
theorem BytesIn.val {V : Nat → Prop} {w : World} {s : Sl} {l : List UInt8} (h : BytesIn w V s l) : sv s = .slice s.1 l.length s.2.2 := by rw [sv, h.len]
theorem BytesIn.of_own {w : World} {base : Nat} {A : Option Addr} {c : Nat} {l : List UInt8} {V : Nat → Prop} (h : w.ownsRow base 5 1 (.slice A l.length c) l.length (l.map bv)) (hV : ∀ b, base ≤ b → b < w.heap.size → V b) : BytesIn w V (A, l.length, c) l := by
  refine ⟨rfl, ?_, ?_, own_bytes h, fun ad e => ?_⟩
  · rcases h.2 with ⟨e, _⟩ | ⟨g, c', cur, e, _, _, h1, h2, _⟩
    · injection e with _ e1 e2
      simp only
      omega
    · injection e with _ _ e2
      subst e2
      exact h1
  · rcases h.2 with ⟨e, _⟩ | ⟨g, c', cur, e, _, _, h1, h2, _⟩
    · injection e with _ e1 e2
      simp only
      omega
    · injection e with _ _ e2
      subst e2
      exact h2
  · simp only at e
    subst e
    rcases h.2 with ⟨e, _⟩ | ⟨g, c', cur, e, hg, hb, _⟩
    · cases e
    · injection e with e
      injection e with e
      subst e
      exact hV _ hg (Array.getElem?_eq_some_iff.1 hb).1

/-- Block m is a map that holds the files F, their bytes in blocks of which V is true. -/
def Fil (w : World) (V : Nat → Prop) (m : Nat) (F : Files) : Prop :=
  ∃ E : List (Nm × (Sl × List UInt8)), MapV w m (fmap (·.1) E) ∧ F = fmap (·.2) E ∧ ∀ p ∈ E, BytesIn w V p.2.1 p.2.2
section
variable {w w' : World} {V : Nat → Prop} {m : Nat} {F : Files}
theorem Fil.srt (h : Fil w V m F) : Srt F := by
  obtain ⟨E, h1, rfl, _⟩ := h
  exact srt_map (srt_of_map h1.srt)
theorem Fil.lt (h : Fil w V m F) : m < w.heap.size := by
  obtain ⟨E, h1, _, _⟩ := h
  exact h1.lt
theorem Fil.mod {S : Nat → Prop} (h : Fil w V m F) (hm : Mod S w w') (h1 : ¬ S m) (hS : ∀ b, V b → ¬ S b) : Fil w' V m F := by
  obtain ⟨E, e1, e2, e3⟩ := h
  exact ⟨E, e1.mod hm h1, e2, fun p hp => (e3 p hp).mod hm hS⟩
theorem Fil.mono {V' : Nat → Prop} (h : Fil w V m F) (hV : ∀ b, V b → V' b) : Fil w V' m F := by
  obtain ⟨E, e1, e2, e3⟩ := h
  exact ⟨E, e1, e2, fun p hp => (e3 p hp).mono hV⟩
theorem Fil.made (w : World) (V : Nat → Prop) : Fil (w.alloc (.map #[] 0)) V w.heap.size [] := ⟨[], MapV.made w, rfl, fun _ h => by cases h⟩
/-- 'm[k]'; 'v, ok := m[k]'. -/
theorem Fil.look (h : Fil w V m F) (n : Nm) (hn : n.length ≤ 9223372036854775807) :
    ∃ A c, (∀ u : World, u.heap[m]? = w.heap[m]? → (Instr.lookup 52 (.map (some m)) (.string ⟨n.toArray⟩) false).run Try.prog u = .ok (.slice A ((fget n F).getD []).length c) u ∧
        (Instr.lookup 52 (.map (some m)) (.string ⟨n.toArray⟩) true).run Try.prog u = .ok (.tuple #[.slice A ((fget n F).getD []).length c, .bool (fget n F).isSome]) u) ∧
      BytesIn w V (A, ((fget n F).getD []).length, c) ((fget n F).getD []) := by
  obtain ⟨E, h1, rfl, h3⟩ := h
  have hg : BytesIn w V (((fget n E).map (·.1)).getD (none, 0, 0)) (((fget n E).map (·.2)).getD []) := by
    cases hg : fget n E with
    | none => exact BytesIn.none w V
    | some x => exact h3 _ ((fget_some (srt_of_map h1.srt)).1 hg)
  rw [fmap_get]
  have hl := hg.len
  refine ⟨(((fget n E).map (·.1)).getD (none, 0, 0)).1, (((fget n E).map (·.1)).getD (none, 0, 0)).2.2, fun u hu => ⟨?_, ?_⟩, ?_⟩
  · have := (h1.same hu).look hn
    rw [fmap_get] at this
    rw [← hl]
    exact this
  · have := (h1.same hu).look_ok hn
    rw [fmap_get] at this
    rw [← hl, Option.isSome_map]
    rw [Option.isSome_map] at this
    exact this
  · rw [← hl]
    exact hg
/-- 'm[k] = v'. -/
theorem Fil.store (h : Fil w V m F) (n : Nm) (hn : n.length ≤ 9223372036854775807) (hF : F.length < 9223372036854775807) (hV : ¬ V m) {s : Sl} {l : List UInt8} (hs : BytesIn w V s l) :
    ∃ w', (Instr.mapUpdate 52 (.map (some m)) (nv n) (sv s)).run Try.prog w = .ok () w' ∧ Fil w' V m (fput n l F) ∧ w.grownBy w' (some m) := by
  obtain ⟨E, h1, rfl, h3⟩ := h
  obtain ⟨w', hrun, h4, h5⟩ := h1.store (s := s) hn (by rw [len_map] at hF ⊢; exact hF)
  have hm := mod_of h5
  refine ⟨w', hrun, ⟨fput n (s, l) E, ?_, (fmap_put (fun x : Sl × List UInt8 => x.2) n (s, l) E).symm, fun p hp => ?_⟩, h5⟩
  · rw [fmap_put]
    exact h4
  · rcases mem_put.1 hp with rfl | ⟨hp, _⟩
    · exact hs.mod hm fun b hb e => hV (e ▸ hb)
    · exact (h3 p hp).mod hm fun b hb e => hV (e ▸ hb)
/-- 'delete(m, k)'. -/
theorem Fil.drop (h : Fil w V m F) (n : Nm) (hn : n.length ≤ 9223372036854775807) (hV : ¬ V m) (ty : TypeId) :
    ∃ w', (Builtin.delete_ #[52, 9] ty #[.map (some m), nv n]).run Try.prog w = .ok (.tuple #[]) w' ∧ Fil w' V m (fdel n F) ∧ w.grownBy w' (some m) := by
  obtain ⟨E, h1, rfl, h3⟩ := h
  obtain ⟨w', hrun, h4, h5⟩ := h1.drop hn ty
  have hm := mod_of h5
  refine ⟨w', hrun, ⟨fdel n E, ?_, (fmap_del (fun x : Sl × List UInt8 => x.2) n E).symm, fun p hp => (h3 p (mem_del.1 hp).1).mod hm fun b hb e => hV (e ▸ hb)⟩, h5⟩
  rw [fmap_del]
  exact h4
end
end Go.Proofs.Ytggdkhgpkedbkaa
