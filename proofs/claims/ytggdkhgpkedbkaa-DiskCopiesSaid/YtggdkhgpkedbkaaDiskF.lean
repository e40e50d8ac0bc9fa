/- Ranging over files; how many bytes they have. -/
import Derived.Test.YtggdkhgpkedbkaaDiskE
namespace Go.Proofs.Ytggdkhgpkedbkaa
open Go.RowKit

/-- 'for k, v := range m' under way over the files F: block r is its iterator, left tells which names are still to come. -/
def Ring (w : World) (V : Nat → Prop) (m r : Nat) (F : Files) (left : Nm → Bool) (cnt : Nat) : Prop :=
  ∃ (E : List (Nm × (Sl × List UInt8))) (lf : Lit → Bool), w.ranges Try.prog 9 slR m r E.length (ents (fmap (·.1) E)) lf cnt ∧ (∀ k, left k = lf (.string k)) ∧ F = fmap (·.2) E ∧ ∀ p ∈ E, BytesIn w V p.2.1 p.2.2
section
variable {w w' : World} {V : Nat → Prop} {m r cnt : Nat} {F : Files} {left : Nm → Bool}
theorem Ring.left_eq (h : Ring w V m r F left cnt) : w.rangeLeft m r = cnt := by
  obtain ⟨E, lf, h1, _⟩ := h
  exact h1.left_eq
theorem Ring.fil (h : Ring w V m r F left cnt) : Fil w V m F := by
  obtain ⟨E, lf, h1, _, h3, h4⟩ := h
  have := h1.owns
  exact ⟨E, .of this, h3, h4⟩
theorem Ring.lt (h : Ring w V m r F left cnt) : r < w.heap.size := by
  obtain ⟨E, lf, h1, _⟩ := h
  exact h1.lt
theorem Ring.mod {S : Nat → Prop} (h : Ring w V m r F left cnt) (hm : Mod S w w') (h1 : ¬ S m) (h2 : ¬ S r) (hS : ∀ b, V b → ¬ S b) : Ring w' V m r F left cnt := by
  obtain ⟨E, lf, e1, e2, e3, e4⟩ := h
  refine ⟨E, lf, ?_, e2, e3, fun p hp => (e4 p hp).mod hm hS⟩
  have l1 := e1.owns.lt
  have l2 := e1.lt
  obtain ⟨es, clock, since, seen, c0, hb, G, hs, hD, hr, rest⟩ := e1
  exact ⟨es, clock, since, seen, c0, (hm.block m l1 h1).trans hb, G, hs, hD, (hm.block r l2 h2).trans hr, rest⟩
theorem Ring.mono {V' : Nat → Prop} (h : Ring w V m r F left cnt) (hV : ∀ b, V b → V' b) : Ring w V' m r F left cnt := by
  obtain ⟨E, lf, e1, e2, e3, e4⟩ := h
  exact ⟨E, lf, e1, e2, e3, fun p hp => (e4 p hp).mono hV⟩
theorem name_inv (key : Value) (kl : Lit) (h : keyOf Try.prog 9 key = some kl) : ∃ x : Nm, key = nv x := by
  obtain ⟨s, rfl, _⟩ := WideMaps.string_of_keyOf Try.underlying9 h
  exact ⟨s.data.toList, by unfold nv; simp⟩
theorem name_lit {x : Nm} {kl : Lit} (h : keyOf Try.prog 9 (nv x) = some kl) : kl = .string x ∧ x.length ≤ 9223372036854775807 := by
  obtain ⟨s, h1, h2, h3⟩ := WideMaps.string_of_keyOf Try.underlying9 h
  unfold nv at h1
  injection h1 with h1
  subst h1
  exact ⟨by simpa using h2, by have : x.toArray.size ≤ maxLen := h3; simpa [maxLen] using this⟩
theorem held_at {x : Nm} {s : Sl} {E : List (Nm × Sl)} (h : ∀ zd, (ents E).atKey (.string x) zd = .held s) : fget x E = some s := by
  cases hg : fget x E with
  | some t =>
    have := h (.held s)
    rw [ents_at, hg] at this
    simpa using this
  | none =>
    have h1 := h (.held (none, 0, 0))
    have h2 := h (.held (none, 0, 1))
    rw [ents_at, hg] at h1 h2
    simp at h1 h2
    rw [← h1] at h2
    simp at h2
end

/-- 'range m'. -/
theorem fil_range {w : World} {ops : Array Oper} {rest : List Oper} {o : Oper} {a : Act} {Q : Exit → Act → World → Prop} (hg : o.guard = none) {x : Operand} (hop : o.op = Op.range 52 x)
    {V : Nat → Prop} {m : Nat} {F : Files} (hm : a.eval x = .map (some m)) (h : Fil w V m F) {r : Nat} (hr : w.heap.size = r)
    (hK : ∀ w', Ring w' V m r F (fun k => (fget k F).isSome) F.length → w.grownBy w' none → wpList Try.prog ops Q rest (a.put o.dst (.pointer (some ⟨r, 0, none⟩))) w') :
    wpList Try.prog ops Q (o :: rest) a w := by
  subst hr
  obtain ⟨E, h1, rfl, h3⟩ := h
  refine wpList_range_own _ hg x _ hop 9 23 name_law Try.underlying52 slR m _ _ hm h1 fun w' r1 r2 r3 => ?_
  have hm0 : Mod (fun _ => False) w w' := ⟨r2.os, r2.tape, r2.output, r2.size, fun i hi _ => r2.block i hi (by simp)⟩
  refine hK w' ⟨E, Maps.has (ents (fmap (fun x : Sl × List UInt8 => x.1) E)), ?_, fun k => ?_, rfl, fun p hp => (h3 p hp).mod hm0 fun _ _ e => e⟩ r2
  · rw [ents_size, len_map] at r1
    rw [len_map]
    exact r1
  · show (fget k _).isSome = _
    rw [ents_has, fmap_get, fmap_get, Option.isSome_map, Option.isSome_map]
/-- The step. -/
theorem fil_next {w : World} {ops : Array Oper} {rest : List Oper} {o : Oper} {a : Act} {Q : Exit → Act → World → Prop} (hg : o.guard = none) {it : Operand} (hop : o.op = Op.next it false)
    {V : Nat → Prop} {m r cnt : Nat} {F : Files} {left : Nm → Bool} (hit : a.eval it = .pointer (some ⟨r, 0, none⟩)) (h : Ring w V m r F left cnt) (hV : ¬ V r)
    (hDone : cnt = 0 → (∀ k, left k = false) → wpList Try.prog ops Q rest (a.put o.dst (.tuple #[.bool false])) w)
    (hMore : ∀ (x : Nm) (A : Option Addr) (c : Nat) (l : List UInt8) (w' : World) (cnt' : Nat), x.length ≤ 9223372036854775807 → left x = true → fget x F = some l → BytesIn w' V (A, l.length, c) l → Ring w' V m r F (fun k => left k && !(k == x)) cnt' → cnt' < cnt →
      w.grownBy w' (some r) → w'.heap.size = w.heap.size → (Instr.entry (.pointer (some ⟨r, 0, none⟩))).run Try.prog w' = .ok (.tuple #[.string ⟨x.toArray⟩, .slice A l.length c]) w' → wpList Try.prog ops Q rest (a.put o.dst (.tuple #[.bool true, .string ⟨x.toArray⟩, .slice A l.length c])) w') :
    wpList Try.prog ops Q (o :: rest) a w := by
  obtain ⟨E, lf, h1, h2, rfl, h4⟩ := h
  have hs := MapV.srt (MapV.of h1.owns)
  refine wpList_next_ranges w hg it hop 9 name_law slR nv sv name_inv (fun v y hv => by obtain ⟨s, rfl, _⟩ := slR_inv hv; exact ⟨s, rfl⟩) m r _ _ lf cnt hit h1 (fun c0 hl => hDone c0 fun k => by rw [h2, hl]) ?_
  intro x s kl y w' cnt' hk hlk hv hat hrg hlt hgr hsz hen
  obtain ⟨rfl, hxl⟩ := name_lit hk
  obtain ⟨s', e1, rfl⟩ := slR_inv hv
  obtain rfl : s' = s := by
    obtain ⟨a1, a2, a3⟩ := s
    obtain ⟨b1, b2, b3⟩ := s'
    simp only [sv, Value.slice.injEq] at e1
    obtain ⟨rfl, rfl, rfl⟩ := e1
    rfl
  have hgE := held_at hat
  rw [fmap_get] at hgE
  obtain ⟨⟨s1, l⟩, hg1, rfl⟩ := Option.map_eq_some_iff.1 hgE
  have hm' := mod_of hgr
  have hin := (h4 _ ((fget_some (srt_of_map hs)).1 hg1)).mod hm' fun b hb e => hV (e ▸ hb)
  obtain ⟨A, n, c⟩ := s1
  have hn : n = l.length := hin.len
  subst hn
  refine hMore x A c l w' cnt' hxl (by rw [h2]; exact hlk) (by rw [fmap_get, hg1]; rfl) hin ⟨E, fun z => lf z && !z.sameKey (.string x), hrg, fun k => ?_, rfl, fun p hp => (h4 p hp).mod hm' fun b hb e => hV (e ▸ hb)⟩ hlt hgr hsz hen
  show (left k && !(k == x)) = (lf (.string k) && !(Lit.string k).sameKey (.string x))
  rw [h2, same_str]
theorem fleft_all (F : Files) : fleft (fun k => (fget k F).isSome) F = fsize F := by
  unfold fleft
  rw [List.filter_eq_self.2]
  intro p hp
  cases h : fget p.1 F with
  | none => exact absurd rfl (fget_none.1 h p hp)
  | some _ => simp [h]
theorem fleft_none {left : Nm → Bool} (F : Files) (h : ∀ k, left k = false) : fleft left F = 0 := by
  unfold fleft
  rw [List.filter_eq_nil_iff.2 fun p _ => by simp [h]]
  rfl
theorem below_ring {w0 w w' : World} {r : Nat} (h : Below w0.heap.size w0 w) (k : w.grownBy w' (some r)) (hr : w0.heap.size ≤ r) : Below w0.heap.size w0 w' := below_only h k h.size hr
def fv (m : Nat) : Value := .agg #[.map (some m)]
set_option maxHeartbeats 1000000 in
theorem bytes_any {w : World} {V : Nat → Prop} {m : Nat} {F : Files} (h : Fil w V m F) (hV : ∀ b, V b → b < w.heap.size) (hF : fsize F ≤ 4611686018427387904) :
    Calls Try.prog 37 #[fv m] w fun e w' => e = .returned (.int .i64 (fsize F : Int)) ∧ Below w.heap.size w w' := by
  have hS := Lib.hid h.srt
  have h' : Fil (w.alloc (.cells #[.map (some m)] 54)) V m F := h.mod (Mod.refl (fun _ => False) w |>.alloc _) (fun e => e) fun _ _ e => e
  have hml := h.lt
  have HF := Lib.hid hF
  clear h hF
  have HVr : Hid (¬ V (w.heap.size + 1)) := fun e => by have := hV _ e; omega
  unfold fv
  go_enter Try.func37, Try.ntmps37
  go_wp2_with (first | (at_range; refine fil_range rfl rfl rfl h' (r := w.heap.size + 1) (by simp) ?_; intro w0 hrg0 hg0) | go_in)
  go_frame
  go_loopw [3] (fun n wr => ∃ left cnt, Ring wr V m (w.heap.size + 1) F left cnt ∧ Below w.heap.size w wr ∧ ∃ k : Nat, n = .int .i64 k ∧ k + fleft left F = fsize F) (fun _ wr => wr.rangeLeft m (w.heap.size + 1))
  case atStart => exact ⟨_, _, hrg0, below_grown (below_new _ _) hg0 (by simp), 0, rfl, by rw [fleft_all]; omega⟩
  case round =>
    obtain ⟨left, cnt, hrg, hb, k, rfl, hk⟩ := hrel
    have HK := Lib.hid hk
    clear hk hV h'
    go_wp2_with (first
      | (at_next; refine fil_next rfl rfl rfl hrg HVr.out ?_ ?_)
      | go_in)
    · intro hc0 hl0
      have he := fleft_none F hl0
      have hk : k = fsize F := by have := HK.out; omega
      subst hk
      go_wp2_with fail
      go_ret
      exact ⟨rfl, hb⟩
    · intro x A c l w1 cnt1 hx hlx hgx hin hrg1 hlt hg1 hs1 hen
      clear hs1
      have hst := fleft_step hS.out (left' := fun k => left k && !(k == x)) hgx hlx (by simp) (fun k hk => by simp [hk])
      have hkb : k + l.length ≤ 4611686018427387904 := by have := HK.out; have := HF.out; omega
      have HK2 : Hid (k + l.length + fleft (fun k => left k && !(k == x)) F = fsize F) := by show _ = _; have := HK.out; omega
      have hkm := hrg.left_eq
      clear hst hgx hin hlx
      go_wp2_with fail
      go_roundw
      case rel => exact ⟨_, _, hrg1, below_ring hb hg1 (by omega), k + l.length, by go_num, HK2.out⟩
      case measure => rw [hrg1.left_eq, hkm]; exact hlt
end Go.Proofs.Ytggdkhgpkedbkaa
