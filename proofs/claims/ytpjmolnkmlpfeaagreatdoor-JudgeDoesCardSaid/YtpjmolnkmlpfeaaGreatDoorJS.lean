/- Joined texts: DiskA, JuO, JuR. -/
import Derived.Maps.RangeWalk
import Derived.Test.YtpjmolnkmlpfeaaGreatDoorJA
import Derived.Test.YtpjmolnkmlpfeaaGreatDoorJQ
import Derived.Test.YtpjmolnkmlpfeaaGreatDoorChecked
import Derived.Maps.OwnSet
import Derived.DeepKeys5
import Derived.KernelRfl
import Derived.Tactics
import Derived.Handy
import Derived.WideKeyEntry
/- Files, plain: rows of a name and a value, by names rising. -/
set_option linter.unusedVariables false
set_option linter.unusedSimpArgs false
namespace Go.Proofs.YtpjmolnkmlpfeaaGreatDoor
set_option maxRecDepth 100000
open Go.WideShapes

abbrev Nm := List UInt8
section
variable {β γ : Type}
/-- Names rise. -/
def Srt (F : List (Nm × β)) : Prop := F.Pairwise fun p q => bytesBefore p.1 q.1 = true
def fins (x : Nm × β) : List (Nm × β) → List (Nm × β)
 | [] => [x]
 | y :: r => if bytesBefore x.1 y.1 then x :: y :: r else y :: fins x r
def fdel (n : Nm) (F : List (Nm × β)) : List (Nm × β) := F.filter fun p => !(p.1 == n)
def fput (n : Nm) (b : β) (F : List (Nm × β)) : List (Nm × β) := fins (n, b) (fdel n F)
def fget (n : Nm) (F : List (Nm × β)) : Option β := (F.find? fun p => p.1 == n).map (·.2)
theorem mem_ins {x p : Nm × β} : ∀ {F : List (Nm × β)}, p ∈ fins x F ↔ p = x ∨ p ∈ F
 | [] => by simp [fins]
 | y :: r => by
  unfold fins
  by_cases h : bytesBefore x.1 y.1 = true
  ·simp [h]
  ·simp only [h, if_false, Bool.false_eq_true, List.mem_cons, mem_ins (F := r)]
   constructor
   ·rintro (h | h | h) <;> simp [h]
   ·rintro (h | h | h) <;> simp [h]
theorem mem_del {n : Nm} {p : Nm × β} {F : List (Nm × β)} : p ∈ fdel n F ↔ p ∈ F ∧ p.1 ≠ n := by
 simp [fdel, List.mem_filter]
theorem mem_put {n : Nm} {b : β} {p : Nm × β} {F : List (Nm × β)} : p ∈ fput n b F ↔ p = (n, b) ∨ (p ∈ F ∧ p.1 ≠ n) := by
 rw [fput, mem_ins, mem_del]
theorem len_ins (x : Nm × β) : ∀ F : List (Nm × β), (fins x F).length = F.length + 1
 | [] => rfl
 | y :: r => by
  unfold fins
  by_cases h : bytesBefore x.1 y.1 = true
  ·simp [h]
  ·simp [h, len_ins x r]
theorem len_del (n : Nm) (F : List (Nm × β)) : (fdel n F).length ≤ F.length := List.length_filter_le _ _
theorem len_put (n : Nm) (b : β) (F : List (Nm × β)) : (fput n b F).length ≤ F.length + 1 := by
 rw [fput, len_ins]
 have := len_del n F
 omega
theorem srt_del {F : List (Nm × β)} (h : Srt F) (n : Nm) : Srt (fdel n F) := h.filter _
theorem srt_ins {x : Nm × β} : ∀ {F : List (Nm × β)}, Srt F → (∀ p ∈ F, p.1 ≠ x.1) → Srt (fins x F)
 | [], _, _ => by simp [fins, Srt]
 | y :: r, h, hne => by
  obtain ⟨h1, h2⟩ := List.pairwise_cons.1 h
  unfold fins
  by_cases hb : bytesBefore x.1 y.1 = true
  ·rw [if_pos hb]
   refine List.pairwise_cons.2 ⟨fun q hq => ?_, h⟩
   rcases List.mem_cons.1 hq with rfl | hq
   ·exact hb
   ·exact bytes_trans _ _ _ hb (h1 q hq)
  ·rw [if_neg hb]
   have hyx : bytesBefore y.1 x.1 = true := (WideAt.bytes_total _ _ (hne y (by simp))).resolve_right hb
   refine List.pairwise_cons.2 ⟨fun q hq => ?_, srt_ins h2 fun p hp => hne p (by simp [hp])⟩
   rcases mem_ins.1 hq with rfl | hq
   ·exact hyx
   ·exact h1 q hq
theorem srt_put {F : List (Nm × β)} (h : Srt F) (n : Nm) (b : β) : Srt (fput n b F) := srt_ins (srt_del h n) fun p hp => (mem_del.1 hp).2
theorem srt_key {F : List (Nm × β)} (h : Srt F) {p q : Nm × β} (hp : p ∈ F) (hq : q ∈ F) (e : p.1 = q.1) : p = q := by
 induction F with
 | nil => simp at hp
 | cons y r ih =>
  obtain ⟨h1, h2⟩ := List.pairwise_cons.1 h
  rcases List.mem_cons.1 hp with hp1 | hp1 <;> rcases List.mem_cons.1 hq with hq1 | hq1
  ·rw [hp1, hq1]
  ·have := h1 q hq1
   rw [← e, hp1, WideAt.bytes_irrefl] at this
   cases this
  ·have := h1 p hp1
   rw [e, hq1, WideAt.bytes_irrefl] at this
   cases this
  ·exact ih h2 hp1 hq1
theorem fget_some {F : List (Nm × β)} (h : Srt F) {n : Nm} {b : β} : fget n F = some b ↔ (n, b) ∈ F := by
 unfold fget
 constructor
 ·intro hg
  obtain ⟨p, hp, rfl⟩ := Option.map_eq_some_iff.1 hg
  have h1 := List.find?_some hp
  have h2 := List.mem_of_find?_eq_some hp
  obtain rfl : p.1 = n := by simpa using h1
  exact h2
 ·intro hm
  cases hf : F.find? fun p => p.1 == n with
  | none => exact absurd (List.find?_eq_none.1 hf _ hm) (by simp)
  | some q =>
   have h1 := List.find?_some hf
   have h2 := List.mem_of_find?_eq_some hf
   have h3 : q.1 = n := by simpa using h1
   have := srt_key h h2 hm h3
   rw [this]
   rfl
theorem fget_none {F : List (Nm × β)} {n : Nm} : fget n F = none ↔ ∀ p ∈ F, p.1 ≠ n := by
 unfold fget
 rw [Option.map_eq_none_iff, List.find?_eq_none]
 constructor
 ·intro h p hp
  simpa using h p hp
 ·intro h p hp
  simpa using h p hp
theorem fget_put {F : List (Nm × β)} (h : Srt F) (n k : Nm) (b : β) : fget k (fput n b F) = if k = n then some b else fget k F := by
 by_cases e : k = n
 ·rw [if_pos e, e]
  exact (fget_some (srt_put h n b)).2 (mem_put.2 (.inl rfl))
 ·rw [if_neg e]
  cases hg : fget k F with
  | none =>
   rw [fget_none] at hg ⊢
   intro p hp
   rcases mem_put.1 hp with rfl | ⟨hp, _⟩
   ·exact fun h => e h.symm
   ·exact hg p hp
  | some c =>
   rw [fget_some h] at hg
   rw [fget_some (srt_put h n b)]
   exact mem_put.2 (.inr ⟨hg, e⟩)
end

/-! ### how many bytes files have -/
end Go.Proofs.YtpjmolnkmlpfeaaGreatDoor

/- Maps whose keys read as strings: their entries. -/
namespace Go.Proofs.YtpjmolnkmlpfeaaGreatDoor
set_option maxRecDepth 100000
open Go.RowKit
open Go.Maps (Keyed)

/-- Whatever a value is, it is held. -/
def heldR (v : Value) : Option (DataW Value × List MemPlace) := some (.held v, [])
theorem heldR_inv {v : Value} {y : DataW Value × List MemPlace} (h : heldR v = some y) : y = (.held v, []) := (Option.some.inj h).symm
abbrev Ens := List (Nm × Value)
def entsW (E : Ens) : DataW Value := .map (E.map fun p => (.string p.1, .held p.2))
theorem entsW_same (a b : Nm) : Lit.sameKey (.string a) (.string b) = (a == b) := rfl
theorem entsW_ins (x : Nm × Value) : ∀ E : Ens, DataW.insert (Lit.string x.1, DataW.held x.2) (E.map fun p => (Lit.string p.1, DataW.held p.2)) = (fins x E).map fun p => (Lit.string p.1, DataW.held p.2)
 | [] => rfl
 | y :: r => by
  have ih := entsW_ins x r
  simp only [List.map_cons, DataW.insert, fins, Lit.before]
  by_cases h : bytesBefore x.1 y.1 = true
  ·simp [h]
  ·simp only [h, if_false, Bool.false_eq_true, ih, List.map_cons]
theorem entsW_filter (n : Nm) (E : Ens) : (E.map fun p => (Lit.string p.1, (DataW.held p.2 : DataW Value))).filter (fun p => !p.1.sameKey (.string n)) = (fdel n E).map fun p => (Lit.string p.1, DataW.held p.2) := by
 unfold fdel
 rw [List.filter_map]
 rfl
theorem entsW_put (n : Nm) (s : Value) (E : Ens) : (entsW E).put (.string n) (.held s) = entsW (fput n s E) := by
 unfold entsW DataW.put
 simp only [entsW_filter]
 exact congrArg _ (entsW_ins (n, s) _)
theorem entsW_find (n : Nm) (E : Ens) : (E.map fun p => (Lit.string p.1, (DataW.held p.2 : DataW Value))).find? (fun p => p.1.sameKey (.string n)) = (E.find? fun p => p.1 == n).map fun p => (Lit.string p.1, DataW.held p.2) := by
 rw [List.find?_map]
 rfl
theorem entsW_at (n : Nm) (E : Ens) (z : Value) : (entsW E).atKey (.string n) (.held z) = .held ((fget n E).getD z) := by
 unfold entsW DataW.atKey fget
 simp only [entsW_find]
 cases E.find? (fun p => p.1 == n) <;> rfl
theorem entsW_has (n : Nm) (E : Ens) : Maps.has (entsW E) (.string n) = (fget n E).isSome := by
 unfold entsW
 rw [Maps.has_eq, List.any_map]
 unfold fget
 rw [Option.isSome_map]
 induction E with
 | nil => rfl
 | cons y r ih =>
  simp only [List.any_cons, List.find?_cons, Function.comp]
  rw [entsW_same]
  cases hy : (y.1 == n)
  ·simpa using ih
  ·simp
theorem entsW_size (E : Ens) : Maps.size (entsW E) = E.length := by simp [entsW, Maps.size_eq]
/-- Block m is a map with the entries E; its keys are of type k. -/
def MapW (k : TypeId) (w : World) (m : Nat) (E : Ens) : Prop := w.ownsMap Tryz.prog k heldR m E.length (entsW E)
theorem own_tightW {H : Type} {P : Program} {k : TypeId} {R : Value → Option (DataW H × List MemPlace)} {w : World} {b n : Nat} {D : DataW H} (h : w.ownsMap P k R b n D) : w.ownsMap P k R b (Maps.size D) D := by
 obtain ⟨es, clock, hb, F, hs, rfl⟩ := h
 exact ⟨es, clock, hb, F, by simp [Maps.size, length_sorted], rfl⟩
section
variable {k t e : TypeId} {w w' : World} {m n : Nat} {E : Ens} {z kv : Value} {s : Nm}
theorem MapW.of (h : w.ownsMap Tryz.prog k heldR m n (entsW E)) : MapW k w m E := by
 have := own_tightW h
 rw [entsW_size] at this
 exact this
theorem MapW.srt (K : Keyed Tryz.prog k) (h : MapW k w m E) : Srt E := by
 obtain ⟨es, clock, _, F, _, hD⟩ := h
 have hr := Maps.sorted_sorted K.one _ (Maps.fit_keys F) (Maps.fit_apart K F)
 unfold entsW at hD
 injection hD with hD
 rw [← hD, List.pairwise_map] at hr
 exact hr
theorem MapW.lt (h : MapW k w m E) : m < w.heap.size := World.ownsMap.lt h
theorem MapW.same (h : MapW k w m E) (hb : w'.heap[m]? = w.heap[m]?) : MapW k w' m E := by
 obtain ⟨es, clock, h1, r⟩ := h
 exact ⟨es, clock, hb.trans h1, r⟩
theorem MapW.mod {S : Nat → Prop} (h : MapW k w m E) (hm : Mod S w w') (hS : ¬ S m) : MapW k w' m E := h.same (hm.block m h.lt hS)
theorem MapW.below (h : MapW k w m E) (hb : Below w.heap.size w w') : MapW k w' m E := h.same (hb.block m h.lt)
theorem MapW.made (k : TypeId) (w : World) : MapW k (w.alloc (.map #[] 0)) w.heap.size [] := World.ownsMap_made w _ _ _
/-- 'm[k]'. -/
theorem MapW.look (K : Keyed Tryz.prog k) (ht : Tryz.prog.underlying t = some (.map k e)) (hz : ∀ w : World, (zeroValue e).run Tryz.prog w = .ok z w) (h : MapW k w m E) (hk : keyOf Tryz.prog k kv = some (.string s)) :
  (Instr.lookup t (.map (some m)) kv false).run Tryz.prog w = .ok ((fget s E).getD z) w := by
 obtain ⟨v, ps, hrun, hv⟩ := World.ownsMap.lookup h K ht (hz w) (zd := .held z) (zp := []) rfl hk
 rw [entsW_at] at hv
 have := heldR_inv hv
 simp only [Prod.mk.injEq, DataW.held.injEq] at this
 rw [this.1]
 exact hrun
/-- 'v, ok := m[k]'. -/
theorem MapW.look_ok (K : Keyed Tryz.prog k) (ht : Tryz.prog.underlying t = some (.map k e)) (hz : ∀ w : World, (zeroValue e).run Tryz.prog w = .ok z w) (h : MapW k w m E) (hk : keyOf Tryz.prog k kv = some (.string s)) :
  (Instr.lookup t (.map (some m)) kv true).run Tryz.prog w = .ok (.tuple #[(fget s E).getD z, .bool (fget s E).isSome]) w := by
 obtain ⟨v, ps, hrun, hv⟩ := World.ownsMap.look_ok h K ht (hz w) (zd := .held z) (zp := []) rfl hk
 rw [entsW_at] at hv
 have := heldR_inv hv
 simp only [Prod.mk.injEq, DataW.held.injEq] at this
 rw [this.1, ← entsW_has]
 exact hrun
/-- 'm[k] = v'. -/
theorem MapW.store (K : Keyed Tryz.prog k) (ht : Tryz.prog.underlying t = some (.map k e)) (h : MapW k w m E) (hk : keyOf Tryz.prog k kv = some (.string s)) (hE : E.length < 9223372036854775807) (v : Value) :
  ∃ w', (Instr.mapUpdate t (.map (some m)) kv v).run Tryz.prog w = .ok () w' ∧ MapW k w' m (fput s v E) ∧ w.grownBy w' (some m) := by
 obtain ⟨w', hrun, h1, h2⟩ := World.ownsMap.update h K ht (by unfold maxLen; exact hE) hk (val := v) (d := .held v) (ps := []) rfl
 rw [entsW_put] at h1
 exact ⟨w', hrun, .of h1, h2⟩
end
theorem mod_ofW {w w' : World} {m : Nat} (h : w.grownBy w' (some m)) : Mod (fun b => b = m) w w' := ⟨h.os, h.tape, h.output, h.size, fun i hi hn => h.block i hi fun e => hn (Option.some.inj e)⟩
/- The two kinds of keys. -/
theorem strK : Keyed Tryz.prog 9 := Maps.string_keyed Tryz.underlying9
theorem str_key {n : Nm} (h : n.length ≤ 9223372036854775807) : keyOf Tryz.prog 9 (.string ⟨n.toArray⟩) = some (.string n) :=
 WideMaps.keyOf_string_mk (P := Tryz.prog) Tryz.underlying9 (s := ⟨n.toArray⟩) (by show n.toArray.size ≤ _; simpa [maxLen] using h)
theorem laidJ : laidOutB Tryz.prog = true := by kernel_rfl
theorem idRow : (77 : TypeId) < Tryz.prog.types.size := of_decide_eq_true (by kernel_rfl)
theorem idWide : (match Tryz.prog.underlying 77 with | some (.array _ _) | some (.struct _) => true | _ => false) = true := by kernel_rfl
theorem idK : Keyed Tryz.prog 77 := Keyed.of_law (deep_law_laid laidJ (m := 2) (by omega) idRow (by kernel_rfl) idWide)
abbrev Idn := Int × Nat × Nat
def idV (i : Idn) : Value := .agg #[.int .i64 i.1, .int .u64 (i.2.1 : Int), .int .u64 (i.2.2 : Int)]
def idKey (i : Idn) : Nm := keyBytes [.int .i64 i.1, .int .u64 (i.2.1 : Int), .int .u64 (i.2.2 : Int)]
def IdOk (i : Idn) : Prop := -9223372036854775808 ≤ i.1 ∧ i.1 < 9223372036854775808 ∧ i.2.1 < 18446744073709551616 ∧ i.2.2 < 18446744073709551616
theorem keyLits_int {P : Program} {t : TypeId} {q : IntKind} {x : Int} (d : Nat) (hu : P.underlying t = some (.int q)) (hw : (Lit.int q x).wf = true) : P.keyLits (d + 1) t [.int q x] = some [.int q x] := by
 unfold Program.keyLits
 simp only [hu, hw, and_self, if_true]
theorem key_three {P : Program} {k t0 t1 t2 : TypeId} {f0 f1 f2 : Field} {q0 q1 q2 : IntKind} {x0 x1 x2 : Int} (hs : 1 ≤ P.types.size) (hu : P.underlying k = some (.struct #[f0, f1, f2])) (hkt : P.keyType k = true) (hc : P.cellsOf k = 3)
  (hn : (#[f0, f1, f2] : Array Field).all (·.name != "_") = true) (e0 : f0.type = t0 ∧ f0.offset = 0) (e1 : f1.type = t1 ∧ f1.offset = 1) (e2 : f2.type = t2 ∧ f2.offset = 2) (u0 : P.underlying t0 = some (.int q0)) (u1 : P.underlying t1 = some (.int q1)) (u2 : P.underlying t2 = some (.int q2))
  (c0 : P.cellsOf t0 = 1) (c1 : P.cellsOf t1 = 1) (c2 : P.cellsOf t2 = 1) (w0 : (Lit.int q0 x0).wf = true) (w1 : (Lit.int q1 x1).wf = true) (w2 : (Lit.int q2 x2).wf = true) :
  keyOf P k (.agg #[.int q0 x0, .int q1 x1, .int q2 x2]) = some (.string (keyBytes [.int q0 x0, .int q1 x1, .int q2 x2])) := by
 obtain ⟨d, hd⟩ : ∃ d, P.types.size = d + 1 := ⟨P.types.size - 1, by omega⟩
 have l0 := keyLits_int d u0 w0
 have l1 := keyLits_int d u1 w1
 have l2 := keyLits_int d u2 w2
 unfold keyOf
 rw [hu]
 simp only
 have hf : (Value.agg #[.int q0 x0, .int q1 x1, .int q2 x2]).formed P k = true := by simp [Value.formed, hu, hc]
 rw [hkt, hf, hd]
 simp only [Bool.and_self, if_true]
 unfold Program.keyLits
 rw [hu]
 simp only [Value.cells, hc, hn]
 simp only [List.length_cons, List.length_nil, and_self, if_true, List.mapM_cons, List.mapM_nil, e0.1, e0.2, e1.1, e1.2, e2.1, e2.2, c0, c1, c2, List.drop_zero, List.drop_succ_cons, List.take_succ_cons, List.take_zero, l0, l1, l2, bind, Option.bind, pure, Option.map_some, List.flatten_cons, List.flatten_nil, List.append_nil, List.cons_append, List.nil_append]
theorem wf_i64 {x : Int} (h : -9223372036854775808 ≤ x ∧ x < 9223372036854775808) : (Lit.int .i64 x).wf = true := by
 simp [Lit.wf, show IntKind.i64.min = -9223372036854775808 from rfl, show IntKind.i64.max = 9223372036854775807 from rfl]
 omega
theorem wf_u64 {x : Nat} (h : x < 18446744073709551616) : (Lit.int .u64 (x : Int)).wf = true := by
 simp [Lit.wf, show IntKind.u64.min = 0 from rfl, show IntKind.u64.max = 18446744073709551615 from rfl]
 omega
theorem id_key {i : Idn} (h : IdOk i) : keyOf Tryz.prog 77 (idV i) = some (.string (idKey i)) :=
 key_three (Nat.succ_le_of_lt (Nat.lt_of_le_of_lt (Nat.zero_le _) idRow)) Tryz.underlying77 (by kernel_rfl) (by kernel_rfl) (by kernel_rfl) ⟨rfl, rfl⟩ ⟨rfl, rfl⟩ ⟨rfl, rfl⟩ Tryz.underlying3 Tryz.underlying22 Tryz.underlying22 (by kernel_rfl) (by kernel_rfl) (by kernel_rfl) (wf_i64 ⟨h.1, h.2.1⟩) (wf_u64 h.2.2.1) (wf_u64 h.2.2.2)
theorem idKey_inj {i j : Idn} (hi : IdOk i) (hj : IdOk j) (h : idKey i = idKey j) : i = j := by
 have := idK.inj (id_key hi) (by rw [h]; exact id_key hj)
 unfold idV at this
 simp only [Value.agg.injEq, Array.mk.injEq, List.cons.injEq, Value.int.injEq, true_and, and_true] at this
 obtain ⟨a, b, c⟩ := i
 obtain ⟨a', b', c'⟩ := j
 simp only at this
 obtain ⟨e1, e2, e3⟩ := this
 simp only [Prod.mk.injEq]
 omega
end Go.Proofs.YtpjmolnkmlpfeaaGreatDoor

/- 'm[k]++' in two steps. -/
namespace Go.Proofs.YtpjmolnkmlpfeaaGreatDoor
set_option maxRecDepth 100000
open Go.RowKit
open Go.Maps (Keyed)
open Go.ChangeMaps (setBlock)

theorem idLaw : WideMaps.KeyLaw Tryz.prog 77 := deep_law_laid laidJ (m := 2) (by omega) idRow (by kernel_rfl) idWide
theorem heap_setB {w : World} {b : Nat} {o o' : Obj} (h : w.heap[b]? = some o) : (setBlock w b o').heap[b]? = some o' := by
 have := (Array.getElem?_eq_some_iff.1 h).1
 simp [setBlock, this]
theorem heap_setB_other {w : World} {b i : Nat} {o' : Obj} (h : i ≠ b) : (setBlock w b o').heap[i]? = w.heap[i]? := by
 simp [setBlock, Array.getElem?_setIfInBounds, Ne.symm h]
theorem grown_setB (w : World) (b : Nat) (o : Obj) : w.grownBy (setBlock w b o) (some b) := ⟨rfl, rfl, rfl, by simp [setBlock], fun i _ hi => heap_setB_other fun e => hi (by rw [e])⟩
theorem MapW.entry {k t e : TypeId} {w : World} {m : Nat} {E : Ens} {z kv : Value} {s : Nm} (K : WideMaps.KeyLaw Tryz.prog k) (ht : Tryz.prog.underlying t = some (.map k e)) (hz : ∀ w : World, (zeroValue e).run Tryz.prog w = .ok z w) (h : MapW k w m E) (hk : keyOf Tryz.prog k kv = some (.string s)) (hE : E.length < 9223372036854775807) (h0 : (fget s E).getD z = z) :
  ∃ (v0 : Value) (st : Nat) (w1 : World), (Instr.mapEntry t (.map (some m)) kv).run Tryz.prog w = .ok (.tuple #[v0, goInt st]) w1 ∧ w.grownBy w1 (some m) ∧
   (∀ u : World, u.heap[m]? = w1.heap[m]? → (Instr.lookup t (.map (some m)) kv false).run Tryz.prog u = .ok z u) ∧
   ∀ (w2 : World) (val : Value), w2.heap[m]? = w1.heap[m]? → ∃ w3, (Instr.entryStore t (.map (some m)) (goInt st) val).run Tryz.prog w2 = .ok () w3 ∧ MapW k w3 m (fput s val E) ∧ w2.grownBy w3 (some m) := by
 have KK := Keyed.of_law K
 obtain ⟨es, clock, hb, F, hs, hD⟩ := id h
 obtain ⟨v0, st, es1, clock1, hrun, hcase, hst⟩ := WideElems.entry_then_store (w := w) K ht hz hb F hk
 refine ⟨v0, st, _, hrun, grown_setB _ _ _, ?_, fun w2 val hw2 => ?_⟩
 ·rcases K.find w hk es.toList F.keys with ⟨h1, h2⟩ | ⟨j, e0, h1, h2, h3⟩
  ·have hr2 : (Instr.mapEntry t (.map (some m)) kv).run Tryz.prog w = .ok (.tuple #[z, goInt clock]) (setBlock w m (.map (es.push ⟨kv, z, clock⟩) (clock + 1))) := by
    simp [Instr.mapEntry, run_underlying ht, MapKept.run_getObj_map hb, K.check w false hk, h1, hz, MapKept.run_setObj_map _ hb, Result.andThen, setBlock]
   have hr3 : (Instr.mapUpdate t (.map (some m)) kv z).run Tryz.prog w = .ok () (setBlock w m (.map (es.push ⟨kv, z, clock⟩) (clock + 1))) := by
    simp [Instr.mapUpdate, run_underlying ht, MapKept.run_getObj_map hb, K.check w false hk, h1, MapKept.run_setObj_map _ hb, Result.andThen, setBlock]
   rw [hrun] at hr2
   injection hr2 with _ hr2
   obtain ⟨w', hup, hm', _⟩ := h.store KK ht hk hE z
   rw [hr3] at hup
   injection hup with _ hup
   intro u hu
   have hmu : MapW k u m (fput s z E) := hm'.same (by rw [hu, hr2, hup])
   have := hmu.look KK ht hz hk
   rw [fget_put (h.srt KK), if_pos rfl] at this
   exact this
  ·have hj : es[j]? = some e0 := by simpa using h2
   have hsame : es.modify j (fun e => { e with key := kv }) = es := by
    apply Array.ext'
    rw [Array.toList_modify, ChangeMaps.modify_eq_set _ _ _ _ h2]
    have : ({ e0 with key := kv } : MapEntry) = e0 := by rw [← h3]
    rw [this]
    exact WideElems.set_self _ _ _ h2
   have hr2 : (Instr.mapEntry t (.map (some m)) kv).run Tryz.prog w = .ok (.tuple #[e0.val, goInt e0.born]) (setBlock w m (.map es clock)) := by
    simp [Instr.mapEntry, run_underlying ht, MapKept.run_getObj_map hb, K.check w false hk, h1, hj, h3, K.stays w hk, hsame, MapKept.run_setObj_map _ hb, Result.andThen, setBlock]
   rw [hrun] at hr2
   injection hr2 with _ hr2
   intro u hu
   have hmu : MapW k u m E := h.same (by rw [hu, hr2, heap_setB hb, hb])
   have := hmu.look KK ht hz hk
   rw [h0] at this
   exact this
 ·rw [heap_setB hb] at hw2
  obtain ⟨es', clock', hs1, hs2⟩ := hst w2 val hw2
  obtain ⟨w', hup, hm', _⟩ := h.store KK ht hk hE val
  rw [hs2] at hup
  injection hup with _ hup
  exact ⟨_, hs1, hm'.same (by rw [← hup, heap_setB hb, heap_setB hw2]), grown_setB _ _ _⟩
end Go.Proofs.YtpjmolnkmlpfeaaGreatDoor
