/- Is: what the maps hold; plain, and notes in memory. -/
import Derived.Test.YtpjmolnkmlpfeaaGreatDoorJS
import Derived.Test.YtpjmolnkmlpfeaaGreatDoorJuP
import Derived.Test.YtpjmolnkmlpfeaaGreatDoorCliM
namespace Go.Proofs.YtpjmolnkmlpfeaaGreatDoor
set_option linter.unusedVariables false
set_option linter.unusedSimpArgs false
set_option maxRecDepth 100000
open Go.RowKit
open Go.Maps (Keyed)

def begunP (i : Idn) (x : Nte) : Bool := decide (x.kind = 1 ∧ idOf x.call = i)
def endP (i : Idn) (x : Nte) : Bool := decide (x.kind = 2 ∧ idOf x.call = i)
def begunAt (p : List Nte) (i : Idn) : Option Nat := p.findIdx? (begunP i)
def endedIn (p : List Nte) (i : Idn) : Bool := p.any (endP i)
theorem begun_snoc (p : List Nte) (x : Nte) (i : Idn) : begunAt (p ++ [x]) i = (begunAt p i).orElse fun _ => if begunP i x then some p.length else none := by
  unfold begunAt
  rw [List.findIdx?_append]
  cases h : p.findIdx? (begunP i) with
  | some j => rfl
  | none =>
    rw [List.findIdx?_cons, List.findIdx?_nil]
    cases begunP i x <;> simp
theorem ended_snoc (p : List Nte) (x : Nte) (i : Idn) : endedIn (p ++ [x]) i = (endedIn p i || endP i x) := by simp [endedIn]
theorem begun_some {p : List Nte} {i : Idn} {j : Nat} (h : begunAt p i = some j) : ∃ y, p[j]? = some y ∧ y.kind = 1 ∧ idOf y.call = i := by
  obtain ⟨h1, h2, _⟩ := List.findIdx?_eq_some_iff_getElem.1 h
  have := of_decide_eq_true h2
  exact ⟨p[j], List.getElem?_eq_getElem h1, this.1, this.2⟩
theorem begun_none {p : List Nte} {i : Idn} (h : begunAt p i = none) : ∀ y ∈ p, y.kind = 1 → idOf y.call ≠ i := by
  intro y hy hk e
  have := List.findIdx?_eq_none_iff.1 h y hy
  unfold begunP at this
  exact absurd ⟨hk, e⟩ (of_decide_eq_false this)
theorem is_uniq {p : List Nte} (hp : IsH p) {j l : Nat} (hj : j < p.length) (hl : l < p.length) (k1 : p[j].kind = 1) (k2 : p[l].kind = 1) (e : idOf p[j].call = idOf p[l].call) : j = l := by
  have key : ∀ j l (hj : j < p.length) (hl : l < p.length), p[j].kind = 1 → p[l].kind = 1 → idOf p[j].call = idOf p[l].call → ¬ j < l := by
    intro j l hj hl k1 k2 e hlt
    rcases hp.at_ hl with ⟨_, h, _⟩ | ⟨h, _⟩
    · exact h p[j] (List.mem_take_iff_getElem.2 ⟨j, by omega, rfl⟩) k1 e
    · omega
  have h1 := key j l hj hl k1 k2 e
  have h2 := key l j hl hj k2 k1 e.symm
  omega
theorem is1 {p : List Nte} {x : Nte} (hx : x.kind = 1) : isAt p x ↔ begunAt p (idOf x.call) = none ∧ MayP x.call := by
  constructor
  · rintro (⟨_, h1, h2⟩ | ⟨h, _⟩)
    · refine ⟨List.findIdx?_eq_none_iff.2 fun y hy => decide_eq_false fun e => h1 y hy e.1 e.2, h2⟩
    · omega
  · rintro ⟨h1, h2⟩
    exact .inl ⟨hx, begun_none h1, h2⟩
theorem is2 {p : List Nte} {x : Nte} (hp : IsH p) (hx : x.kind = 2) : isAt p x ↔ (∃ j y, begunAt p (idOf x.call) = some j ∧ p[j]? = some y ∧ y.call = x.call) ∧ endedIn p (idOf x.call) = false ∧ idOf x.call = repId x.rep := by
  have he : endedIn p (idOf x.call) = false ↔ ∀ y ∈ p, y.kind = 2 → idOf y.call ≠ idOf x.call := by
    unfold endedIn
    rw [List.any_eq_false]
    constructor
    · intro h y hy hk e
      exact h y hy (decide_eq_true ⟨hk, e⟩)
    · intro h y hy e
      have := of_decide_eq_true e
      exact h y hy this.1 this.2
  constructor
  · rintro (⟨h, _⟩ | ⟨_, ⟨y, hy, hk, e⟩, h2, h3⟩)
    · omega
    · refine ⟨?_, he.2 h2, h3⟩
      cases hb : begunAt p (idOf x.call) with
      | none => exact absurd (by rw [e]) (begun_none hb y hy hk)
      | some j =>
        obtain ⟨z, hz, hzk, hzi⟩ := begun_some hb
        obtain ⟨hjl, hz'⟩ := List.getElem?_eq_some_iff.1 hz
        obtain ⟨l, hl, hy'⟩ := List.getElem_of_mem hy
        have hjl2 : j = l := is_uniq hp hjl hl (by rw [hz']; exact hzk) (by rw [hy']; exact hk) (by rw [hz', hy', hzi, e])
        subst hjl2
        exact ⟨j, z, rfl, hz, by rw [← hz', hy', e]⟩
  · rintro ⟨⟨j, y, hb, hy, e⟩, h2, h3⟩
    obtain ⟨z, hz, hzk, _⟩ := begun_some hb
    rw [hy] at hz
    injection hz with hz
    subst hz
    exact .inr ⟨hx, ⟨y, List.mem_of_getElem? hy, hzk, e⟩, he.1 h2, h3⟩
theorem isN {p : List Nte} {x : Nte} (h1 : x.kind ≠ 1) (h2 : x.kind ≠ 2) : ¬ isAt p x := by
  rintro (⟨h, _⟩ | ⟨h, _⟩)
  · exact h1 h
  · exact h2 h
/-- What the two maps hold. -/
structure IsInv (E1 E2 : Ens) (p : List Nte) : Prop where
  b : ∀ i, IdOk i → fget (idKey i) E1 = (begunAt p i).map fun j => Value.int .i64 (j : Int)
  e : ∀ i, IdOk i → fget (idKey i) E2 = if endedIn p i then some (Value.int .i64 1) else none
  l1 : E1.length ≤ p.length
  l2 : E2.length ≤ p.length
theorem IsInv.nil : IsInv [] [] [] := ⟨fun _ _ => rfl, fun _ _ => rfl, Nat.le_refl _, Nat.le_refl _⟩
theorem IsInv.begin {E1 E2 : Ens} {p : List Nte} {x : Nte} (h : IsInv E1 E2 p) (s1 : Srt E1) (hk : x.kind = 1) (hn : begunAt p (idOf x.call) = none) (hi : IdOk (idOf x.call)) : IsInv (fput (idKey (idOf x.call)) (.int .i64 (p.length : Int)) E1) E2 (p ++ [x]) where
  b i hio := by
    rw [fget_put s1, begun_snoc, h.b i hio]
    by_cases e : idOf x.call = i
    · subst e
      rw [if_pos rfl, hn]
      simp [begunP, hk]
    · rw [if_neg fun e2 => e (idKey_inj hi hio e2.symm)]
      have hb : begunP i x = false := decide_eq_false fun h => e h.2
      rw [hb]
      cases begunAt p i <;> rfl
  e i hio := by
    rw [ended_snoc, h.e i hio]
    have : endP i x = false := decide_eq_false fun h => by omega
    rw [this, Bool.or_false]
  l1 := by
    have := len_put (idKey (idOf x.call)) (.int .i64 (p.length : Int)) E1
    have := h.l1
    rw [List.length_append]
    simp only [List.length_cons, List.length_nil]
    omega
  l2 := by rw [List.length_append]; exact Nat.le_trans h.l2 (Nat.le_add_right _ _)
theorem IsInv.fin {E1 E2 : Ens} {p : List Nte} {x : Nte} (h : IsInv E1 E2 p) (s2 : Srt E2) (hk : x.kind = 2) (hi : IdOk (idOf x.call)) : IsInv E1 (fput (idKey (idOf x.call)) (.int .i64 1) E2) (p ++ [x]) where
  b i hio := by
    rw [begun_snoc, h.b i hio]
    have : begunP i x = false := decide_eq_false fun h => by omega
    rw [this]
    cases begunAt p i <;> rfl
  e i hio := by
    rw [fget_put s2, ended_snoc, h.e i hio]
    by_cases e : idOf x.call = i
    · subst e
      rw [if_pos rfl]
      have : endP (idOf x.call) x = true := decide_eq_true ⟨hk, rfl⟩
      rw [this, Bool.or_true]
      rfl
    · rw [if_neg fun e2 => e (idKey_inj hi hio e2.symm)]
      have : endP i x = false := decide_eq_false fun h => e h.2
      rw [this, Bool.or_false]
  l1 := by rw [List.length_append]; exact Nat.le_trans h.l1 (Nat.le_add_right _ _)
  l2 := by
    have := len_put (idKey (idOf x.call)) (.int .i64 1) E2
    have := h.l2
    rw [List.length_append]
    simp only [List.length_cons, List.length_nil]
    omega
/-- Notes in memory. -/
structure NtV where
  n : Nte
  vc : Value
  vr : Value
def ntL (x : NtV) : List Value := .int .i64 x.n.kind :: (calL x.n.call x.vc ++ repL x.n.rep x.vr)
theorem ntL_len (x : NtV) : (ntL x).length = 19 := rfl
/-- What a note's numbers, its bytes may be. -/
structure NtOk (x : Nte) : Prop where
  id : IdOk (idOf x.call)
  rid : IdOk (repId x.rep)
  seq : x.call.seq < 18446744073709551616
  at_ : x.call.at_ < 18446744073709551616
  rat : x.rep.at_ < 18446744073709551616
  body : x.call.body.length ≤ 1000000
  rbody : x.rep.body.length ≤ 1000000
def SlH (K : Nat → Prop) (w : World) (v : Value) (h : List Nte) : Prop := ∃ A c, ∃ H : List NtV, v = .slice A H.length c ∧ H.map (·.n) = h ∧ Reads w 19 A H.length (H.flatMap ntL) ∧ (∀ x ∈ H, SlB K w x.vc x.n.call.body ∧ SlB K w x.vr x.n.rep.body) ∧ H.length ≤ c ∧ c ≤ 9223372036854775807 ∧ (0 < H.length → ∀ ad, A = some ad → K ad.block)
theorem SlH.below {K : Nat → Prop} {w w' : World} {v : Value} {h : List Nte} (hh : SlH K w v h) (hb : Below w.heap.size w w') : SlH K w' v h := by
  obtain ⟨A, c, H, e, h0, h1, h2, h3⟩ := hh
  exact ⟨A, c, H, e, h0, Reads.below h1 hb, fun p hp => ⟨(h2 p hp).1.below hb, (h2 p hp).2.below hb⟩, h3⟩
def zNt : NtV := { n := { kind := 0, call := zCal, rep := zRep }, vc := .slice none 0 0, vr := .slice none 0 0 }
theorem zero_note (w : World) : (zeroValue 38).run Tryz.prog w = .ok (.agg (ntL zNt).toArray) w := (zero_of_info (n := 19) (by kernel_rfl)).1 w
theorem info_note {cs : Array Value} (h : cs.size = 19) : (Tryz.prog.info? 38).map (·.size) = some cs.size := by rw [h]; kernel_rfl
theorem info_note19 {vs : List Value} (h : vs.length = 19) : (Tryz.prog.info? 38).map (·.size) = some vs.length := by rw [h]; kernel_rfl
theorem infoj_call9 {vs : List Value} (h : vs.length = 9) : (Tryz.prog.info? 25).map (·.size) = some vs.length := by rw [h]; kernel_rfl
theorem infoj_reply9 {vs : List Value} (h : vs.length = 9) : (Tryz.prog.info? 32).map (·.size) = some vs.length := by rw [h]; kernel_rfl
theorem nt_one {x : NtV} (h1 : x.vc.oneCell' = true) (h2 : x.vr.oneCell' = true) : ∀ u ∈ (ntL x).toArray.toList, u.oneCell' = true := by
  intro u hu
  simp only [ntL, calL, repL, List.toList_toArray, List.mem_cons, List.mem_append, List.not_mem_nil, or_false] at hu
  rcases hu with rfl | (rfl | rfl | rfl | rfl | rfl | rfl | rfl | rfl | rfl) | (rfl | rfl | rfl | rfl | rfl | rfl | rfl | rfl | rfl)
  all_goals first | exact h1 | exact h2 | rfl
theorem nt_call {w : World} {g : Nat} {t : TypeId} {x : NtV} (h : Blk w g t (ntL x).toArray) : w.rangeAt g 1 (calL x.n.call x.vc) := Blk.range h 1 9
theorem nt_rep {w : World} {g : Nat} {t : TypeId} {x : NtV} (h : Blk w g t (ntL x).toArray) : w.rangeAt g 10 (repL x.n.rep x.vr) := Blk.range h 10 9
theorem nt_callR {w : World} {b o : Nat} {x : NtV} (h : w.rangeAt b o (ntL x)) : w.rangeAt b (o + 1) (calL x.n.call x.vc) := fun j v hv => by
  have hj : j < 9 := (List.getElem?_eq_some_iff.1 hv).1
  have := h (1 + j) v (by
    rw [Nat.add_comm]
    show (calL x.n.call x.vc ++ repL x.n.rep x.vr)[j]? = some v
    rw [List.getElem?_append_left (by exact hj)]
    exact hv)
  rwa [← Nat.add_assoc] at this
theorem load_rgGJ {P : Program} {ops : Array Oper} {rest : List Oper} {op : Oper} {a : Act} {w : World} {Q : Exit → Act → World → Prop} (hw : Region.wanted op (yielded ops a.tmps) = true) {ty : TypeId} {x : Operand} (ho : op.op = .load ty x) {g o : Nat} (hx : a.eval x = .pointer (some ⟨g, o, none⟩)) {vs : List Value} {d : TypeDesc} (hc : w.rangeAt g o vs)
    (hu : P.underlying ty = some d) (hd : d.isRow = true) (hi : (P.info? ty).map (·.size) = some vs.length) (h : wpList P ops Q rest (a.put op.dst (.agg vs.toArray)) w) : wpList P ops Q (op :: rest) a w :=
  wpList_step fun K hK => by
    rw [if_pos hw]
    have hl := exec_load_rg (op := op) (E := a.eval) ho hx hc hu hd hi
    unfold Oper.wp
    simp only [hl]
    exact hK _ _ h
/-- 'm[k] = v' in the walk. -/
theorem mw_update {k t e : TypeId} {w : World} {mb : Nat} {E : Ens} {kv val : Value} {s : Nm} {ops : Array Oper} {rest : List Oper} {o : Oper} {a : Act} {Q : Exit → Act → World → Prop} (hg : o.guard = none) {m x v : Operand} (hop : o.op = Op.mapUpdate t m x v)
    (hm : a.eval m = .map (some mb)) (hx : a.eval x = kv) (hv : a.eval v = val) (K : Keyed Tryz.prog k) (ht : Tryz.prog.underlying t = some (.map k e)) (h : MapW k w mb E) (hk : keyOf Tryz.prog k kv = some (.string s)) (hE : E.length < 9223372036854775807)
    (hK : ∀ w', MapW k w' mb (fput s val E) → w.grownBy w' (some mb) → wpList Tryz.prog ops Q rest (a.put o.dst undef) w') : wpList Tryz.prog ops Q (o :: rest) a w :=
  wpList_plain hg fun _ hK' => by
    obtain ⟨w', hrun, h1, h2⟩ := h.store K ht hk hE val
    unfold Oper.wp execOp
    simp only [hop, hm, hx, hv, Sem.run_bind, hrun, Result.andThen_ok, Sem.run_pure]
    exact hK' _ _ (hK w' h1 h2)
end Go.Proofs.YtpjmolnkmlpfeaaGreatDoor
