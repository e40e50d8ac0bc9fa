/- Joined texts: CliM, JuS, JuGa. -/
import Derived.Test.YtpjmolnkmlpfeaaGreatDoorJR
import Derived.Test.YtpjmolnkmlpfeaaGreatDoorJS
import Derived.Test.YtpjmolnkmlpfeaaGreatDoorJuP
import Derived.Test.YtpjmolnkmlpfeaaGreatDoorJU
import Derived.Test.YtpjmolnkmlpfeaaGreatDoorJQ
import Derived.Test.YtpjmolnkmlpfeaaGreatDoorJBD
/- A client's calls: May. -/
set_option linter.unusedVariables false
set_option linter.unusedSimpArgs false
namespace Go.Proofs.YtpjmolnkmlpfeaaGreatDoor
set_option maxRecDepth 100000
open Go.RowKit

set_option maxHeartbeats 1000000 in
theorem count_any (n : Nat) (w : World) : Calls Tryz.prog 56 #[.int .u64 (n : Int)] w fun e w' => e = .returned (.bool (decide (1 ≤ n ∧ n ≤ 4611686018427387903))) ∧ w' = w := by
 by_cases h1 : 1 ≤ n
 ·have d0 : decide ((1 : Int) ≤ (n : Int)) = true := decide_eq_true (by omega)
  have d1 : decide (1 ≤ n) = true := decide_eq_true h1
  by_cases h2 : n ≤ 4611686018427387903
  ·have d2 : decide ((n : Int) ≤ 4611686018427387903) = true := decide_eq_true (by omega)
   have d3 : decide (n ≤ 4611686018427387903) = true := decide_eq_true h2
   rw [decide_eq_true ⟨h1, h2⟩]
   clear h1 h2
   go_enter Tryz.func56, Tryz.ntmps56
   go_wp2_with fail
   go_ret
   exact ⟨rfl, rfl⟩
  ·have d2 : decide ((n : Int) ≤ 4611686018427387903) = false := decide_eq_false (by omega)
   have d3 : decide (n ≤ 4611686018427387903) = false := decide_eq_false h2
   rw [decide_eq_false fun h => h2 h.2]
   clear h1 h2
   go_enter Tryz.func56, Tryz.ntmps56
   go_wp2_with fail
   go_ret
   exact ⟨rfl, rfl⟩
 ·have d0 : decide ((1 : Int) ≤ (n : Int)) = false := decide_eq_false (by omega)
  have d1 : decide (1 ≤ n) = false := decide_eq_false h1
  rw [decide_eq_false fun h => h1 h.1]
  clear h1
  go_enter Tryz.func56, Tryz.ntmps56
  go_wp2_with fail
  go_ret
  exact ⟨rfl, rfl⟩
set_option maxHeartbeats 16000000 in
theorem may_any {K : Nat → Prop} {w : World} {C : Cal} {v : Value} (h : SlB K w v C.body) :
  Calls Tryz.prog 35 #[.agg (calL C v).toArray] w fun e w' => e = .returned (.bool (mayC C)) ∧ Below w.heap.size w w' := by
 obtain ⟨A, c, rfl, _⟩ := h
 obtain ⟨n, hn⟩ : ∃ n, n = C.body.length := ⟨_, rfl⟩
 rw [← hn]
 have HN := Lib.hid hn
 clear hn
 have hB1 : Blk (w.alloc (.cells (calL C (.slice A n c)).toArray 25)) w.heap.size 25 (calL C (.slice A n c)).toArray := Blk.new _ _ _
 have HT := Lib.hid (below_new w (.cells (calL C (.slice A n c)).toArray 25))
 have c0 : (w.alloc (.cells (calL C (.slice A n c)).toArray 25)).cell? ⟨w.heap.size, 0, none⟩ = some (.int .i64 C.cl) := (hB1.cell 0).trans rfl
 have c1 : (w.alloc (.cells (calL C (.slice A n c)).toArray 25)).cell? ⟨w.heap.size, 1, none⟩ = some (.int .u64 (C.inc : Int)) := (hB1.cell 1).trans rfl
 have c2 : (w.alloc (.cells (calL C (.slice A n c)).toArray 25)).cell? ⟨w.heap.size, 2, none⟩ = some (.int .u64 (C.n : Int)) := (hB1.cell 2).trans rfl
 have c3 : (w.alloc (.cells (calL C (.slice A n c)).toArray 25)).cell? ⟨w.heap.size, 3, none⟩ = some (.int .i64 C.kind) := (hB1.cell 3).trans rfl
 have c4 : (w.alloc (.cells (calL C (.slice A n c)).toArray 25)).cell? ⟨w.heap.size, 4, none⟩ = some (.int .i64 C.ch) := (hB1.cell 4).trans rfl
 have c5 : (w.alloc (.cells (calL C (.slice A n c)).toArray 25)).cell? ⟨w.heap.size, 5, none⟩ = some (.int .i64 C.sub) := (hB1.cell 5).trans rfl
 have c6 : (w.alloc (.cells (calL C (.slice A n c)).toArray 25)).cell? ⟨w.heap.size, 6, none⟩ = some (.int .u64 (C.seq : Int)) := (hB1.cell 6).trans rfl
 have c7 : (w.alloc (.cells (calL C (.slice A n c)).toArray 25)).cell? ⟨w.heap.size, 7, none⟩ = some (.int .u64 (C.at_ : Int)) := (hB1.cell 7).trans rfl
 have c8 : (w.alloc (.cells (calL C (.slice A n c)).toArray 25)).cell? ⟨w.heap.size, 8, none⟩ = some (.slice A n c) := (hB1.cell 8).trans rfl
 clear hB1
 by_cases hz : 0 < n
 ·have z0 : decide (0 < n) = true := decide_eq_true hz
  have z1 : decide ((0 : Int) < (n : Int)) = true := decide_eq_true (by omega)
  have HZ := Lib.hid hz
  clear hz
  go_enter Tryz.func35, Tryz.ntmps35
  go_wp2_with (first | (go_at_call 56; refine (count_any _ _).mono ?_; rintro e w' ⟨rfl, rfl⟩))
  all_goals
   go_ret
   refine ⟨ret_bool ?_, HT.out⟩
   have hn := HN.out; have hzz := HZ.out
   unfold mayC
   try simp only [beq_iff_eq, bne_iff_ne, decide_eq_true_eq, decide_eq_false_iff_not, beq_eq_false_iff_ne, Bool.not_eq_true'] at *
   rw [Bool.eq_iff_iff]
   try simp only [beq_iff_eq, bne_iff_ne, decide_eq_true_eq, decide_eq_false_iff_not, beq_eq_false_iff_ne, Bool.not_eq_true', Bool.false_eq_true, true_iff, false_iff]
   unfold MayP
   omega
 ·have z0 : decide (0 < n) = false := decide_eq_false hz
  have z1 : decide ((0 : Int) < (n : Int)) = false := decide_eq_false (by omega)
  have HZ := Lib.hid hz
  clear hz
  go_enter Tryz.func35, Tryz.ntmps35
  go_wp2_with (first | (go_at_call 56; refine (count_any _ _).mono ?_; rintro e w' ⟨rfl, rfl⟩))
  all_goals
   go_ret
   refine ⟨ret_bool ?_, HT.out⟩
   have hn := HN.out; have hzz := HZ.out
   unfold mayC
   try simp only [beq_iff_eq, bne_iff_ne, decide_eq_true_eq, decide_eq_false_iff_not, beq_eq_false_iff_ne, Bool.not_eq_true'] at *
   rw [Bool.eq_iff_iff]
   try simp only [beq_iff_eq, bne_iff_ne, decide_eq_true_eq, decide_eq_false_iff_not, beq_eq_false_iff_ne, Bool.not_eq_true', Bool.false_eq_true, true_iff, false_iff]
   unfold MayP
   omega
end Go.Proofs.YtpjmolnkmlpfeaaGreatDoor

/- Is: what the maps hold; plain, and notes in memory. -/
namespace Go.Proofs.YtpjmolnkmlpfeaaGreatDoor
set_option maxRecDepth 100000
open Go.RowKit
open Go.Maps (Keyed)

def begunP (i : Idn) (x : Nte) : Bool := decide (x.kind = 1 ∧ idOf x.call = i)
def endP (i : Idn) (x : Nte) : Bool := decide (x.kind = 2 ∧ idOf x.call = i)
def begunAt (p : List Nte) (i : Idn) : Option Nat := p.findIdx? (begunP i)
def endedIn (p : List Nte) (i : Idn) : Bool := p.any (endP i)
theorem begun_snoc (p : List Nte) (x : Nte) (i : Idn) : begunAt (p ++ [x]) i = (begunAt p i).orElse fun _ => if begunP i x then some p.length else none := by
 unfold begunAt
 rw [List.findIdx?_append]
 cases h : p.findIdx? (begunP i) with
 | some j => rfl
 | none =>
  rw [List.findIdx?_cons, List.findIdx?_nil]
  cases begunP i x <;> simp
theorem ended_snoc (p : List Nte) (x : Nte) (i : Idn) : endedIn (p ++ [x]) i = (endedIn p i || endP i x) := by simp [endedIn]
theorem begun_some {p : List Nte} {i : Idn} {j : Nat} (h : begunAt p i = some j) : ∃ y, p[j]? = some y ∧ y.kind = 1 ∧ idOf y.call = i := by
 obtain ⟨h1, h2, _⟩ := List.findIdx?_eq_some_iff_getElem.1 h
 have := of_decide_eq_true h2
 exact ⟨p[j], List.getElem?_eq_getElem h1, this.1, this.2⟩
theorem begun_none {p : List Nte} {i : Idn} (h : begunAt p i = none) : ∀ y ∈ p, y.kind = 1 → idOf y.call ≠ i := by
 intro y hy hk e
 have := List.findIdx?_eq_none_iff.1 h y hy
 unfold begunP at this
 exact absurd ⟨hk, e⟩ (of_decide_eq_false this)
theorem is_uniq {p : List Nte} (hp : IsH p) {j l : Nat} (hj : j < p.length) (hl : l < p.length) (k1 : p[j].kind = 1) (k2 : p[l].kind = 1) (e : idOf p[j].call = idOf p[l].call) : j = l := by
 have key : ∀ j l (hj : j < p.length) (hl : l < p.length), p[j].kind = 1 → p[l].kind = 1 → idOf p[j].call = idOf p[l].call → ¬ j < l := by
  intro j l hj hl k1 k2 e hlt
  rcases hp.at_ hl with ⟨_, h, _⟩ | ⟨h, _⟩
  ·exact h p[j] (List.mem_take_iff_getElem.2 ⟨j, by omega, rfl⟩) k1 e
  ·omega
 have h1 := key j l hj hl k1 k2 e
 have h2 := key l j hl hj k2 k1 e.symm
 omega
theorem is1 {p : List Nte} {x : Nte} (hx : x.kind = 1) : isAt p x ↔ begunAt p (idOf x.call) = none ∧ MayP x.call := by
 constructor
 ·rintro (⟨_, h1, h2⟩ | ⟨h, _⟩)
  ·refine ⟨List.findIdx?_eq_none_iff.2 fun y hy => decide_eq_false fun e => h1 y hy e.1 e.2, h2⟩
  ·omega
 ·rintro ⟨h1, h2⟩
  exact .inl ⟨hx, begun_none h1, h2⟩
theorem is2 {p : List Nte} {x : Nte} (hp : IsH p) (hx : x.kind = 2) : isAt p x ↔ (∃ j y, begunAt p (idOf x.call) = some j ∧ p[j]? = some y ∧ y.call = x.call) ∧ endedIn p (idOf x.call) = false ∧ idOf x.call = repId x.rep := by
 have he : endedIn p (idOf x.call) = false ↔ ∀ y ∈ p, y.kind = 2 → idOf y.call ≠ idOf x.call := by
  unfold endedIn
  rw [List.any_eq_false]
  constructor
  ·intro h y hy hk e
   exact h y hy (decide_eq_true ⟨hk, e⟩)
  ·intro h y hy e
   have := of_decide_eq_true e
   exact h y hy this.1 this.2
 constructor
 ·rintro (⟨h, _⟩ | ⟨_, ⟨y, hy, hk, e⟩, h2, h3⟩)
  ·omega
  ·refine ⟨?_, he.2 h2, h3⟩
   cases hb : begunAt p (idOf x.call) with
   | none => exact absurd (by rw [e]) (begun_none hb y hy hk)
   | some j =>
    obtain ⟨z, hz, hzk, hzi⟩ := begun_some hb
    obtain ⟨hjl, hz'⟩ := List.getElem?_eq_some_iff.1 hz
    obtain ⟨l, hl, hy'⟩ := List.getElem_of_mem hy
    have hjl2 : j = l := is_uniq hp hjl hl (by rw [hz']; exact hzk) (by rw [hy']; exact hk) (by rw [hz', hy', hzi, e])
    subst hjl2
    exact ⟨j, z, rfl, hz, by rw [← hz', hy', e]⟩
 ·rintro ⟨⟨j, y, hb, hy, e⟩, h2, h3⟩
  obtain ⟨z, hz, hzk, _⟩ := begun_some hb
  rw [hy] at hz
  injection hz with hz
  subst hz
  exact .inr ⟨hx, ⟨y, List.mem_of_getElem? hy, hzk, e⟩, he.1 h2, h3⟩
theorem isN {p : List Nte} {x : Nte} (h1 : x.kind ≠ 1) (h2 : x.kind ≠ 2) : ¬ isAt p x := by
 rintro (⟨h, _⟩ | ⟨h, _⟩)
 ·exact h1 h
 ·exact h2 h
/-- What the two maps hold. -/
structure IsInv (E1 E2 : Ens) (p : List Nte) : Prop where
 b : ∀ i, IdOk i → fget (idKey i) E1 = (begunAt p i).map fun j => Value.int .i64 (j : Int)
 e : ∀ i, IdOk i → fget (idKey i) E2 = if endedIn p i then some (Value.int .i64 1) else none
 l1 : E1.length ≤ p.length
 l2 : E2.length ≤ p.length
theorem IsInv.nil : IsInv [] [] [] := ⟨fun _ _ => rfl, fun _ _ => rfl, Nat.le_refl _, Nat.le_refl _⟩
theorem IsInv.begin {E1 E2 : Ens} {p : List Nte} {x : Nte} (h : IsInv E1 E2 p) (s1 : Srt E1) (hk : x.kind = 1) (hn : begunAt p (idOf x.call) = none) (hi : IdOk (idOf x.call)) : IsInv (fput (idKey (idOf x.call)) (.int .i64 (p.length : Int)) E1) E2 (p ++ [x]) where
 b i hio := by
  rw [fget_put s1, begun_snoc, h.b i hio]
  by_cases e : idOf x.call = i
  ·subst e
   rw [if_pos rfl, hn]
   simp [begunP, hk]
  ·rw [if_neg fun e2 => e (idKey_inj hi hio e2.symm)]
   have hb : begunP i x = false := decide_eq_false fun h => e h.2
   rw [hb]
   cases begunAt p i <;> rfl
 e i hio := by
  rw [ended_snoc, h.e i hio]
  have : endP i x = false := decide_eq_false fun h => by omega
  rw [this, Bool.or_false]
 l1 := by
  have := len_put (idKey (idOf x.call)) (.int .i64 (p.length : Int)) E1
  have := h.l1
  rw [List.length_append]
  simp only [List.length_cons, List.length_nil]
  omega
 l2 := by rw [List.length_append]; exact Nat.le_trans h.l2 (Nat.le_add_right _ _)
theorem IsInv.fin {E1 E2 : Ens} {p : List Nte} {x : Nte} (h : IsInv E1 E2 p) (s2 : Srt E2) (hk : x.kind = 2) (hi : IdOk (idOf x.call)) : IsInv E1 (fput (idKey (idOf x.call)) (.int .i64 1) E2) (p ++ [x]) where
 b i hio := by
  rw [begun_snoc, h.b i hio]
  have : begunP i x = false := decide_eq_false fun h => by omega
  rw [this]
  cases begunAt p i <;> rfl
 e i hio := by
  rw [fget_put s2, ended_snoc, h.e i hio]
  by_cases e : idOf x.call = i
  ·subst e
   rw [if_pos rfl]
   have : endP (idOf x.call) x = true := decide_eq_true ⟨hk, rfl⟩
   rw [this, Bool.or_true]
   rfl
  ·rw [if_neg fun e2 => e (idKey_inj hi hio e2.symm)]
   have : endP i x = false := decide_eq_false fun h => e h.2
   rw [this, Bool.or_false]
 l1 := by rw [List.length_append]; exact Nat.le_trans h.l1 (Nat.le_add_right _ _)
 l2 := by
  have := len_put (idKey (idOf x.call)) (.int .i64 1) E2
  have := h.l2
  rw [List.length_append]
  simp only [List.length_cons, List.length_nil]
  omega
/-- Notes in memory. -/
structure NtV where
 n : Nte
 vc : Value
 vr : Value
def ntL (x : NtV) : List Value := .int .i64 x.n.kind :: (calL x.n.call x.vc ++ repL x.n.rep x.vr)
theorem ntL_len (x : NtV) : (ntL x).length = 19 := rfl
/-- What a note's numbers, its bytes may be. -/
structure NtOk (x : Nte) : Prop where
 id : IdOk (idOf x.call)
 rid : IdOk (repId x.rep)
 seq : x.call.seq < 18446744073709551616
 at_ : x.call.at_ < 18446744073709551616
 rat : x.rep.at_ < 18446744073709551616
 body : x.call.body.length ≤ 1000000
 rbody : x.rep.body.length ≤ 1000000
def SlH (K : Nat → Prop) (w : World) (v : Value) (h : List Nte) : Prop := ∃ A c, ∃ H : List NtV, v = .slice A H.length c ∧ H.map (·.n) = h ∧ Reads w 19 A H.length (H.flatMap ntL) ∧ (∀ x ∈ H, SlB K w x.vc x.n.call.body ∧ SlB K w x.vr x.n.rep.body) ∧ H.length ≤ c ∧ c ≤ 9223372036854775807 ∧ (0 < H.length → ∀ ad, A = some ad → K ad.block)
theorem SlH.below {K : Nat → Prop} {w w' : World} {v : Value} {h : List Nte} (hh : SlH K w v h) (hb : Below w.heap.size w w') : SlH K w' v h := by
 obtain ⟨A, c, H, e, h0, h1, h2, h3⟩ := hh
 exact ⟨A, c, H, e, h0, Reads.below h1 hb, fun p hp => ⟨(h2 p hp).1.below hb, (h2 p hp).2.below hb⟩, h3⟩
def zNt : NtV := { n := { kind := 0, call := zCal, rep := zRep }, vc := .slice none 0 0, vr := .slice none 0 0 }
theorem zero_note (w : World) : (zeroValue 38).run Tryz.prog w = .ok (.agg (ntL zNt).toArray) w := (zero_of_info (n := 19) (by kernel_rfl)).1 w
theorem info_note {cs : Array Value} (h : cs.size = 19) : (Tryz.prog.info? 38).map (·.size) = some cs.size := by rw [h]; kernel_rfl
theorem info_note19 {vs : List Value} (h : vs.length = 19) : (Tryz.prog.info? 38).map (·.size) = some vs.length := by rw [h]; kernel_rfl
theorem infoj_call9 {vs : List Value} (h : vs.length = 9) : (Tryz.prog.info? 25).map (·.size) = some vs.length := by rw [h]; kernel_rfl
theorem infoj_reply9 {vs : List Value} (h : vs.length = 9) : (Tryz.prog.info? 32).map (·.size) = some vs.length := by rw [h]; kernel_rfl
theorem nt_one {x : NtV} (h1 : x.vc.oneCell' = true) (h2 : x.vr.oneCell' = true) : ∀ u ∈ (ntL x).toArray.toList, u.oneCell' = true := by
 intro u hu
 simp only [ntL, calL, repL, List.toList_toArray, List.mem_cons, List.mem_append, List.not_mem_nil, or_false] at hu
 rcases hu with rfl | (rfl | rfl | rfl | rfl | rfl | rfl | rfl | rfl | rfl) | (rfl | rfl | rfl | rfl | rfl | rfl | rfl | rfl | rfl)
 all_goals first | exact h1 | exact h2 | rfl
theorem nt_call {w : World} {g : Nat} {t : TypeId} {x : NtV} (h : Blk w g t (ntL x).toArray) : w.rangeAt g 1 (calL x.n.call x.vc) := Blk.range h 1 9
theorem nt_rep {w : World} {g : Nat} {t : TypeId} {x : NtV} (h : Blk w g t (ntL x).toArray) : w.rangeAt g 10 (repL x.n.rep x.vr) := Blk.range h 10 9
theorem nt_callR {w : World} {b o : Nat} {x : NtV} (h : w.rangeAt b o (ntL x)) : w.rangeAt b (o + 1) (calL x.n.call x.vc) := fun j v hv => by
 have hj : j < 9 := (List.getElem?_eq_some_iff.1 hv).1
 have := h (1 + j) v (by
  rw [Nat.add_comm]
  show (calL x.n.call x.vc ++ repL x.n.rep x.vr)[j]? = some v
  rw [List.getElem?_append_left (by exact hj)]
  exact hv)
 rwa [← Nat.add_assoc] at this
theorem load_rgGJ {P : Program} {ops : Array Oper} {rest : List Oper} {op : Oper} {a : Act} {w : World} {Q : Exit → Act → World → Prop} (hw : Region.wanted op (yielded ops a.tmps) = true) {ty : TypeId} {x : Operand} (ho : op.op = .load ty x) {g o : Nat} (hx : a.eval x = .pointer (some ⟨g, o, none⟩)) {vs : List Value} {d : TypeDesc} (hc : w.rangeAt g o vs)
  (hu : P.underlying ty = some d) (hd : d.isRow = true) (hi : (P.info? ty).map (·.size) = some vs.length) (h : wpList P ops Q rest (a.put op.dst (.agg vs.toArray)) w) : wpList P ops Q (op :: rest) a w :=
 wpList_step fun K hK => by
  rw [if_pos hw]
  have hl := exec_load_rg (op := op) (E := a.eval) ho hx hc hu hd hi
  unfold Oper.wp
  simp only [hl]
  exact hK _ _ h
/-- 'm[k] = v' in the walk. -/
theorem mw_update {k t e : TypeId} {w : World} {mb : Nat} {E : Ens} {kv val : Value} {s : Nm} {ops : Array Oper} {rest : List Oper} {o : Oper} {a : Act} {Q : Exit → Act → World → Prop} (hg : o.guard = none) {m x v : Operand} (hop : o.op = Op.mapUpdate t m x v)
  (hm : a.eval m = .map (some mb)) (hx : a.eval x = kv) (hv : a.eval v = val) (K : Keyed Tryz.prog k) (ht : Tryz.prog.underlying t = some (.map k e)) (h : MapW k w mb E) (hk : keyOf Tryz.prog k kv = some (.string s)) (hE : E.length < 9223372036854775807)
  (hK : ∀ w', MapW k w' mb (fput s val E) → w.grownBy w' (some mb) → wpList Tryz.prog ops Q rest (a.put o.dst undef) w') : wpList Tryz.prog ops Q (o :: rest) a w :=
 wpList_plain hg fun _ hK' => by
  obtain ⟨w', hrun, h1, h2⟩ := h.store K ht hk hE val
  unfold Oper.wp execOp
  simp only [hop, hm, hx, hv, Sem.run_bind, hrun, Result.andThen_ok, Sem.run_pure]
  exact hK' _ _ (hK w' h1 h2)
end Go.Proofs.YtpjmolnkmlpfeaaGreatDoor

/- Where the courses of a call's end are gone through. -/
namespace Go.Proofs.YtpjmolnkmlpfeaaGreatDoor
set_option maxRecDepth 100000
open Go.RowKit

theorem own_lowJ {w : World} {base base' : Nat} {e : TypeId} {size n : Nat} {v : Value} {xs : List Value} (h : w.ownsRow base e size v n xs) (hb : base' ≤ base) : w.ownsRow base' e size v n xs :=
 ⟨h.1, h.2.imp id fun ⟨g, cap, cur, e, hg, r⟩ => ⟨g, cap, cur, e, Nat.le_trans hb hg, r⟩⟩
abbrev OpE := Opr × Value × Value
def opE (p : OpE) : List Value := opL p.1 p.2.1 p.2.2
theorem opE_len (p : OpE) : (opE p).length = 19 := rfl
theorem info_op {vs : List Value} (h : vs.length = 19) : (Tryz.prog.info? 95).map (·.size) = some vs.length := by rw [h]; kernel_rfl
def SlO (K : Nat → Prop) (w : World) (v : Value) (P : List OpE) : Prop := ∃ A c, v = .slice A P.length c ∧ Reads w 19 A P.length (P.flatMap opE) ∧ (∀ p ∈ P, SlB K w p.2.1 p.1.call.body ∧ SlB K w p.2.2 p.1.rep.body) ∧ P.length ≤ c ∧ c ≤ 9223372036854775807 ∧ (0 < P.length → ∀ ad, A = some ad → K ad.block)
theorem SlO.mod {K S : Nat → Prop} {w w' : World} {v : Value} {P : List OpE} (h : SlO K w v P) (hm : Mod S w w') (hK : ∀ b, K b → ¬ S b) : SlO K w' v P := by
 obtain ⟨A, c, e, h1, h2, h3, h4, h5⟩ := h
 exact ⟨A, c, e, reads_mod h1 hm fun h0 ad ea => hK _ (h5 h0 ad ea), fun p hp => ⟨(h2 p hp).1.mod hm hK, (h2 p hp).2.mod hm hK⟩, h3, h4, h5⟩
/-- What the closure has caught. -/
structure Ge where
 sb : Nat
 lb : Nat
 bS : Nat
 bX : Nat
 bL : Nat
 bP : Nat
 bO : Nat
 bG : Nat
 x : Nat
 op : List Nat
 P : List OpE
 vop : Value
 vops : Value
def Ge.caps (G : Ge) : Array Value := #[.pointer (some ⟨G.bS, 0, none⟩), .pointer (some ⟨G.bX, 0, none⟩), .pointer (some ⟨G.bL, 0, none⟩), .pointer (some ⟨G.bP, 0, none⟩), .pointer (some ⟨G.bO, 0, none⟩), .pointer (some ⟨G.bG, 0, none⟩)]
def Ge.Z (G : Ge) (b : Nat) : Prop := b = G.sb ∨ b = G.lb
def Ge.ops (G : Ge) : List Opr := G.P.map (·.1)
structure GoOk (G : Ge) (w : World) : Prop where
 s : Blk w G.bS 110 #[.map (some G.sb)]
 x : Blk w G.bX 3 #[.int .i64 (G.x : Int)]
 l : Blk w G.bL 109 #[.map (some G.lb)]
 p : Blk w G.bP 97 #[G.vop]
 o : Blk w G.bO 93 #[G.vops]
 g : Blk w G.bG 111 #[.func (.func 61) #[] G.caps]
 op : SlI (fun b => ¬ G.Z b) w G.vop (nats G.op)
 ops : SlO (fun b => ¬ G.Z b) w G.vops G.P
 fs : ¬ G.Z G.bS
 fx : ¬ G.Z G.bX
 fl : ¬ G.Z G.bL
 fp : ¬ G.Z G.bP
 fo : ¬ G.Z G.bO
 fg : ¬ G.Z G.bG
 ne : G.sb ≠ G.lb
theorem GoOk.mod {G : Ge} {w w' : World} (h : GoOk G w) (hm : Mod G.Z w w') : GoOk G w' :=
 ⟨h.s.mod hm h.fs, h.x.mod hm h.fx, h.l.mod hm h.fl, h.p.mod hm h.fp, h.o.mod hm h.fo, h.g.mod hm h.fg, h.op.mod hm fun _ h => h, h.ops.mod hm fun _ h => h, h.fs, h.fx, h.fl, h.fp, h.fo, h.fg, h.ne⟩
/-- What was seen; what is left. -/
structure SeenR (ES : Ens) (S : List Crs) : Prop where
 get : ∀ c, OkC c → fget (wordC c) ES = if c ∈ S then some (.int .i64 1) else none
 len : ES.length = S.length
 nodup : S.Nodup
 ok : ∀ c ∈ S, OkC c
structure LeftR (X : Nat → Prop) (w : World) (EL : Ens) (L : List Crs) : Prop where
 get : ∀ c ∈ L, OkC c ∧ ∃ v, fget (wordC c) EL = some v ∧ CrV (fun b => ¬ X b) w v c
 all : ∀ p ∈ EL, ∃ c ∈ L, p.1 = wordC c
def GoSn (G : Ge) (X : Nat → Prop) (w : World) (S L : List Crs) (n : Nat) : Prop := ∃ ES EL, MapW 9 w G.sb ES ∧ MapW 9 w G.lb EL ∧ SeenR ES S ∧ LeftR X w EL L ∧ EL.length ≤ n
abbrev GoSt (G : Ge) (X : Nat → Prop) (w : World) (S L : List Crs) : Prop := GoSn G X w S L S.length
section
variable {G : Ge} {X X' T : Nat → Prop} {w w' : World} {S L : List Crs} {n : Nat}
theorem LeftR.mod {EL : Ens} (h : LeftR X w EL L) (hm : Mod T w w') (hT : ∀ b, b < w.heap.size → T b → X b) : LeftR X w' EL L where
 get c hc := by
  obtain ⟨h1, v, h2, h3⟩ := h.get c hc
  exact ⟨h1, v, h2, (h3.weak (K' := fun b => ¬ X b ∧ b < w.heap.size) fun b hb hx => ⟨hx, hb⟩).mod hm (fun b hb ht => hb.1 (hT b hb.2 ht)) |>.weak fun b _ hb => hb.1⟩
 all := h.all
theorem LeftR.weak {EL : Ens} (h : LeftR X w EL L) (hX : ∀ b, b < w.heap.size → X' b → X b) : LeftR X' w EL L where
 get c hc := by
  obtain ⟨h1, v, h2, h3⟩ := h.get c hc
  exact ⟨h1, v, h2, h3.weak fun b hb hx h => hx (hX b hb h)⟩
 all := h.all
theorem GoSn.mod (h : GoSn G X w S L n) (hm : Mod T w w') (hT : ∀ b, b < w.heap.size → T b → X b) (h1 : ¬ T G.sb) (h2 : ¬ T G.lb) : GoSn G X w' S L n := by
 obtain ⟨ES, EL, a, b, c, d, e⟩ := h
 exact ⟨ES, EL, a.mod hm h1, b.mod hm h2, c, d.mod hm hT, e⟩
theorem GoSn.below (h : GoSn G X w S L n) (hb : Below w.heap.size w w') : GoSn G X w' S L n := h.mod (mod_below (S := fun _ => False) hb) (fun _ _ h => h.elim) (fun h => h) (fun h => h)
theorem GoSn.weak (h : GoSn G X w S L n) (hX : ∀ b, b < w.heap.size → X' b → X b) : GoSn G X' w S L n := by
 obtain ⟨ES, EL, a, b, c, d, e⟩ := h
 exact ⟨ES, EL, a, b, c, d.weak hX, e⟩
theorem GoSn.nodup (h : GoSn G X w S L n) : S.Nodup := by obtain ⟨_, _, _, _, c, _⟩ := h; exact c.nodup
end
theorem fput_len {β : Type} {n : Nm} {b : β} {F : List (Nm × β)} (h : fget n F = none) : (fput n b F).length = F.length + 1 := by
 unfold fput
 rw [len_ins]
 have : fdel n F = F := List.filter_eq_self.2 fun p hp => by have := fget_none.1 h p hp; simpa using this
 rw [this]
theorem fput_le {β : Type} (n : Nm) (b : β) (F : List (Nm × β)) : (fput n b F).length ≤ F.length + 1 := by
 unfold fput
 rw [len_ins]
 have := List.length_filter_le (fun p : Nm × β => !(p.1 == n)) F
 unfold fdel
 omega
theorem SeenR.more {ES : Ens} {S : List Crs} {c : Crs} (h : SeenR ES S) (s : Srt ES) (hc : OkC c) (hn : c ∉ S) : SeenR (fput (wordC c) (.int .i64 1) ES) (c :: S) where
 get d hd := by
  rw [fget_put s, h.get d hd]
  by_cases e : d = c
  ·rw [if_pos (by rw [e]), if_pos (by rw [e]; simp)]
  ·rw [if_neg fun e2 => e (wordC_inj hd hc e2)]
   simp only [List.mem_cons, e, false_or]
 len := by rw [fput_len (by rw [h.get c hc, if_neg hn]), h.len]; rfl
 nodup := List.nodup_cons.2 ⟨hn, h.nodup⟩
 ok d hd := by
  rcases List.mem_cons.1 hd with rfl | hd
  ·exact hc
  ·exact h.ok d hd
theorem LeftR.put {X : Nat → Prop} {w : World} {EL : Ens} {L : List Crs} {d : Crs} {v : Value} (h : LeftR X w EL L) (s : Srt EL) (hd : OkC d) (hv : CrV (fun b => ¬ X b) w v d) : LeftR X w (fput (wordC d) v EL) (d :: L) where
 get c hc := by
  by_cases e : c = d
  ·subst e
   exact ⟨hd, v, by rw [fget_put s, if_pos rfl], hv⟩
  ·rcases List.mem_cons.1 hc with h1 | h1
   ·exact absurd h1 e
   ·obtain ⟨h2, u, h3, h4⟩ := h.get c h1
    exact ⟨h2, u, by rw [fget_put s, if_neg fun e2 => e (wordC_inj h2 hd e2)]; exact h3, h4⟩
 all p hp := by
  rcases mem_put.1 hp with rfl | ⟨hp, _⟩
  ·exact ⟨d, by simp, rfl⟩
  ·obtain ⟨c, hc, e⟩ := h.all p hp
   exact ⟨c, by simp [hc], e⟩
/-- The state in which nothing was seen. -/
theorem GoSt.nil {G : Ge} {X : Nat → Prop} {w : World} (h1 : MapW 9 w G.sb []) (h2 : MapW 9 w G.lb []) : GoSt G X w [] [] :=
 ⟨[], [], h1, h2, ⟨fun _ _ => rfl, rfl, List.nodup_nil, fun _ h => by cases h⟩, ⟨fun _ h => (by cases h), fun _ h => by cases h⟩, Nat.le_refl _⟩
/-- How the closure ends. -/
def GoPost (G : Ge) (X : Nat → Prop) (R : Crs → Prop) (c : Crs) (S L : List Crs) (w : World) (e : Ending) (w' : World) : Prop :=
 Mod G.Z w w' ∧ ((e = .returned (.bool true) ∧ ∃ S' L', GoSt G X w' S' L' ∧ S'.length ≤ 3000 ∧ c ∈ S' ∧ Trv G.ops G.op G.x R nobody S L S' L') ∨
  (e = .returned (.bool false) ∧ ∃ S' : List Crs, S'.Nodup ∧ (∀ d ∈ S', R d) ∧ 3000 < S'.length))
/-- The boxes of the deferred calls. -/
def dmark (D : Nat) : Deferred := { target := .collected D, args := #[] }
theorem leaves_marks {F : Fence} {n : Nat} {P : Program} {fn : Func} {tmps : Array Value} {R : Ending → World → Prop} : ∀ {Ds : List Nat} {w : World}, (∀ d ∈ Ds, w.heap[d]? = some (.deferred (some []))) → Ds.Nodup → (∀ w', Mod (fun b => b ∈ Ds) w w' → ∃ v, (results fn tmps).run P w' = .ok v w' ∧ R (.returned v) w') → LeavesInM F n P fn tmps R (Ds.map dmark) .returning w
 | [], w, _, _, h => by
  obtain ⟨v, h1, h2⟩ := h w (Mod.refl _ _)
  exact ⟨v, h1, h2⟩
 | d :: Ds, w, hD, hn, h => by
  have hd := hD d (by simp)
  obtain ⟨hn1, hn2⟩ := List.nodup_cons.1 hn
  refine ⟨by simp, .inl ⟨d, _, rfl, run_takeDeferred hd, leaves_marks (fun k hk => ?_) hn2 fun w' hm => h w' ?_⟩⟩
  ·exact (World.putObj_heap_other (fun (e : k = d) => hn1 (by rw [← e]; exact hk))).trans (hD k (by simp [hk]))
  ·exact ((mod_putObj w d _).mono fun b _ e => by rw [e]; simp).trans (hm.mono fun b _ e => by simp [e])
/-- A loop whose rounds leave marks. -/
def putAll : List Value → List Nat → List Value → List Value
 | L, i :: is, v :: vs => putAll (L.set i v) is vs
 | L, _, _ => L
def LoopEnd (idx : List Nat) (rel : List Value → List Deferred → World → Prop) (μ : Act → World → Nat) (L : List Value) (m : Nat) (a : Act) (w : World) : Prop :=
 (∃ vs ds, vs.length = idx.length ∧ a = ⟨(putAll L idx vs).toArray, ds⟩ ∧ rel vs ds w) ∧ μ a w < m
theorem putAll_same : ∀ (idx : List Nat) (L : List Value), putAll L idx (idx.map fun i => L.getD i undef) = L
 | [], _ => rfl
 | i :: is, L => by
  have h : L.set i (L.getD i undef) = L := by
   rcases Nat.lt_or_ge i L.length with h | h
   ·rw [List.getD_eq_getElem?_getD, List.getElem?_eq_getElem h]
    simp
   ·exact List.set_eq_of_length_le h
  show putAll (L.set i (L.getD i undef)) is (is.map fun i => L.getD i undef) = L
  rw [h]
  exact putAll_same is L
theorem wp_loop_slots {P : Program} {c : Code} {Q : Exit → Act → World → Prop} {w : World} {L : List Value} {ds : List Deferred} (idx : List Nat) (rel : List Value → List Deferred → World → Prop) (μ : Act → World → Nat)
  (h0 : rel (idx.map fun i => L.getD i undef) ds w)
  (round : ∀ vs ds w', vs.length = idx.length → rel vs ds w' → c.wp P (Exit.then (LoopEnd idx rel μ L (μ ⟨(putAll L idx vs).toArray, ds⟩ w')) Q) ⟨(putAll L idx vs).toArray, ds⟩ w') : (Code.loop c).wp P Q ⟨L.toArray, ds⟩ w := by
 refine wp_loop (fun a w => ∃ vs ds, vs.length = idx.length ∧ a = ⟨(putAll L idx vs).toArray, ds⟩ ∧ rel vs ds w) μ ?_ ?_
 ·exact ⟨_, ds, by simp, by rw [putAll_same], h0⟩
 ·rintro a w' ⟨vs, ds, h1, rfl, h3⟩
  exact round vs ds w' h1 h3
theorem loopEnd_of {idx : List Nat} {rel : List Value → List Deferred → World → Prop} {μ : Act → World → Nat} {L L' : List Value} {m : Nat} {ds : List Deferred} {u : World} (h1 : putAll L idx (idx.map fun i => L'.getD i undef) = L')
  (h2 : rel (idx.map fun i => L'.getD i undef) ds u) (h3 : μ ⟨L'.toArray, ds⟩ u < m) : LoopEnd idx rel μ L m ⟨L'.toArray, ds⟩ u := ⟨⟨_, _, by simp, by rw [h1], h2⟩, h3⟩
end Go.Proofs.YtpjmolnkmlpfeaaGreatDoor
