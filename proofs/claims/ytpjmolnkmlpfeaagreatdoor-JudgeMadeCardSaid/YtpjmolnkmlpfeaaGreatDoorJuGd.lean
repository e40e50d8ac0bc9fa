/- What a channel's first round over the notes keeps. -/
import Derived.Test.YtpjmolnkmlpfeaaGreatDoorJuGc
import Derived.Test.YtpjmolnkmlpfeaaGreatDoorJuS
import Derived.Test.YtpjmolnkmlpfeaaGreatDoorJQ
namespace Go.Proofs.YtpjmolnkmlpfeaaGreatDoor
set_option linter.unusedVariables false
set_option linter.unusedSimpArgs false
set_option maxRecDepth 100000
open Go.RowKit

def setL (xs : List Value) (o : Nat) (vs : List Value) : List Value := xs.take o ++ vs ++ xs.drop (o + vs.length)
theorem setL_get {xs vs : List Value} {o : Nat} (h : o + vs.length ≤ xs.length) (i : Nat) : (setL xs o vs)[i]? = if o ≤ i ∧ i < o + vs.length then vs[i - o]? else xs[i]? := by
  unfold setL
  have h1 : (xs.take o).length = o := by rw [List.length_take]; omega
  by_cases h2 : i < o
  · rw [if_neg (by omega), List.append_assoc, List.getElem?_append_left (by omega), List.getElem?_take_of_lt h2]
  · by_cases h3 : i < o + vs.length
    · rw [if_pos ⟨by omega, h3⟩, List.getElem?_append_left (by rw [List.length_append]; omega), List.getElem?_append_right (by omega), h1]
    · rw [if_neg (by omega), List.getElem?_append_right (by rw [List.length_append]; omega), List.length_append, h1, List.getElem?_drop]
      congr 1
      omega
theorem own_puts {w w' : World} {base : Nat} {e : TypeId} {size n : Nat} {g c : Nat} {xs vs : List Value} {o : Nat} {cur : Array Value} (h : w.ownsRow base e size (.slice (some ⟨g, 0, none⟩) n c) n xs) (hB : Blk w g e cur) (hB' : Blk w' g e (putL cur o vs)) (ho : o + vs.length ≤ n * size) :
    w'.ownsRow base e size (.slice (some ⟨g, 0, none⟩) n c) n (setL xs o vs) := by
  obtain ⟨hl, ⟨h1, h2⟩ | ⟨g', cap, cur', e1, e2, e3, e4, e5, e6, e7⟩⟩ := h
  · cases h1
  · injection e1 with e1 _ e9
    injection e1 with e1
    injection e1 with e1
    subst e1 e9
    have hc : cur' = cur := by
      have h1 : w.heap[g]? = some (.cells cur e (0, 0)) := hB
      rw [e3] at h1
      injection h1 with h1
      injection h1
    subst hc
    have hle : n * size ≤ c * size := Nat.mul_le_mul_right _ e4
    refine ⟨?_, .inr ⟨g, c, putL cur' o vs, rfl, e2, hB', e4, e5, by rw [putL_size]; exact e6, ?_⟩⟩
    · unfold setL
      simp only [List.length_append, List.length_take, List.length_drop]
      omega
    · apply List.ext_getElem?
      intro i
      rw [setL_get (by omega)]
      by_cases hi : i < n * size
      · rw [List.getElem?_take_of_lt hi, Array.getElem?_toList, putL_get _ _ _ _ (by omega)]
        split
        · rfl
        · rw [← e7, List.getElem?_take_of_lt hi, Array.getElem?_toList]
      · rw [if_neg (by omega), List.getElem?_eq_none (by rw [List.length_take]; omega), List.getElem?_eq_none (by omega)]
theorem flat_setL {α : Type} {f : α → List Value} {size : Nat} (hf : ∀ x, (f x).length = size) : ∀ (E : List α) (k j : Nat) (hk : k < E.length) (vs : List Value) (y : α), j + vs.length ≤ size → setL (f E[k]) j vs = f y → setL (E.flatMap f) (k * size + j) vs = (E.set k y).flatMap f := by
  intro E k j hk vs y hj h
  have hlen : ∀ (l : List α), (l.flatMap f).length = l.length * size := by
    intro l
    induction l with
    | nil => simp
    | cons a l ih => rw [List.flatMap_cons, List.length_append, ih, hf, List.length_cons, Nat.add_mul]; omega
  have e1 : E = E.take k ++ E[k] :: E.drop (k + 1) := by
    rw [← List.drop_eq_getElem_cons hk, List.take_append_drop]
  have e2 : E.set k y = E.take k ++ y :: E.drop (k + 1) := List.set_eq_take_append_cons_drop.trans (by rw [if_pos hk])
  have hlt : (E.take k).length = k := by rw [List.length_take]; omega
  rw [e2, List.flatMap_append, List.flatMap_cons, ← h]
  have e3 : E.flatMap f = (E.take k).flatMap f ++ (f E[k] ++ (E.drop (k + 1)).flatMap f) := by
    conv => lhs; rw [e1]
    rw [List.flatMap_append, List.flatMap_cons]
  have hp : ((E.take k).flatMap f).length = k * size := by rw [hlen, hlt]
  rw [e3]
  apply List.ext_getElem?
  intro i
  rw [setL_get (by simp only [List.length_append, hp, hf]; omega)]
  have L1 : ∀ (A B : List Value), A.length = k * size → i < k * size → (A ++ B)[i]? = A[i]? := fun A B hA hi => List.getElem?_append_left (by omega)
  have L2 : ∀ (A B : List Value), A.length = k * size → ¬ i < k * size → (A ++ B)[i]? = B[i - k * size]? := fun A B hA hi => by rw [List.getElem?_append_right (by omega), hA]
  have L3 : ∀ (A B : List Value) (q : Nat), A.length = size → q < size → (A ++ B)[q]? = A[q]? := fun A B q hA hi => List.getElem?_append_left (by omega)
  have L4 : ∀ (A B : List Value) (q : Nat), A.length = size → ¬ q < size → (A ++ B)[q]? = B[q - size]? := fun A B q hA hi => by rw [List.getElem?_append_right (by omega), hA]
  have hs : (setL (f E[k]) j vs).length = size := by rw [h, hf]
  by_cases h1 : i < k * size
  · rw [if_neg (by omega), L1 _ _ hp h1, L1 _ _ hp h1]
  · rw [L2 _ _ hp h1, L2 _ _ hp h1]
    by_cases h2 : i - k * size < size
    · rw [L3 _ _ _ (hf _) h2, L3 _ _ _ hs h2, setL_get (by rw [hf]; exact hj)]
      by_cases h3 : j ≤ i - k * size ∧ i - k * size < j + vs.length
      · rw [if_pos (by omega), if_pos h3]
        congr 1
        omega
      · rw [if_neg (by omega), if_neg h3]
    · rw [if_neg (by omega), L4 _ _ _ (hf _) h2, L4 _ _ _ hs h2]
/-- The calls of the notes p, and the map of their numbers. -/
structure OpSt (K : Nat → Prop) (w0 : World) (mb : Nat) (n : Int) (p : List Nte) (w : World) (v : Value) (P : List OpE) (E : Ens) : Prop where
  ops : P.map (·.1) = opsOf p n
  own : w.ownsRow (mb + 1) 95 19 v P.length (P.flatMap opE)
  bod : ∀ q ∈ P, SlB K w0 q.2.1 q.1.call.body ∧ SlB K w0 q.2.2 q.1.rep.body
  map : MapW 77 w mb E
  get : ∀ y ∈ p, y.call.ch = n → fget (idKey (idOf y.call)) E = some (.int .i64 (opIx (opsOf p n) y.call : Nat))
  len : E.length ≤ p.length
section
variable {K : Nat → Prop} {w0 w w' : World} {mb : Nat} {n : Int} {p : List Nte} {v : Value} {P : List OpE} {E : Ens}
theorem OpSt.nil (h : MapW 77 w mb []) : OpSt K w0 mb n [] w (.slice none 0 0) [] [] :=
  ⟨rfl, World.ownsRow_nil _ _ _ _, fun _ h => (by cases h), h, fun _ h => (by cases h), Nat.le_refl _⟩
theorem OpSt.below (h : OpSt K w0 mb n p w v P E) (hb : Below w.heap.size w w') : OpSt K w0 mb n p w' v P E :=
  ⟨h.ops, own_call h.own hb, h.bod, h.map.below hb, h.get, h.len⟩
theorem OpSt.plen (h : OpSt K w0 mb n p w v P E) : P.length ≤ p.length := by
  have := ops_len n p
  rw [← h.ops, List.length_map] at this
  exact this
theorem OpSt.pop (h : OpSt K w0 mb n p w v P E) {i : Nat} (hi : i < P.length) : (opsOf p n)[i]? = some P[i].1 := by
  rw [← h.ops, List.getElem?_map, List.getElem?_eq_getElem hi]
  rfl
theorem is_end {p : List Nte} {x : Nte} (hp : IsH (p ++ [x])) (hk : x.kind = 2) : ∃ z ∈ p, z.kind = 1 ∧ z.call = x.call := by
  obtain ⟨_, h2, _⟩ := (isFrom_app p [] [x]).1 hp
  rw [List.nil_append] at h2
  rcases h2 with ⟨h, _⟩ | ⟨_, h, _⟩
  · omega
  · exact h
theorem is_pre {p : List Nte} {x : Nte} (hp : IsH (p ++ [x])) : IsH p := ((isFrom_app p [] [x]).1 hp).1
theorem OpSt.skip {x : Nte} (h : OpSt K w0 mb n p w v P E) (hp : IsH (p ++ [x])) (hx : x.call.ch ≠ n ∨ (x.kind = 2 ∧ knownR x.rep.res = false)) : OpSt K w0 mb n (p ++ [x]) w v P E := by
  have e : opsOf (p ++ [x]) n = opsOf p n := by
    rw [ops_snoc]
    unfold stepOp
    by_cases hc : x.call.ch ≠ n
    · rw [if_pos hc]
    · rw [if_neg hc]
      rcases hx with h | ⟨h1, h2⟩
      · exact absurd h hc
      · rw [if_neg (by omega), h2]; rfl
  refine ⟨by rw [e]; exact h.ops, h.own, h.bod, h.map, fun y hy hc => ?_, by rw [List.length_append]; exact Nat.le_trans h.len (Nat.le_add_right _ _)⟩
  rw [e]
  rcases List.mem_append.1 hy with hy | hy
  · exact h.get y hy hc
  · rw [List.mem_singleton] at hy
    subst hy
    rcases hx with hx | ⟨hk, _⟩
    · exact absurd hc hx
    · obtain ⟨z, hz, _, ez⟩ := is_end hp hk
      have := h.get z hz (by rw [ez]; exact hc)
      rw [ez] at this
      exact this
theorem OpSt.beg {x : Nte} {vc : Value} {v' : Value} (h : OpSt K w0 mb n p w v P E) (s : Srt E) (hp : IsH (p ++ [x])) (hok : ∀ y ∈ p ++ [x], NtOk y) (hc : x.call.ch = n) (hk : x.kind = 1) (hv : SlB K w0 vc x.call.body)
    (ho : w'.ownsRow (mb + 1) 95 19 v' (P.length + 1) (P.flatMap opE ++ opL { call := x.call, rep := zRep, known := false } vc (.slice none 0 0))) (hm : MapW 77 w' mb (fput (idKey (idOf x.call)) (.int .i64 (P.length : Int)) E)) :
    OpSt K w0 mb n (p ++ [x]) w' v' (P ++ [({ call := x.call, rep := zRep, known := false }, vc, .slice none 0 0)]) (fput (idKey (idOf x.call)) (.int .i64 (P.length : Int)) E) := by
  have hnew : ∀ y ∈ p, y.call.ch = n → idOf y.call ≠ idOf x.call := by
    intro y hy hyc e
    obtain ⟨_, h2, _⟩ := (isFrom_app p [] [x]).1 hp
    rw [List.nil_append] at h2
    have hb : ∃ z ∈ p, z.kind = 1 ∧ z.call = y.call := by
      obtain ⟨i, hi, rfl⟩ := List.mem_iff_getElem.1 hy
      rcases (is_pre hp).at_ hi with ⟨k, _⟩ | ⟨_, ⟨z, hz, kz, ez⟩, _⟩
      · exact ⟨_, List.getElem_mem hi, k, rfl⟩
      · exact ⟨z, List.mem_of_mem_take hz, kz, ez⟩
    obtain ⟨z, hz, kz, ez⟩ := hb
    rcases h2 with ⟨_, hu, _⟩ | ⟨hu, _⟩
    · exact hu z hz kz (by rw [ez]; exact e)
    · omega
  have e : opsOf (p ++ [x]) n = opsOf p n ++ [{ call := x.call, rep := zRep, known := false }] := by
    rw [ops_snoc]
    unfold stepOp
    rw [if_neg (fun h => h hc), if_pos hk]
  have hix : opIx (opsOf (p ++ [x]) n) x.call = P.length := by
    have hl : (opsOf p n).length = P.length := by rw [← h.ops, List.length_map]
    have hlt : P.length < (opsOf (p ++ [x]) n).length := by rw [e, List.length_append, hl]; simp
    refine find_nodup (OpsI.of hp).ids hlt ?_
    simp only [e]
    rw [List.getElem_append_right (by omega)]
    simp
  refine ⟨by rw [e, List.map_append, h.ops]; rfl, ?_, fun q hq => ?_, hm, fun y hy hyc => ?_, ?_⟩
  · rw [List.length_append, List.flatMap_append]
    exact ho
  · rcases List.mem_append.1 hq with hq | hq
    · exact h.bod q hq
    · rw [List.mem_singleton] at hq
      subst hq
      exact ⟨hv, SlB.nil _ _⟩
  · rw [fget_put s]
    rcases List.mem_append.1 hy with hy' | hy'
    · rw [if_neg fun e2 => hnew y hy' hyc (idKey_inj (hok y hy).id (hok x (by simp)).id e2), h.get y hy' hyc, (ix_ext hp hy' hyc).2]
    · rw [List.mem_singleton] at hy'
      subst hy'
      rw [if_pos rfl, hix]
  · have := fput_le (idKey (idOf x.call)) (.int .i64 (P.length : Int)) E
    have := h.len
    rw [List.length_append]
    simp only [List.length_cons, List.length_nil]
    omega
theorem OpSt.ix {x : Nte} (h : OpSt K w0 mb n p w v P E) (hp : IsH (p ++ [x])) (hc : x.call.ch = n) (hk : x.kind = 2) : opIx (opsOf p n) x.call < P.length ∧ fget (idKey (idOf x.call)) E = some (.int .i64 (opIx (opsOf p n) x.call : Nat)) := by
  obtain ⟨z, hz, _, ez⟩ := is_end hp hk
  have h1 := (ix_ext (n := n) hp hz (by rw [ez]; exact hc)).1
  have h2 := h.get z hz (by rw [ez]; exact hc)
  rw [ez] at h1 h2
  have hl : (opsOf p n).length = P.length := by rw [← h.ops, List.length_map]
  rw [hl] at h1
  exact ⟨h1, h2⟩
def finOp (x : Nte) (vr : Value) (q : OpE) : OpE := ({ q.1 with known := true, rep := x.rep }, q.2.1, vr)
theorem OpSt.fin {x : Nte} {vr : Value} (h : OpSt K w0 mb n p w v P E) (hp : IsH (p ++ [x])) (hc : x.call.ch = n) (hk : x.kind = 2) (hr : knownR x.rep.res = true) (hv : SlB K w0 vr x.rep.body) {i : Nat} (hi : i < P.length) (ei : i = opIx (opsOf p n) x.call)
    (ho : w'.ownsRow (mb + 1) 95 19 v P.length ((P.set i (finOp x vr P[i])).flatMap opE)) (hm : MapW 77 w' mb E) :
    OpSt K w0 mb n (p ++ [x]) w' v (P.set i (finOp x vr P[i])) E := by
  have e : opsOf (p ++ [x]) n = (opsOf p n).modify i fun o => { o with known := true, rep := x.rep } := by
    rw [ops_snoc]
    unfold stepOp
    rw [if_neg (fun h => h hc), if_neg (by omega), if_pos hr, ei]
  refine ⟨?_, by rw [List.length_set]; exact ho, fun q hq => ?_, hm, fun y hy hyc => ?_, by rw [List.length_append]; exact Nat.le_trans h.len (Nat.le_add_right _ _)⟩
  · rw [e, ← h.ops, List.map_set]
    apply List.ext_getElem?
    intro j
    rw [List.getElem?_set, List.getElem?_modify, List.getElem?_map]
    by_cases hj : i = j
    · subst hj
      rw [if_pos rfl, if_pos (by rw [List.length_map]; exact hi), List.getElem?_eq_getElem hi]
      simp [finOp]
    · rw [if_neg hj]
      simp [hj]
  · rcases List.mem_or_eq_of_mem_set hq with hq | hq
    · exact h.bod q hq
    · subst hq
      exact ⟨(h.bod _ (List.getElem_mem hi)).1, hv⟩
  · rcases List.mem_append.1 hy with hy' | hy'
    · rw [(ix_ext hp hy' hyc).2]
      exact h.get y hy' hyc
    · rw [List.mem_singleton] at hy'
      subst hy'
      obtain ⟨z, hz, _, ez⟩ := is_end hp hk
      have h2 := (ix_ext (n := n) hp hz (by rw [ez]; exact hc)).2
      rw [ez] at h2
      rw [h2, (h.ix hp hc hk).2]
end
/-- The calls of fit notes are fit. -/
theorem ops_ok {h : List Nte} (hh : IsH h) (hok : ∀ x ∈ h, NtOk x) {n : Int} : ∀ o ∈ opsOf h n, OkO o ∧ o.call.body.length ≤ 1000000 ∧ o.rep.body.length ≤ 1000000 := by
  intro o ho
  have hI := OpsI.of (n := n) hh
  obtain ⟨y, hy, ky, ey, _⟩ := hI.mem o ho
  have hmay : MayP y.call := by
    obtain ⟨i, hi, rfl⟩ := List.mem_iff_getElem.1 hy
    rcases hh.at_ hi with ⟨_, _, h⟩ | ⟨h, _⟩
    · exact h
    · omega
  have h1 := hok y hy
  have hrep : o.rep.at_ < 18446744073709551616 ∧ o.rep.body.length ≤ 1000000 := by
    cases hk : o.known with
    | false => rw [hI.un o ho hk]; exact ⟨by decide, by decide⟩
    | true =>
      obtain ⟨z, hz, _, _, ez, _⟩ := hI.kn o ho hk
      rw [← ez]
      exact ⟨(hok z hz).rat, (hok z hz).rbody⟩
  rw [← ey]
  obtain ⟨⟨m1, m2, _⟩, _⟩ := hmay
  refine ⟨⟨?_, ?_, ?_, ?_, hrep.1⟩, h1.body, hrep.2⟩
  · rw [← ey]; omega
  · rw [← ey]; omega
  · rw [← ey]; exact h1.seq
  · rw [← ey]; exact h1.at_
end Go.Proofs.YtpjmolnkmlpfeaaGreatDoor
