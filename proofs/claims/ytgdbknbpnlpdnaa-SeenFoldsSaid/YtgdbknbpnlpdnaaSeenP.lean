/- Plain laws: both ways of putting a message into a row agree, and keep what may be. -/
import Derived.Test.YtgdbknbpnlpdnaaSeenN
namespace Go.Proofs.Ytgdbknbpnlpdnaa
set_option linter.unusedVariables false
set_option linter.unusedSimpArgs false
open Go.RowKit

def Lt (a b : Mk) : Prop := a.p.toInt < b.p.toInt
theorem split_form (m : Mk) : ∀ L : List Mk, L.Pairwise (fun a b => a.p.toInt < b.p.toInt) →
    (∃ X y Y, L = X ++ y :: Y ∧ (∀ x ∈ X, x.p.toInt < m.p.toInt) ∧ y.p.toInt = m.p.toInt ∧ ∀ z ∈ Y, m.p.toInt < z.p.toInt) ∨
    (∃ X Y, L = X ++ Y ∧ (∀ x ∈ X, x.p.toInt < m.p.toInt) ∧ ∀ z ∈ Y, m.p.toInt < z.p.toInt)
  | [], _ => .inr ⟨[], [], rfl, fun _ h => (by cases h), fun _ h => (by cases h)⟩
  | a :: L, h => by
    rw [List.pairwise_cons] at h
    rcases Int.lt_trichotomy a.p.toInt m.p.toInt with h1 | h1 | h1
    · rcases split_form m L h.2 with ⟨X, y, Y, rfl, h2, h3, h4⟩ | ⟨X, Y, rfl, h2, h3⟩
      · exact .inl ⟨a :: X, y, Y, rfl, fun x hx => (List.mem_cons.1 hx).elim (fun e => e ▸ h1) (h2 x), h3, h4⟩
      · exact .inr ⟨a :: X, Y, rfl, fun x hx => (List.mem_cons.1 hx).elim (fun e => e ▸ h1) (h2 x), h3⟩
    · exact .inl ⟨[], a, L, rfl, fun _ h => (by cases h), h1, fun z hz => by have := h.1 z hz; omega⟩
    · exact .inr ⟨[], a :: L, rfl, fun _ h => (by cases h), fun z hz => (List.mem_cons.1 hz).elim (fun e => e ▸ h1) (fun hz => by have := h.1 z hz; omega)⟩
theorem findI_skip {α : Type} {p : α → Bool} {X Y : List α} {y : α} (h : ∀ x ∈ X, p x = false) (hy : p y = true) : findI p (X ++ y :: Y) = (X.length : Int) := by
  refine findI_hit (k := X.length) (by simp) (by simpa using hy) fun j hj hjk => ?_
  rw [List.getElem_append_left hjk]
  exact h _ (List.getElem_mem _)
theorem findI_no {α : Type} {p : α → Bool} {X : List α} (h : ∀ x ∈ X, p x = false) : findI p X = -1 := findI_miss fun j hj => h _ (List.getElem_mem hj)
section
variable {m : Mk} {X Y : List Mk} {y : Mk}
theorem fold_less : ∀ (X acc : List Mk), (∀ x ∈ X, x.p.toInt < m.p.toInt) → X.foldl (stepI m) (acc, false) = (acc ++ X, false)
  | [], acc, _ => by simp
  | x :: X, acc, h => by
    have h1 := h x (List.mem_cons_self ..)
    rw [List.foldl_cons]
    have : stepI m (acc, false) x = (acc ++ [x], false) := by
      simp [stepI, show ¬ m.p.toInt ≤ x.p.toInt by omega, show ¬ x.p.toInt = m.p.toInt by omega]
    rw [this, fold_less X _ fun z hz => h z (List.mem_cons_of_mem _ hz)]
    simp
theorem fold_more : ∀ (Y acc : List Mk), (∀ z ∈ Y, m.p.toInt < z.p.toInt) → Y.foldl (stepI m) (acc, true) = (acc ++ Y, true)
  | [], acc, _ => by simp
  | x :: X, acc, h => by
    have h1 := h x (List.mem_cons_self ..)
    rw [List.foldl_cons]
    have : stepI m (acc, true) x = (acc ++ [x], true) := by
      simp [stepI, show ¬ x.p.toInt = m.p.toInt by omega]
    rw [this, fold_more X _ fun z hz => h z (List.mem_cons_of_mem _ hz)]
    simp
theorem stI_full (L : List Mk) (m : Mk) : stI L m L.length = L.foldl (stepI m) ([], false) := by
  unfold stI
  rw [List.take_length]
theorem insR_in (h1 : ∀ x ∈ X, x.p.toInt < m.p.toInt) (h2 : y.p.toInt = m.p.toInt) (h3 : ∀ z ∈ Y, m.p.toInt < z.p.toInt) : insR (X ++ y :: Y) m = X ++ m :: Y := by
  have e : stI (X ++ y :: Y) m (X ++ y :: Y).length = (X ++ m :: Y, true) := by
    rw [stI_full, List.foldl_append, fold_less X [] h1, List.foldl_cons]
    have : stepI m ([] ++ X, false) y = (X ++ [m], true) := by simp [stepI, h2]
    rw [this, fold_more Y _ h3]
    simp
  unfold insR
  rw [e]
  rfl
theorem insR_out (h1 : ∀ x ∈ X, x.p.toInt < m.p.toInt) (h3 : ∀ z ∈ Y, m.p.toInt < z.p.toInt) : insR (X ++ Y) m = X ++ m :: Y := by
  cases Y with
  | nil =>
    have e : stI (X ++ []) m (X ++ []).length = (X, false) := by
      rw [stI_full, List.append_nil, fold_less X [] h1]
      simp
    unfold insR
    rw [e]
    rfl
  | cons z Z =>
    have hz := h3 z (List.mem_cons_self ..)
    have e : stI (X ++ z :: Z) m (X ++ z :: Z).length = (X ++ m :: z :: Z, true) := by
      rw [stI_full, List.foldl_append, fold_less X [] h1, List.foldl_cons]
      have : stepI m ([] ++ X, false) z = (X ++ [m, z], true) := by
        simp [stepI, show m.p.toInt ≤ z.p.toInt by omega, show ¬ z.p.toInt = m.p.toInt by omega]
      rw [this, fold_more Z _ fun a ha => h3 a (List.mem_cons_of_mem _ ha)]
      simp
    unfold insR
    rw [e]
    rfl
theorem lastM_in (h2 : y.p.toInt = m.p.toInt) (h3 : ∀ z ∈ Y, m.p.toInt < z.p.toInt) : lastM (X ++ y :: Y) m.p = some y := by
  have h := lastM_hit (ms := X ++ y :: Y) (q := m.p) (k := X.length) (by simp) (by simp [h2]) fun j hj hk => by
    have : (X ++ y :: Y)[j] ∈ Y := by
      rw [List.getElem_append_right (by omega)]
      obtain ⟨i, hi⟩ : ∃ i, j - X.length = i + 1 := ⟨j - X.length - 1, by omega⟩
      simp only [hi, List.getElem_cons_succ]
      exact List.getElem_mem _
    have := h3 _ this
    rw [beq_eq_false_iff_ne]
    omega
  rw [h]
  simp
theorem lastM_out (h1 : ∀ x ∈ X, x.p.toInt < m.p.toInt) (h3 : ∀ z ∈ Y, m.p.toInt < z.p.toInt) : lastM (X ++ Y) m.p = none :=
  lastM_miss fun j hj => by
    rw [beq_eq_false_iff_ne]
    rcases List.mem_append.1 (List.getElem_mem hj) with h | h
    · have := h1 _ h; omega
    · have := h3 _ h; omega
theorem goS_in (h1 : ∀ x ∈ X, x.p.toInt < m.p.toInt) (h2 : y.p.toInt = m.p.toInt) : goS (X ++ y :: Y) m = some (if y.s.toNat < m.s.toNat then X ++ m :: Y else X ++ y :: Y) := by
  have e : atS (X ++ y :: Y) m = (X.length : Int) := findI_skip (fun x hx => by have := h1 x hx; rw [beq_eq_false_iff_ne]; omega) (by simp [h2])
  unfold goS
  rw [e, if_pos (by omega)]
  simp only [Int.toNat_natCast]
  have e2 : (X ++ y :: Y).getD X.length Mk.zero = y := by simp [List.getD_eq_getElem?_getD]
  have e3 : (X ++ y :: Y).set X.length m = X ++ m :: Y := by simp
  rw [e2, e3]
  split <;> rfl
theorem goS_out (h1 : ∀ x ∈ X, x.p.toInt < m.p.toInt) (h3 : ∀ z ∈ Y, m.p.toInt < z.p.toInt) : goS (X ++ Y) m = if 6 ≤ (X ++ Y).length then none else some (X ++ m :: Y) := by
  have e : atS (X ++ Y) m = -1 := findI_no fun x hx => by
    rw [beq_eq_false_iff_ne]
    rcases List.mem_append.1 hx with h | h
    · have := h1 _ h; omega
    · have := h3 _ h; omega
  have ep : posS (X ++ Y) m = X.length := by
    unfold posS
    cases Y with
    | nil =>
      rw [findI_no fun x hx => by
        rw [List.append_nil] at hx
        have := h1 x hx
        rw [decide_eq_false_iff_not]; omega]
      simp
    | cons z Z =>
      rw [findI_skip (fun x hx => by have := h1 x hx; rw [decide_eq_false_iff_not]; omega) (by have := h3 z (List.mem_cons_self ..); rw [decide_eq_true_iff]; exact this)]
      rw [if_neg (by omega)]
      simp
  unfold goS
  rw [e, if_neg (by omega), ep]
  simp
end
/-- Both agree on a row that may be. -/
theorem goS_eq {L : List Mk} (m : Mk) (h : MayP L) : goS L m = goR L m := by
  rcases split_form m L h.2.2 with ⟨X, y, Y, rfl, h1, h2, h3⟩ | ⟨X, Y, rfl, h1, h3⟩
  · rw [goS_in h1 h2, goR, lastM_in h2 h3]
    simp only
    by_cases hs : y.s.toNat < m.s.toNat
    · rw [if_pos hs, if_neg (by omega), insR_in h1 h2 h3]
    · rw [if_neg hs, if_pos (by omega)]
  · rw [goS_out h1 h3, goR, lastM_out h1 h3]
    simp only
    rw [insR_out h1 h3]
theorem mayP_put {X Y : List Mk} {m : Mk} (hX : ∀ x ∈ X, x.may = true) (hY : ∀ x ∈ Y, x.may = true) (hm : m.may = true) (h1 : ∀ x ∈ X, x.p.toInt < m.p.toInt) (h3 : ∀ z ∈ Y, m.p.toInt < z.p.toInt)
    (pX : X.Pairwise fun a b => a.p.toInt < b.p.toInt) (pY : Y.Pairwise fun a b => a.p.toInt < b.p.toInt) (hl : X.length + Y.length < 6) : MayP (X ++ m :: Y) := by
  refine ⟨by simp; omega, fun x hx => ?_, ?_⟩
  · rcases List.mem_append.1 hx with h | h
    · exact hX x h
    · rcases List.mem_cons.1 h with h | h
      · exact h ▸ hm
      · exact hY x h
  · rw [List.pairwise_append, List.pairwise_cons]
    refine ⟨pX, ⟨h3, pY⟩, fun a ha b hb => ?_⟩
    have := h1 a ha
    rcases List.mem_cons.1 hb with h | h
    · rw [h]; exact this
    · have := h3 b h; omega
theorem goS_may {L L' : List Mk} {m : Mk} (h : MayP L) (hm : m.may = true) (hg : goS L m = some L') : MayP L' := by
  rcases split_form m L h.2.2 with ⟨X, y, Y, rfl, h1, h2, h3⟩ | ⟨X, Y, rfl, h1, h3⟩
  · rw [goS_in h1 h2] at hg
    injection hg with hg
    split at hg
    · subst hg
      have hp := h.2.2
      rw [List.pairwise_append, List.pairwise_cons] at hp
      have hl := h.1
      simp at hl
      exact mayP_put (fun x hx => h.2.1 x (by simp [hx])) (fun x hx => h.2.1 x (by simp [hx])) hm h1 h3 hp.1 hp.2.1.2 (by omega)
    · subst hg; exact h
  · rw [goS_out h1 h3] at hg
    split at hg
    · cases hg
    · rename_i hl
      injection hg with hg
      subst hg
      have hp := h.2.2
      rw [List.pairwise_append] at hp
      simp at hl
      exact mayP_put (fun x hx => h.2.1 x (by simp [hx])) (fun x hx => h.2.1 x (by simp [hx])) hm h1 h3 hp.1 hp.2.1 (by omega)
theorem goesS_eq : ∀ (more l : List Mk), MayP l → (∀ m ∈ more, m.may = true) → goesS l more = goesR l more ∧ ∀ L, goesS l more = some L → MayP L
  | [], l, h, _ => ⟨rfl, fun L hL => by injection hL with hL; exact hL ▸ h⟩
  | m :: more, l, h, hm => by
    have e : goesS l (m :: more) = more.foldl (fun o m => o.bind (goS · m)) (goS l m) := rfl
    have e2 : goesR l (m :: more) = more.foldl (fun o m => o.bind (goR · m)) (goR l m) := rfl
    rw [e, e2, ← goS_eq m h]
    cases hg : goS l m with
    | none => exact ⟨by rw [goesS_none, goesR_none], fun L hL => by rw [goesS_none] at hL; cases hL⟩
    | some l' => exact goesS_eq more l' (goS_may h (hm m (List.mem_cons_self ..)) hg) fun x hx => hm x (List.mem_cons_of_mem _ hx)
theorem mayB_P {ms : List Mk} : mayB ms = true ↔ MayP ms := by unfold mayB; rw [decide_eq_true_iff]
theorem addS_eq (ms : List Mk) (m : Mk) : addS ms m = addR ms m := by
  unfold addS addR
  cases h : mayB ms with
  | false => rfl
  | true =>
    have : goesS ms [m] = goS ms m := by unfold goesS; rfl
    rw [this, goS_eq m (mayB_P.1 h)]
theorem joinS_eq (a b : List Mk) : joinS a b = joinR a b := by
  unfold joinS joinR
  cases h : mayB a with
  | false => rfl
  | true =>
    cases h2 : mayB b with
    | false => rfl
    | true => rw [(goesS_eq b a (mayB_P.1 h) (mayB_P.1 h2).2.1).1]
theorem marksUp_may {fr : UInt64} {es : List En} (h1 : es.all En.may = true) (h2 : fitsB fr es.length = true) : ∀ m ∈ marksUp fr es es.length, m.may = true := by
  intro m hm
  obtain ⟨i, hi, rfl⟩ := List.mem_map.1 hm
  rw [List.mem_range] at hi
  rw [mkOf_at fr es hi]
  have h3 := List.all_eq_true.1 h1 _ (List.getElem_mem hi)
  unfold fitsB at h2
  rw [decide_eq_true_iff] at h2
  have h4 : fr.toNat + i ≤ 4611686018427387903 := by omega
  have h5 := off_at fr i h4
  unfold En.may at h3
  unfold Mk.may
  rw [decide_eq_true_iff] at h3 ⊢
  simp only
  refine ⟨h3.1, h3.2.1, h3.2.2.1, h3.2.2.2.1, by omega⟩
theorem takeS_eq (ms : List Mk) (fr : UInt64) (es : List En) : takeS ms fr es = takeR ms fr es := by
  unfold takeS takeR
  cases h : mayB ms with
  | false => rfl
  | true =>
    cases h1 : es.all En.may with
    | false => rfl
    | true =>
      cases h2 : fitsB fr es.length with
      | false => rfl
      | true => rw [(goesS_eq _ ms (mayB_P.1 h) (marksUp_may h1 h2)).1]
end Go.Proofs.Ytgdbknbpnlpdnaa
