/- Folding rows of marks: plain. -/
import Derived.Test.YtgdbknbpnlpdnaaSeenH
namespace Go.Proofs.Ytgdbknbpnlpdnaa
set_option linter.unusedVariables false
set_option linter.unusedSimpArgs false
open Go.RowKit

theorem snoc_of {α : Type} {M : List α} {n : Nat} (h : M.length = n + 1) : ∃ A m, M = A ++ [m] := by
  rcases List.eq_nil_or_concat M with rfl | ⟨A, m, rfl⟩
  · cases h
  · exact ⟨A, m, List.concat_eq_append⟩
/-- A mark comes: its producer's older one goes. -/
def stepF (out : List Mk) (m : Mk) : List Mk := (out.filter fun x => !(x.p.toInt == m.p.toInt)) ++ [m]
def foldF (M : List Mk) : List Mk := M.foldl stepF []
theorem foldF_nil : foldF [] = [] := rfl
theorem foldF_snoc (M : List Mk) (m : Mk) : foldF (M ++ [m]) = stepF (foldF M) m := by
  unfold foldF
  rw [List.foldl_append]
  rfl
theorem foldF_len : ∀ (n : Nat) (M : List Mk), M.length = n → (foldF M).length ≤ M.length
  | 0, M, h => by rw [List.eq_nil_of_length_eq_zero h]; exact Nat.le_refl _
  | n + 1, M, h => by
    obtain ⟨A, m, rfl⟩ : ∃ A m, M = A ++ [m] := snoc_of h
    have ih := foldF_len n A (by simpa using h)
    rw [foldF_snoc]
    unfold stepF
    have := List.length_filter_le (fun x : Mk => !(x.p.toInt == m.p.toInt)) (foldF A)
    simp only [List.length_append, List.length_cons, List.length_nil]
    omega
/-- The last one of its producer. -/
def LastIn (M : List Mk) (x : Mk) : Prop := ∃ A B, M = A ++ x :: B ∧ ∀ y ∈ B, y.p.toInt ≠ x.p.toInt
theorem LastIn.mem {M : List Mk} {x : Mk} (h : LastIn M x) : x ∈ M := by
  obtain ⟨A, B, rfl, _⟩ := h
  simp
theorem lastIn_snoc {M : List Mk} {m x : Mk} : LastIn (M ++ [m]) x ↔ x = m ∨ (LastIn M x ∧ m.p.toInt ≠ x.p.toInt) := by
  constructor
  · rintro ⟨A, B, e, h⟩
    rcases List.eq_nil_or_concat B with rfl | ⟨B', b, rfl⟩
    · have := List.append_inj' e rfl
      exact .inl (by injection this.2 with h; exact h.symm)
    · have e2 : M ++ [m] = (A ++ x :: B') ++ [b] := by rw [e]; simp
      obtain ⟨e3, e4⟩ := List.append_inj' e2 rfl
      injection e4 with e4
      subst e4
      refine .inr ⟨⟨A, B', e3, fun y hy => h y (by simp [hy])⟩, h m (by simp)⟩
  · rintro (rfl | ⟨⟨A, B, rfl, h⟩, hm⟩)
    · exact ⟨M, [], rfl, fun y hy => by cases hy⟩
    · refine ⟨A, B ++ [m], by simp, fun y hy => ?_⟩
      rcases List.mem_append.1 hy with hy | hy
      · exact h y hy
      · rw [List.mem_singleton.1 hy]; exact hm
theorem foldF_mem : ∀ (n : Nat) (M : List Mk), M.length = n → ∀ x, x ∈ foldF M ↔ LastIn M x
  | 0, M, h, x => by
    obtain rfl := List.eq_nil_of_length_eq_zero h
    constructor
    · intro h; cases h
    · intro h; exact absurd h.mem (by simp)
  | n + 1, M, h, x => by
    obtain ⟨A, m, rfl⟩ : ∃ A m, M = A ++ [m] := snoc_of h
    have ih := foldF_mem n A (by simpa using h)
    rw [foldF_snoc, lastIn_snoc]
    unfold stepF
    rw [List.mem_append, List.mem_filter, ih x, List.mem_singleton]
    simp only [Bool.not_eq_true', beq_eq_false_iff_ne, ne_eq]
    constructor
    · rintro (⟨h1, h2⟩ | h1)
      · exact .inr ⟨h1, fun e => h2 e.symm⟩
      · exact .inl h1
    · rintro (h1 | ⟨h1, h2⟩)
      · exact .inr h1
      · exact .inl ⟨h1, fun e => h2 e.symm⟩
theorem foldF_apart : ∀ (n : Nat) (M : List Mk), M.length = n → (foldF M).Pairwise fun a b => a.p.toInt ≠ b.p.toInt
  | 0, M, h => by rw [List.eq_nil_of_length_eq_zero h]; exact List.Pairwise.nil
  | n + 1, M, h => by
    obtain ⟨A, m, rfl⟩ : ∃ A m, M = A ++ [m] := snoc_of h
    have ih := foldF_apart n A (by simpa using h)
    rw [foldF_snoc]
    unfold stepF
    rw [List.pairwise_append]
    refine ⟨ih.filter _, List.pairwise_singleton _ _, fun a ha b hb => ?_⟩
    rw [List.mem_singleton.1 hb]
    have := (List.mem_filter.1 ha).2
    simpa using this
/-- Rows that rise are the same if they have the same marks. -/
theorem rise_ext : ∀ {l l' : List Mk}, (l.Pairwise fun a b => a.p.toInt < b.p.toInt) → (l'.Pairwise fun a b => a.p.toInt < b.p.toInt) → (∀ x, x ∈ l ↔ x ∈ l') → l = l'
  | [], [], _, _, _ => rfl
  | [], b :: l', _, _, h => absurd ((h b).2 (by simp)) (by simp)
  | a :: l, [], _, _, h => absurd ((h a).1 (by simp)) (by simp)
  | a :: l, b :: l', h1, h2, h => by
    rw [List.pairwise_cons] at h1 h2
    have hab : a = b := by
      have ha := (h a).1 (by simp)
      have hb := (h b).2 (by simp)
      rcases List.mem_cons.1 ha with e | ha
      · exact e
      · rcases List.mem_cons.1 hb with e | hb
        · exact e.symm
        · have := h2.1 a ha
          have := h1.1 b hb
          omega
    subst hab
    rw [rise_ext h1.2 h2.2 fun x => ?_]
    constructor
    · intro hx
      rcases List.mem_cons.1 ((h x).1 (by simp [hx])) with e | hx'
      · subst e
        have := h1.1 x hx
        omega
      · exact hx'
    · intro hx
      rcases List.mem_cons.1 ((h x).2 (by simp [hx])) with e | hx'
      · subst e
        have := h2.1 x hx
        omega
      · exact hx'
/-- A row is the fold of M. -/
structure FoldOf (M out : List Mk) : Prop where
  rise : out.Pairwise fun a b => a.p.toInt < b.p.toInt
  mem : ∀ x, x ∈ out ↔ LastIn M x
theorem FoldOf.unique {M out out' : List Mk} (h : FoldOf M out) (h' : FoldOf M out') : out = out' := rise_ext h.rise h'.rise fun x => (h.mem x).trans (h'.mem x).symm
theorem foldF_sorted {M S : List Mk} (hp : S.Perm (foldF M)) (hs : S.Pairwise fun a b => a.p.toInt ≤ b.p.toInt) : FoldOf M S := by
  refine ⟨?_, fun x => (hp.mem_iff).trans (foldF_mem _ M rfl x)⟩
  have hn : S.Pairwise fun a b => a.p.toInt ≠ b.p.toInt := (hp.pairwise_iff (fun h => Ne.symm h)).2 (foldF_apart _ M rfl)
  exact (List.pairwise_and_iff.2 ⟨hs, hn⟩).imp fun ⟨h1, h2⟩ => by omega
/- The document's way: out is what is told so far; the next one is the last one of the least producer behind it. -/
def behindB (out : List Mk) (x : Mk) : Bool := decide (out.length = 0) || decide ((match out.getLast? with | some y => y.p.toInt | none => 0) < x.p.toInt)
/-- Number k is what is told next, of the first i. -/
structure PickI (M out : List Mk) (i : Nat) (k : Int) : Prop where
  none_ : k = -1 → ∀ j (h : j < M.length), j < i → behindB out M[j] = false
  some_ : k ≠ -1 → ∃ n : Nat, k = (n : Int) ∧ n < i ∧ ∃ h : n < M.length, behindB out M[n] = true ∧ ∀ j (hj : j < M.length), j < i → behindB out M[j] = true → M[n].p.toInt ≤ M[j].p.toInt ∧ (n < j → M[n].p.toInt < M[j].p.toInt)
theorem PickI.zero (M out : List Mk) : PickI M out 0 (-1) := ⟨fun _ j _ h => absurd h (Nat.not_lt_zero _), fun h => absurd rfl h⟩
theorem PickI.skip {M out : List Mk} {i : Nat} {k : Int} (h : PickI M out i k) (hi : i < M.length) (hb : behindB out M[i] = false) : PickI M out (i + 1) k := by
  refine ⟨fun e j hj hji => ?_, fun e => ?_⟩
  · by_cases ej : j = i
    · subst ej; exact hb
    · exact h.none_ e j hj (by omega)
  · obtain ⟨n, h1, h2, h3, h4, h5⟩ := h.some_ e
    refine ⟨n, h1, by omega, h3, h4, fun j hj hji hbj => ?_⟩
    by_cases ej : j = i
    · subst ej; rw [hb] at hbj; cases hbj
    · exact h5 j hj (by omega) hbj
theorem PickI.keep {M out : List Mk} {i n : Nat} (h : PickI M out i n) (hi : i < M.length) (hn : n < M.length) (hlt : M[n].p.toInt < M[i].p.toInt) : PickI M out (i + 1) n := by
  obtain ⟨n', h1, h2, h3, h4, h5⟩ := h.some_ (by omega)
  obtain rfl : n' = n := by omega
  refine ⟨fun e => by omega, fun _ => ⟨n', rfl, by omega, hn, h4, fun j hj hji hbj => ?_⟩⟩
  by_cases ej : j = i
  · subst ej
    exact ⟨by omega, fun _ => hlt⟩
  · exact h5 j hj (by omega) hbj
theorem PickI.take {M out : List Mk} {i : Nat} {k : Int} (h : PickI M out i k) (hi : i < M.length) (hb : behindB out M[i] = true) (hk : k ≠ -1 → ∃ n : Nat, k = (n : Int) ∧ ∃ hn : n < M.length, M[i].p.toInt ≤ M[n].p.toInt) : PickI M out (i + 1) i := by
  refine ⟨fun e => by omega, fun _ => ⟨i, rfl, by omega, hi, hb, fun j hj hji hbj => ?_⟩⟩
  by_cases ej : j = i
  · subst ej
    exact ⟨Int.le_refl _, fun h => absurd h (Nat.lt_irrefl _)⟩
  · refine ⟨?_, fun h => by omega⟩
    by_cases e : k = -1
    · have := h.none_ e j hj (by omega)
      rw [hbj] at this
      cases this
    · obtain ⟨n, h1, h2, h3, h4, h5⟩ := h.some_ e
      obtain ⟨n', h6, hn', h7⟩ := hk e
      obtain rfl : n' = n := by omega
      have := (h5 j hj (by omega) hbj).1
      omega
/-- What is told so far. -/
structure Told (M out : List Mk) : Prop where
  rise : out.Pairwise fun a b => a.p.toInt < b.p.toInt
  last : ∀ x ∈ out, LastIn M x
  all : ∀ x, LastIn M x → behindB out x = false → x ∈ out
theorem behind_nil (x : Mk) : behindB [] x = true := rfl
theorem behind_snoc (out : List Mk) (y x : Mk) : behindB (out ++ [y]) x = decide (y.p.toInt < x.p.toInt) := by
  unfold behindB
  rw [List.getLast?_concat]
  simp
theorem Told.nil (M : List Mk) : Told M [] := ⟨List.Pairwise.nil, fun x h => (by cases h), fun x _ h => (by cases h)⟩
theorem lastIn_at {M : List Mk} {n : Nat} (hn : n < M.length) (h : ∀ j (hj : j < M.length), n < j → M[j].p.toInt ≠ M[n].p.toInt) : LastIn M M[n] := by
  refine ⟨M.take n, M.drop (n + 1), ?_, fun y hy => ?_⟩
  · rw [← List.drop_eq_getElem_cons hn, List.take_append_drop]
  · obtain ⟨i, hi, rfl⟩ := List.getElem_of_mem hy
    rw [List.length_drop] at hi
    rw [List.getElem_drop]
    exact h (n + 1 + i) (by omega) (by omega)
theorem lastIn_unique : ∀ (n : Nat) (M : List Mk), M.length = n → ∀ {x y : Mk}, LastIn M x → LastIn M y → x.p.toInt = y.p.toInt → x = y
  | 0, M, h, x, y, hx, _, _ => by
    obtain rfl := List.eq_nil_of_length_eq_zero h
    exact absurd hx.mem (by simp)
  | n + 1, M, h, x, y, hx, hy, e => by
    obtain ⟨A, m, rfl⟩ : ∃ A m, M = A ++ [m] := snoc_of h
    rw [lastIn_snoc] at hx hy
    rcases hx with rfl | ⟨hx, h1⟩
    · rcases hy with rfl | ⟨_, h2⟩
      · rfl
      · exact absurd e h2
    · rcases hy with rfl | ⟨hy, _⟩
      · exact absurd e.symm h1
      · exact lastIn_unique n A (by simpa using h) hx hy e
theorem behind_last {out : List Mk} {x : Mk} (hr : out.Pairwise fun a b => a.p.toInt < b.p.toInt) (h : behindB out x = true) : ∀ a ∈ out, a.p.toInt < x.p.toInt := by
  intro a ha
  rcases List.eq_nil_or_concat out with rfl | ⟨A, y, rfl⟩
  · cases ha
  · rw [List.concat_eq_append] at *
    rw [behind_snoc] at h
    have h := of_decide_eq_true h
    rcases List.mem_append.1 ha with ha | ha
    · have := (List.pairwise_append.1 hr).2.2 a ha y (by simp)
      omega
    · rw [List.mem_singleton.1 ha]; exact h
theorem behind_not {out : List Mk} {x y : Mk} (hx : behindB out x = true) (hy : behindB out y = false) : y.p.toInt < x.p.toInt := by
  rcases List.eq_nil_or_concat out with rfl | ⟨A, z, rfl⟩
  · rw [behind_nil] at hy; cases hy
  · rw [List.concat_eq_append, behind_snoc] at hx hy
    have := of_decide_eq_true hx
    have := of_decide_eq_false hy
    omega
theorem Told.step {M out : List Mk} (h : Told M out) {n : Nat} (hp : PickI M out M.length n) (hn : n < M.length) : Told M (out ++ [M[n]]) := by
  obtain ⟨n', h1, _, _, h4, h5⟩ := hp.some_ (by omega)
  obtain rfl : n' = n := by omega
  have hl : LastIn M M[n'] := lastIn_at hn fun j hj hnj => by
    cases hb : behindB out M[j]
    · have := behind_not h4 hb
      omega
    · have := (h5 j hj hj hb).2 hnj
      omega
  refine ⟨?_, fun x hx => ?_, fun x hx hb => ?_⟩
  · rw [List.pairwise_append]
    refine ⟨h.rise, List.pairwise_singleton _ _, fun a ha b hb => ?_⟩
    rw [List.mem_singleton.1 hb]
    exact behind_last h.rise h4 a ha
  · rcases List.mem_append.1 hx with hx | hx
    · exact h.last x hx
    · rw [List.mem_singleton.1 hx]; exact hl
  · rw [behind_snoc] at hb
    have hb := of_decide_eq_false hb
    rw [List.mem_append, List.mem_singleton]
    cases hx2 : behindB out x
    · exact .inl (h.all x hx hx2)
    · obtain ⟨j, hj, e⟩ := List.getElem_of_mem hx.mem
      subst e
      have := (h5 j hj hj hx2).1
      exact .inr (lastIn_unique _ M rfl hx hl (by omega))
theorem Told.done {M out : List Mk} (h : Told M out) (hp : PickI M out M.length (-1)) : FoldOf M out := ⟨h.rise, fun x => ⟨h.last x, fun hx => by
  obtain ⟨j, hj, e⟩ := List.getElem_of_mem hx.mem
  subst e
  exact h.all _ hx (hp.none_ rfl j hj hj)⟩⟩
/-- So many are not told yet: less each time. -/
def restF (M out : List Mk) : Nat := (M.filter fun x => behindB out x).length
theorem filter_lt {α : Type} {p q : α → Bool} : ∀ {l : List α}, (∀ x ∈ l, q x = true → p x = true) → (∃ x ∈ l, p x = true ∧ q x = false) → (l.filter q).length < (l.filter p).length
  | [], _, ⟨x, h, _⟩ => by cases h
  | a :: l, h, ⟨x, hx, h1, h2⟩ => by
    have hle : (l.filter q).length ≤ (l.filter p).length := by
      rw [← List.countP_eq_length_filter, ← List.countP_eq_length_filter]
      exact List.countP_mono_left fun x hx hq => h x (by simp [hx]) hq
    rcases List.mem_cons.1 hx with rfl | hx
    · rw [List.filter_cons_of_neg (by rw [h2]; decide), List.filter_cons_of_pos h1, List.length_cons]
      omega
    · have ih := filter_lt (l := l) (fun x hx => h x (by simp [hx])) ⟨x, hx, h1, h2⟩
      by_cases hq : q a = true
      · rw [List.filter_cons_of_pos hq, List.filter_cons_of_pos (h a (by simp) hq), List.length_cons, List.length_cons]
        omega
      · rw [List.filter_cons_of_neg hq]
        by_cases hpa : p a = true
        · rw [List.filter_cons_of_pos hpa, List.length_cons]; omega
        · rw [List.filter_cons_of_neg hpa]; exact ih
theorem restF_step {M out : List Mk} {n : Nat} (hp : PickI M out M.length n) (hn : n < M.length) : restF M (out ++ [M[n]]) < restF M out := by
  obtain ⟨n', h1, _, _, h4, h5⟩ := hp.some_ (by omega)
  obtain rfl : n' = n := by omega
  refine filter_lt (fun x hx hq => ?_) ⟨M[n'], List.getElem_mem hn, h4, ?_⟩
  · rw [behind_snoc] at hq
    have hq := of_decide_eq_true hq
    cases hb : behindB out x
    · have := behind_not h4 hb
      omega
    · rfl
  · rw [behind_snoc]
    exact decide_eq_false (Int.lt_irrefl _)
theorem restF_le (M out : List Mk) : restF M out ≤ M.length := List.length_filter_le _ _
end Go.Proofs.Ytgdbknbpnlpdnaa
