/- Plain laws: what a row says of each producer; two rows alike; joined rows. -/
import Derived.Test.YtgdbknbpnlpdnaaSeenP
namespace Go.Proofs.Ytgdbknbpnlpdnaa
open Go.RowKit

/-- Two marks of one producer: the later one, of those alike the first. -/
def mg (o : Option Mk) (m : Mk) : Mk := match o with | none => m | some y => if y.s.toNat < m.s.toNat then m else y
def mr (a b : Option Mk) : Option Mk := match b with | none => a | some m => some (mg a m)
def upd (q : Int64) (o : Option Mk) (m : Mk) : Option Mk := if m.p.toInt = q.toInt then some (mg o m) else o
theorem mg_assoc (a b : Option Mk) (m : Mk) : mg (mr a b) m = mg a (mg b m) := by
  cases a with
  | none => cases b <;> rfl
  | some x =>
    cases b with
    | none => rfl
    | some y =>
      simp only [mr, mg]
      by_cases h1 : x.s.toNat < y.s.toNat <;> by_cases h2 : y.s.toNat < m.s.toNat <;> by_cases h3 : x.s.toNat < m.s.toNat <;> simp [h1, h2, h3] <;> omega
theorem upd_mr (q : Int64) (a b : Option Mk) (m : Mk) : upd q (mr a b) m = mr a (upd q b m) := by
  unfold upd
  split
  · rw [mg_assoc]; rfl
  · rfl
theorem fold_mr (q : Int64) (a : Option Mk) : ∀ (M : List Mk) (b : Option Mk), M.foldl (upd q) (mr a b) = mr a (M.foldl (upd q) b)
  | [], _ => rfl
  | m :: M, b => by
    rw [List.foldl_cons, List.foldl_cons, upd_mr, fold_mr q a M]
theorem fold_none (q : Int64) (a : Option Mk) (M : List Mk) : M.foldl (upd q) a = mr a (M.foldl (upd q) none) := by
  rw [← fold_mr]; rfl
theorem lastM_app (X Y : List Mk) (q : Int64) : lastM (X ++ Y) q = (lastM Y q).or (lastM X q) := by
  unfold lastM
  rw [List.reverse_append, List.find?_append]
theorem lastM_cons (y : Mk) (Y : List Mk) (q : Int64) : lastM (y :: Y) q = (lastM Y q).or (if y.p.toInt = q.toInt then some y else none) := by
  rw [show y :: Y = [y] ++ Y from rfl, lastM_app]
  congr 1
  unfold lastM
  by_cases h : y.p.toInt = q.toInt <;> simp [h]
theorem lastM_nil (q : Int64) : lastM [] q = none := rfl
theorem lastM_no {X : List Mk} {q : Int64} (h : ∀ x ∈ X, x.p.toInt ≠ q.toInt) : lastM X q = none := lastM_miss fun j hj => by
  rw [beq_eq_false_iff_ne]; exact h _ (List.getElem_mem hj)
theorem lastM_mem {X : List Mk} {q : Int64} {x : Mk} (h : lastM X q = some x) : x ∈ X ∧ x.p.toInt = q.toInt := by
  unfold lastM at h
  have h1 := List.mem_of_find?_eq_some h
  have h2 := List.find?_some h
  exact ⟨by simpa using h1, by simpa using h2⟩
theorem lastM_goS {L L' : List Mk} {m : Mk} (q : Int64) (h : MayP L) (hg : goS L m = some L') : lastM L' q = upd q (lastM L q) m := by
  rcases split_form m L h.2.2 with ⟨X, y, Y, rfl, h1, h2, h3⟩ | ⟨X, Y, rfl, h1, h3⟩
  · rw [goS_in h1 h2] at hg
    injection hg with hg
    unfold upd
    by_cases hq : m.p.toInt = q.toInt
    · rw [if_pos hq]
      have hy : lastM Y q = none := lastM_no fun z hz => by have := h3 z hz; omega
      have hl : lastM (X ++ y :: Y) q = some y := by
        rw [lastM_app, lastM_cons, hy, if_pos (by omega)]; rfl
      rw [hl]
      show _ = some (if y.s.toNat < m.s.toNat then m else y)
      split at hg
      · rename_i hs
        rw [if_pos hs, ← hg, lastM_app, lastM_cons, hy, if_pos hq]; rfl
      · rename_i hs
        rw [if_neg hs, ← hg, hl]
    · rw [if_neg hq]
      split at hg
      · rw [← hg, lastM_app, lastM_app, lastM_cons, lastM_cons, if_neg hq, if_neg (by omega)]
      · rw [← hg]
  · rw [goS_out h1 h3] at hg
    split at hg
    · cases hg
    · injection hg with hg
      unfold upd
      by_cases hq : m.p.toInt = q.toInt
      · rw [if_pos hq]
        have hy : lastM Y q = none := lastM_no fun z hz => by have := h3 z hz; omega
        have hx : lastM X q = none := lastM_no fun z hz => by have := h1 z hz; omega
        rw [← hg, lastM_app, lastM_app, lastM_cons, hy, hx, if_pos hq]; rfl
      · rw [if_neg hq, ← hg, lastM_app, lastM_app, lastM_cons, if_neg hq]
        simp
theorem lastM_goesS (q : Int64) : ∀ (more l R : List Mk), MayP l → (∀ m ∈ more, m.may = true) → goesS l more = some R → lastM R q = more.foldl (upd q) (lastM l q)
  | [], l, R, _, _, h => by
    have : l = R := by simpa [goesS] using h
    rw [this]; rfl
  | m :: more, l, R, hl, hm, h => by
    have e : goesS l (m :: more) = more.foldl (fun o m => o.bind (goS · m)) (goS l m) := rfl
    rw [e] at h
    cases hg : goS l m with
    | none => rw [hg, goesS_none] at h; cases h
    | some l' =>
      rw [hg] at h
      rw [List.foldl_cons, ← lastM_goS q hl hg]
      exact lastM_goesS q more l' R (goS_may hl (hm m (List.mem_cons_self ..)) hg) (fun x hx => hm x (List.mem_cons_of_mem _ hx)) h
theorem rises_at {L : List Mk} (h : L.Pairwise fun a b => a.p.toInt < b.p.toInt) {x : Mk} (hx : x ∈ L) : lastM L x.p = some x := by
  obtain ⟨i, hi, rfl⟩ := List.getElem_of_mem hx
  refine lastM_hit hi (by simp) fun j hj hij => ?_
  have := (List.pairwise_iff_getElem.1 h) i j hi hj hij
  rw [beq_eq_false_iff_ne]
  omega
/-- What is folded of a row that rises is what it says. -/
theorem fold_rises (q : Int64) : ∀ (L : List Mk), (L.Pairwise fun a b => a.p.toInt < b.p.toInt) → L.foldl (upd q) none = lastM L q
  | [], _ => rfl
  | x :: L, h => by
    rw [List.pairwise_cons] at h
    rw [List.foldl_cons, lastM_cons]
    by_cases hx : x.p.toInt = q.toInt
    · have hn : lastM L q = none := lastM_no fun z hz => by have := h.1 z hz; omega
      have hf : ∀ (M : List Mk) (o : Option Mk), (∀ z ∈ M, z.p.toInt ≠ q.toInt) → M.foldl (upd q) o = o := by
        intro M
        induction M with
        | nil => intro o _; rfl
        | cons z M ih =>
          intro o hz
          rw [List.foldl_cons, show upd q o z = o from if_neg (hz z (List.mem_cons_self ..))]
          exact ih o fun a ha => hz a (List.mem_cons_of_mem _ ha)
      rw [hf L _ fun z hz => by have := h.1 z hz; omega, hn, if_pos hx]
      unfold upd
      rw [if_pos hx]; rfl
    · rw [show upd q none x = none from if_neg hx, fold_rises q L h.2, if_neg hx]
      simp
theorem rises_ext : ∀ (A B : List Mk), (A.Pairwise fun a b => a.p.toInt < b.p.toInt) → (B.Pairwise fun a b => a.p.toInt < b.p.toInt) → (∀ x, x ∈ A ↔ x ∈ B) → A = B
  | [], [], _, _, _ => rfl
  | [], b :: B, _, _, h => absurd ((h b).2 (List.mem_cons_self ..)) (by simp)
  | a :: A, [], _, _, h => absurd ((h a).1 (List.mem_cons_self ..)) (by simp)
  | a :: A, b :: B, hA, hB, h => by
    rw [List.pairwise_cons] at hA hB
    have e : a = b := by
      rcases List.mem_cons.1 ((h a).1 (List.mem_cons_self ..)) with h1 | h1
      · exact h1
      · rcases List.mem_cons.1 ((h b).2 (List.mem_cons_self ..)) with h2 | h2
        · exact h2.symm
        · have := hB.1 a h1
          have := hA.1 b h2
          omega
    subst e
    rw [rises_ext A B hA.2 hB.2 fun x => ?_]
    have hx := h x
    simp only [List.mem_cons] at hx
    constructor
    · intro h1
      rcases hx.1 (.inr h1) with h2 | h2
      · subst h2; have := hA.1 x h1; omega
      · exact h2
    · intro h1
      rcases hx.2 (.inr h1) with h2 | h2
      · subst h2; have := hB.1 x h1; omega
      · exact h2
theorem mayP_ext {A B : List Mk} (hA : MayP A) (hB : MayP B) (h : ∀ q, lastM A q = lastM B q) : A = B := by
  refine rises_ext A B hA.2.2 hB.2.2 fun x => ⟨fun hx => ?_, fun hx => ?_⟩
  · have h1 := rises_at hA.2.2 hx
    rw [h] at h1
    exact (lastM_mem h1).1
  · have h1 := rises_at hB.2.2 hx
    rw [← h] at h1
    exact (lastM_mem h1).1
theorem len_le : ∀ (a b : List Int), a.Nodup → (∀ x ∈ a, x ∈ b) → a.length ≤ b.length
  | [], _, _, _ => Nat.zero_le _
  | x :: a, b, h, hs => by
    rw [List.nodup_cons] at h
    have hx := hs x (List.mem_cons_self ..)
    have h1 := len_le a (b.erase x) h.2 fun y hy => by
      have hne : y ≠ x := fun e => h.1 (e ▸ hy)
      exact (List.mem_erase_of_ne hne).2 (hs y (List.mem_cons_of_mem _ hy))
    rw [List.length_erase_of_mem hx] at h1
    have : 0 < b.length := List.length_pos_of_mem hx
    simp
    omega
theorem upd_some (q : Int64) (o : Option Mk) (m : Mk) : (upd q o m).isSome = true ↔ (o.isSome = true ∨ m.p.toInt = q.toInt) := by
  unfold upd
  split
  · rename_i h; simp [h]
  · rename_i h; simp [h]
theorem fold_some (q : Int64) : ∀ (M : List Mk) (o : Option Mk), (M.foldl (upd q) o).isSome = true ↔ (o.isSome = true ∨ ∃ m ∈ M, m.p.toInt = q.toInt)
  | [], o => by simp
  | m :: M, o => by
    rw [List.foldl_cons, fold_some q M, upd_some]
    simp only [List.mem_cons, exists_eq_or_imp]
    constructor
    · rintro ((h | h) | h)
      · exact .inl h
      · exact .inr (.inl h)
      · exact .inr (.inr h)
    · rintro (h | h | h)
      · exact .inl (.inl h)
      · exact .inl (.inr h)
      · exact .inr h
/-- There is room if some row that may be has all of the producers. -/
theorem room : ∀ (more l R : List Mk), MayP l → (∀ m ∈ more, m.may = true) → MayP R → (∀ q, ((lastM l q).isSome = true ∨ ∃ m ∈ more, m.p.toInt = q.toInt) → (lastM R q).isSome = true) → ∃ L, goesS l more = some L
  | [], l, _, _, _, _, _ => ⟨l, rfl⟩
  | m :: more, l, R, hl, hm, hR, hk => by
    have e : goesS l (m :: more) = more.foldl (fun o m => o.bind (goS · m)) (goS l m) := rfl
    rw [e]
    cases hg : goS l m with
    | none =>
      exfalso
      rcases split_form m l hl.2.2 with ⟨X, y, Y, rfl, h1, h2, h3⟩ | ⟨X, Y, rfl, h1, h3⟩
      · rw [goS_in h1 h2] at hg; cases hg
      · rw [goS_out h1 h3] at hg
        split at hg
        · rename_i h6
          have hnd : ((m :: (X ++ Y)).map fun x => x.p.toInt).Nodup := by
            rw [List.map_cons, List.nodup_cons]
            refine ⟨fun hmem => ?_, ?_⟩
            · obtain ⟨z, hz, hzp⟩ := List.mem_map.1 hmem
              rcases List.mem_append.1 hz with hz | hz
              · have := h1 z hz; omega
              · have := h3 z hz; omega
            · rw [List.nodup_iff_pairwise_ne, List.pairwise_map]
              exact hl.2.2.imp fun h => by omega
          have := len_le _ (R.map fun x => x.p.toInt) hnd fun v hv => by
            obtain ⟨z, hz, rfl⟩ := List.mem_map.1 hv
            have hz2 : (lastM R z.p).isSome = true := by
              rcases List.mem_cons.1 hz with rfl | hz
              · exact hk _ (.inr ⟨_, List.mem_cons_self .., rfl⟩)
              · exact hk _ (.inl (by rw [rises_at hl.2.2 hz]; rfl))
            obtain ⟨u, hu⟩ := Option.isSome_iff_exists.1 hz2
            obtain ⟨h5, h7⟩ := lastM_mem hu
            exact List.mem_map.2 ⟨u, h5, h7⟩
          have h8 := hR.1
          rw [List.length_map, List.length_map, List.length_cons] at this
          omega
        · cases hg
    | some l' =>
      refine room more l' R (goS_may hl (hm m (List.mem_cons_self ..)) hg) (fun x hx => hm x (List.mem_cons_of_mem _ hx)) hR fun q hq => hk q ?_
      rw [lastM_goS q hl hg, upd_some] at hq
      rcases hq with (h | h) | ⟨z, hz, h⟩
      · exact .inl h
      · exact .inr ⟨m, List.mem_cons_self .., h⟩
      · exact .inr ⟨z, List.mem_cons_of_mem _ hz, h⟩
theorem goesS_mayP {l more L : List Mk} (h : MayP l) (hm : ∀ m ∈ more, m.may = true) (hg : goesS l more = some L) : MayP L := (goesS_eq more l h hm).2 L hg
/-- A row joined with itself is it. -/
theorem join_self {l : List Mk} (h : MayP l) : goesS l l = some l := by
  obtain ⟨L, hL⟩ := room l l l h h.2.1 h fun q hq => by
    rcases hq with h1 | ⟨m, hm, hp⟩
    · exact h1
    · have h2 := rises_at h.2.2 hm
      have : lastM l q = lastM l m.p := by unfold lastM; rw [hp]
      rw [this, h2]; rfl
  rw [hL]
  congr 1
  refine mayP_ext (goesS_mayP h h.2.1 hL) h fun q => ?_
  rw [lastM_goesS q l l L h h.2.1 hL, fold_none, fold_rises q l h.2.2]
  cases lastM l q with
  | none => rfl
  | some m => simp [mr, mg]
/-- A row into which others' row is joined: as if each of theirs went in by itself. -/
theorem join_alone {one B alone all : List Mk} (h1 : MayP one) (hB : ∀ m ∈ B, m.may = true) (ha : goesS [] B = some alone) (hall : goesS one B = some all) : goesS one alone = some all := by
  have h0 : MayP [] := ⟨by simp, fun m hm => (by cases hm), List.Pairwise.nil⟩
  have pa := goesS_mayP h0 hB ha
  have pall := goesS_mayP h1 hB hall
  have la : ∀ q, lastM alone q = B.foldl (upd q) none := fun q => lastM_goesS q B [] alone h0 hB ha
  have lall : ∀ q, lastM all q = B.foldl (upd q) (lastM one q) := fun q => lastM_goesS q B one all h1 hB hall
  obtain ⟨L, hL⟩ := room alone one all h1 pa.2.1 pall fun q hq => by
    rw [lall, fold_some]
    rcases hq with h | ⟨m, hm, hp⟩
    · exact .inl h
    · have h2 := rises_at pa.2.2 hm
      have h3 : lastM alone q = some m := by rw [← h2]; unfold lastM; rw [hp]
      have h4 : (lastM alone q).isSome = true := by rw [h3]; rfl
      rw [la, fold_some] at h4
      rcases h4 with h | h
      · cases h
      · exact .inr h
  rw [hL]
  congr 1
  refine mayP_ext (goesS_mayP h1 pa.2.1 hL) pall fun q => ?_
  rw [lastM_goesS q alone one L h1 pa.2.1 hL, fold_none, fold_rises q alone pa.2.2, la, lall, ← fold_none]
theorem key_some {L : List Mk} {q : Int64} {m : Mk} (h : L.Pairwise fun a b => a.p.toInt < b.p.toInt) (hm : m ∈ L) (hp : m.p.toInt = q.toInt) : lastM L q = some m := by
  have h2 := rises_at h hm
  rw [← h2]
  unfold lastM
  rw [hp]
theorem lastM_join {a b L : List Mk} (q : Int64) (ha : MayP a) (hb : MayP b) (h : goesS a b = some L) : lastM L q = mr (lastM a q) (lastM b q) := by
  rw [lastM_goesS q b a L ha hb.2.1 h, fold_none, fold_rises q b hb.2.2]
theorem mr_assoc (a b c : Option Mk) : mr (mr a b) c = mr a (mr b c) := by
  cases c with
  | none => rfl
  | some m =>
    show some (mg (mr a b) m) = some (mg a (mg b m))
    rw [mg_assoc]
theorem mr_some (a b : Option Mk) : (mr a b).isSome = true ↔ (a.isSome = true ∨ b.isSome = true) := by
  cases a <;> cases b <;> simp [mr]
/-- Three rows, joined the first two ahead, or the last two. -/
theorem join_three {a b c ab bc : List Mk} (ha : MayP a) (hb : MayP b) (hc : MayP c) (h1 : goesS a b = some ab) (h2 : goesS b c = some bc) : goesS ab c = goesS a bc := by
  have pab := goesS_mayP ha hb.2.1 h1
  have pbc := goesS_mayP hb hc.2.1 h2
  have keysin : ∀ (L : List Mk) (q : Int64) (hL : MayP L), (∃ m ∈ L, m.p.toInt = q.toInt) → (lastM L q).isSome = true := fun L q hL ⟨m, hm, hp⟩ => by rw [key_some hL.2.2 hm hp]; rfl
  cases hx : goesS ab c with
  | some x =>
    have px := goesS_mayP pab hc.2.1 hx
    have lx : ∀ q, lastM x q = mr (mr (lastM a q) (lastM b q)) (lastM c q) := fun q => by rw [lastM_join q pab hc hx, lastM_join q ha hb h1]
    obtain ⟨y, hy⟩ := room bc a x ha pbc.2.1 px fun q hq => by
      rw [lx, mr_some, mr_some]
      rcases hq with h | h
      · exact .inl (.inl h)
      · have h3 := keysin bc q pbc h
        rw [lastM_join q hb hc h2, mr_some] at h3
        rcases h3 with h | h
        · exact .inl (.inr h)
        · exact .inr h
    rw [hy]
    congr 1
    refine mayP_ext px (goesS_mayP ha pbc.2.1 hy) fun q => ?_
    rw [lx, lastM_join q ha pbc hy, lastM_join q hb hc h2, mr_assoc]
  | none =>
    cases hy : goesS a bc with
    | none => rfl
    | some y =>
      exfalso
      have py := goesS_mayP ha pbc.2.1 hy
      obtain ⟨x, hx2⟩ := room c ab y pab hc.2.1 py fun q hq => by
        rw [lastM_join q ha pbc hy, lastM_join q hb hc h2, mr_some, mr_some]
        rcases hq with h | h
        · rw [lastM_join q ha hb h1, mr_some] at h
          rcases h with h | h
          · exact .inl h
          · exact .inr (.inl h)
        · exact .inr (.inr (keysin c q hc h))
      rw [hx] at hx2
      cases hx2
/-- Each producer's mark in the three joined. -/
theorem three_marks {a b c ab x : List Mk} (ha : MayP a) (hb : MayP b) (hc : MayP c) (h1 : goesS a b = some ab) (hx : goesS ab c = some x) :
    (∀ m, (m ∈ a ∨ m ∈ b ∨ m ∈ c) → ∃ y, lastM x m.p = some y ∧ m.s.toNat ≤ y.s.toNat) ∧ ∀ m ∈ a, ∀ y, lastM x m.p = some y → y.s = m.s → y = m := by
  have pab := goesS_mayP ha hb.2.1 h1
  have lx : ∀ q, lastM x q = mr (mr (lastM a q) (lastM b q)) (lastM c q) := fun q => by rw [lastM_join q pab hc hx, lastM_join q ha hb h1]
  have mge : ∀ (o : Option Mk) (m : Mk), m.s.toNat ≤ (mg o m).s.toNat := fun o m => by
    cases o with
    | none => exact Nat.le_refl _
    | some y => simp only [mg]; split <;> omega
  have mro : ∀ (o : Option Mk) (z : Mk) (p : Option Mk), o = some z → ∃ y, mr o p = some y ∧ z.s.toNat ≤ y.s.toNat := fun o z p h => by
    subst h
    cases p with
    | none => exact ⟨z, rfl, Nat.le_refl _⟩
    | some m => exact ⟨_, rfl, by simp only [mg]; split <;> omega⟩
  refine ⟨fun m hm => ?_, fun m hm y hy hs => ?_⟩
  · rw [lx]
    rcases hm with hm | hm | hm
    · obtain ⟨y, hy, hs⟩ := mro _ m (lastM b m.p) (rises_at ha.2.2 hm)
      obtain ⟨z, hz, hs2⟩ := mro _ y (lastM c m.p) hy
      exact ⟨z, hz, by omega⟩
    · rw [rises_at hb.2.2 hm]
      obtain ⟨z, hz, hs2⟩ := mro (mr (lastM a m.p) (some m)) (mg (lastM a m.p) m) (lastM c m.p) rfl
      exact ⟨z, hz, Nat.le_trans (mge _ _) hs2⟩
    · rw [rises_at hc.2.2 hm]
      exact ⟨_, rfl, mge _ _⟩
  · rw [lx, rises_at ha.2.2 hm] at hy
    have hs' : y.s.toNat = m.s.toNat := by rw [hs]
    cases hB : lastM b m.p with
    | none =>
      rw [hB] at hy
      cases hC : lastM c m.p with
      | none => rw [hC] at hy; simpa [mr] using hy.symm
      | some z =>
        rw [hC] at hy
        simp only [mr, mg, Option.some.injEq] at hy
        split at hy
        · subst hy; omega
        · exact hy.symm
    | some u =>
      rw [hB] at hy
      cases hC : lastM c m.p with
      | none =>
        rw [hC] at hy
        simp only [mr, mg, Option.some.injEq] at hy
        split at hy
        · subst hy; omega
        · exact hy.symm
      | some z =>
        rw [hC] at hy
        simp only [mr, mg, Option.some.injEq] at hy
        split at hy <;> split at hy
        all_goals first | (exact hy.symm) | (subst hy; omega)
end Go.Proofs.Ytgdbknbpnlpdnaa
