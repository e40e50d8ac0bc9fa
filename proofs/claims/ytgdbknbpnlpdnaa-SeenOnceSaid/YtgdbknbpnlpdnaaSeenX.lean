/- Plain laws of SeenOnce. -/
import Derived.Test.YtgdbknbpnlpdnaaSeenW
namespace Go.Proofs.Ytgdbknbpnlpdnaa
open Go.RowKit

/-- The row says of each producer what the log says. -/
def LastOk (M : List Mk) (G : List En) : Prop :=
  ∀ q : Int64, (lastM M q = none → ∀ x ∈ G, x.p.toInt ≠ q.toInt) ∧
    (∀ m, lastM M q = some m → ∃ j, ∃ hj : j < G.length, G[j].p.toInt = q.toInt ∧ m.s = G[j].s ∧ m.o.toNat = j ∧ ∀ x ∈ G, x.p.toInt = q.toInt → x.s.toNat ≤ m.s.toNat)
theorem lastOk_nil : LastOk [] [] := fun q => ⟨fun _ x hx => (by cases hx), fun m hm => (by cases hm)⟩
theorem goS_none {L : List Mk} {m : Mk} (h : MayP L) (hg : goS L m = none) : 6 ≤ L.length ∧ lastM L m.p = none := by
  rcases split_form m L h.2.2 with ⟨X, y, Y, rfl, h1, h2, h3⟩ | ⟨X, Y, rfl, h1, h3⟩
  · rw [goS_in h1 h2] at hg; cases hg
  · rw [goS_out h1 h3] at hg
    split at hg
    · rename_i h6; exact ⟨h6, lastM_out h1 h3⟩
    · cases hg
def mkE (e : En) (n : Nat) : Mk := ⟨e.p, e.s, UInt64.ofNat n + UInt64.ofNat 0⟩
theorem mkE_o (e : En) {n : Nat} (hn : n ≤ 10000) : (mkE e n).o.toNat = n := by
  unfold mkE
  simp only
  rw [UInt64.toNat_add, UInt64.toNat_ofNat', UInt64.toNat_ofNat']
  omega
theorem take_one {M : List Mk} {e : En} {n : Nat} (h : MayP M) (he : e.may = true) (hn : n ≤ 10000) : takeS M (UInt64.ofNat n) [e] = some (goS M (mkE e n)) := by
  unfold takeS
  have h1 : fitsB (UInt64.ofNat n) [e].length = true := by
    unfold fitsB
    rw [decide_eq_true_iff, UInt64.toNat_ofNat']
    simp
    omega
  rw [mayB_P.2 h, h1]
  simp [he]
  rfl
theorem mkE_may {e : En} {n : Nat} (he : e.may = true) (hn : n ≤ 10000) : (mkE e n).may = true := by
  have h2 := mkE_o e hn
  unfold En.may at he
  unfold Mk.may
  rw [decide_eq_true_iff] at he ⊢
  refine ⟨he.1, he.2.1, he.2.2.1, he.2.2.2.1, by omega⟩
/-- A new message goes in. -/
theorem lastOk_new {M M' : List Mk} {G : List En} {e : En} (hM : MayP M) (h : LastOk M G) (hn : G.length ≤ 10000) (hg : goS M (mkE e G.length) = some M')
    (hnew : ∀ x ∈ G, x.p.toInt = e.p.toInt → x.s.toNat < e.s.toNat) (hlast : ∀ m, lastM M e.p = some m → m.s.toNat < e.s.toNat) : LastOk M' (G ++ [e]) := by
  intro q
  have hl := lastM_goS q hM hg
  by_cases hq : e.p.toInt = q.toInt
  · have hqe : lastM M q = lastM M e.p := by unfold lastM; rw [hq]
    have : lastM M' q = some (mkE e G.length) := by
      rw [hl]
      unfold upd
      rw [if_pos (by exact hq)]
      congr 1
      rw [hqe]
      cases hc : lastM M e.p with
      | none => rfl
      | some m => exact if_pos (hlast m hc)
    rw [this]
    refine ⟨fun h => (by cases h), fun m hm => ?_⟩
    injection hm with hm
    subst hm
    refine ⟨G.length, by simp, by simpa using hq, by simp [mkE], mkE_o e hn, fun x hx hxp => ?_⟩
    show x.s.toNat ≤ e.s.toNat
    rcases List.mem_append.1 hx with hx | hx
    · have := hnew x hx (by omega); omega
    · simp at hx; subst hx; exact Nat.le_refl _
  · have : lastM M' q = lastM M q := by
      rw [hl]
      unfold upd
      rw [if_neg (by exact hq)]
    rw [this]
    obtain ⟨h1, h2⟩ := h q
    refine ⟨fun hnone x hx => ?_, fun m hm => ?_⟩
    · rcases List.mem_append.1 hx with hx | hx
      · exact h1 hnone x hx
      · simp at hx; subst hx; exact hq
    · obtain ⟨j, hj, e1, e2, e3, e4⟩ := h2 m hm
      refine ⟨j, by rw [List.length_append]; omega, by rw [List.getElem_append_left hj]; exact e1, by rw [List.getElem_append_left hj]; exact e2, e3, fun x hx hxp => ?_⟩
      rcases List.mem_append.1 hx with hx | hx
      · exact e4 x hx hxp
      · simp at hx; subst hx; exact absurd hxp hq
/-- Is there a later one among the first k? -/
def laterB (G : List En) (e : En) (k : Nat) : Bool := (G.take k).any fun x => decide (x.p.toInt = e.p.toInt ∧ e.s.toNat < x.s.toNat)
theorem laterB_zero (G : List En) (e : En) : laterB G e 0 = false := by simp [laterB]
theorem laterB_succ {G : List En} {e : En} {k : Nat} (hk : k < G.length) : laterB G e (k + 1) = (laterB G e k || decide (G[k].p.toInt = e.p.toInt ∧ e.s.toNat < G[k].s.toNat)) := by
  unfold laterB
  rw [List.take_succ_eq_append_getElem hk, List.any_append]
  simp
theorem laterB_no {G : List En} {e : En} {k : Nat} (h : ∀ x ∈ G, x.p.toInt = e.p.toInt → x.s.toNat ≤ e.s.toNat) : laterB G e k = false := by
  unfold laterB
  rw [List.any_eq_false]
  intro x hx
  have := h x (List.mem_of_mem_take hx)
  simp
  omega
theorem laterB_yes {G : List En} {e : En} {j : Nat} (hj : j < G.length) (h1 : G[j].p.toInt = e.p.toInt) (h2 : e.s.toNat < G[j].s.toNat) : laterB G e G.length = true := by
  unfold laterB
  rw [List.take_length, List.any_eq_true]
  exact ⟨_, List.getElem_mem hj, by simp [h1, h2]⟩
/-- What a message is told, and why. -/
inductive Told (M : List Mk) (G : List En) (e : En) : Int → UInt64 → Prop
  | new (h : ∀ x ∈ G, x.p.toInt = e.p.toInt → x.s.toNat < e.s.toNat) (h2 : ∀ m, lastM M e.p = some m → m.s.toNat < e.s.toNat) (h3 : goS M (mkE e G.length) ≠ none) : Told M G e 0 0
  | last (j : Nat) (hj : j < G.length) (o : UInt64) (ho : o.toNat = j) (h1 : G[j].p.toInt = e.p.toInt) (h2 : G[j].s = e.s) : Told M G e 1 o
  | old (h : laterB G e G.length = true) : Told M G e 2 0
  | full (h : M.length = 6) (h2 : ∀ x ∈ G, x.p.toInt ≠ e.p.toInt) : Told M G e 3 0
theorem told {M : List Mk} {G : List En} (e : En) (hM : MayP M) (h : LastOk M G) : Told M G e (askOf (lastM M e.p) M.length e.s).1 (askOf (lastM M e.p) M.length e.s).2 := by
  obtain ⟨h1, h2⟩ := h e.p
  cases hl : lastM M e.p with
  | none =>
    have hno := h1 hl
    by_cases h6 : 6 ≤ M.length
    · have : askOf none M.length e.s = (3, 0) := if_pos h6
      rw [this]
      exact .full (Nat.le_antisymm hM.1 h6) hno
    · have : askOf none M.length e.s = (0, 0) := if_neg h6
      rw [this]
      exact .new (fun x hx hp => absurd hp (hno x hx)) (fun m hm => by rw [hl] at hm; cases hm) fun hg => h6 (goS_none hM hg).1
  | some m =>
    obtain ⟨j, hj, e1, e2, e3, e4⟩ := h2 m hl
    by_cases hs : m.s = e.s
    · have : askOf (some m) M.length e.s = (1, m.o) := if_pos hs
      rw [this]
      exact .last j hj m.o e3 e1 (e2 ▸ hs)
    · by_cases ho : e.s.toNat < m.s.toNat
      · have : askOf (some m) M.length e.s = (2, 0) := by rw [askOf, if_neg hs, if_pos ho]
        rw [this]
        exact .old (laterB_yes hj e1 (by rw [← e2]; exact ho))
      · have : askOf (some m) M.length e.s = (0, 0) := by rw [askOf, if_neg hs, if_neg ho]
        rw [this]
        have hlt : m.s.toNat < e.s.toNat := by
          have : m.s.toNat ≠ e.s.toNat := fun h => hs (UInt64.toNat_inj.1 h)
          omega
        exact .new (fun x hx hp => by have := e4 x hx hp; omega) (fun m' hm => by rw [hl] at hm; injection hm with hm; subst hm; exact hlt) fun hg => by
          have := (goS_none hM hg).2
          have h9 : (mkE e G.length).p = e.p := rfl
          rw [h9, hl] at this
          cases this
end Go.Proofs.Ytgdbknbpnlpdnaa
