/- What lasts, plain: a disk that has been synced, its changes, and a crash. -/
import Derived.Test.YtggdkhgpkedbkaaKeep
namespace Go.Proofs.Ytggdkhgpkedbkaa
open Go.RowKit

/-- A disk that is up, with changes behind what lasts. -/
def St (x : Dk) (W : List Chg) : Dk := { seen := fold W x.last, last := x.last, waits := W, cap := x.cap, serial := x.serial, down := false }
theorem st_does (x : Dk) (W : List Chg) (c : Chg) : (St x W).does c = St x (W ++ [c]) := by
  unfold St Dk.does
  simp only [fold_app]
theorem st_append (x : Dk) (W : List Chg) (n : Nm) (b : List UInt8) : ((St x W).append n b).2 = St x W ∨ ∃ c, ((St x W).append n b).2 = St x (W ++ [c]) := by
  unfold Dk.append
  split
  · exact .inl rfl
  · split
    · exact .inl rfl
    · exact .inr ⟨_, st_does x W _⟩
theorem st_put (x : Dk) (W : List Chg) (n : Nm) (b : List UInt8) : ((St x W).put n b).2 = St x W ∨ ∃ c, ((St x W).put n b).2 = St x (W ++ [c]) := by
  unfold Dk.put
  split
  · exact .inl rfl
  · split
    · exact .inl rfl
    · exact .inr ⟨_, st_does x W _⟩
theorem st_rename (x : Dk) (W : List Chg) (n k : Nm) : ((St x W).rename n k).2 = St x W ∨ ∃ c, ((St x W).rename n k).2 = St x (W ++ [c]) := by
  unfold Dk.rename
  split
  · exact .inl rfl
  · split
    · exact .inl rfl
    · split
      · exact .inl rfl
      · exact .inr ⟨_, st_does x W _⟩
theorem st_remove (x : Dk) (W : List Chg) (n : Nm) : ((St x W).remove n).2 = St x W ∨ ∃ c, ((St x W).remove n).2 = St x (W ++ [c]) := by
  unfold Dk.remove
  split
  · exact .inl rfl
  · split
    · exact .inl rfl
    · exact .inr ⟨_, st_does x W _⟩
/-- A change, or none. -/
theorem st_act (x : Dk) (W : List Chg) {a : Ac} (ha : a.k.toInt ≤ 3) : ∃ W', a.does (St x W) = St x W' ∧ (W' = W ∨ ∃ c, W' = W ++ [c]) := by
  have key : a.does (St x W) = St x W ∨ ∃ c, a.does (St x W) = St x (W ++ [c]) := by
    unfold Ac.does
    split
    · exact st_append _ _ _ _
    split
    · exact st_put _ _ _ _
    split
    · exact st_rename _ _ _ _
    split
    · exact st_remove _ _ _
    · rw [if_neg (by omega), if_neg (by omega), if_neg (by omega), if_neg (by omega), if_neg (by omega)]
      exact .inl rfl
  rcases key with h | ⟨c, h⟩
  · exact ⟨W, h, .inl rfl⟩
  · exact ⟨W ++ [c], h, .inr ⟨c, rfl⟩⟩
/-- The first K changes: what a copy has that goes along till then. -/
theorem take_on {W W' : List Chg} {K : Nat} (h : W' = W ∨ ∃ c, W' = W ++ [c]) (hl : W'.length ≤ K) : W.take K = W ∧ W'.take K = W' := by
  refine ⟨List.take_of_length_le ?_, List.take_of_length_le hl⟩
  rcases h with rfl | ⟨c, rfl⟩
  · exact hl
  · simp at hl; omega
theorem take_off {W W' : List Chg} {K : Nat} (h : W' = W ∨ ∃ c, W' = W ++ [c]) (hl : K < W'.length) : W'.take K = W.take K := by
  rcases h with rfl | ⟨c, rfl⟩
  · rfl
  · rw [List.take_append_of_le_length (by simp at hl; omega)]
theorem Fine.st {N : Nat} {x : Dk} {W : List Chg} (h : Fine N (St x W)) (j : Nat) : Fine N (St x (W.take j)) := by
  refine ⟨h.srt, rfl, fun k hk => ?_, fun k hk => ?_, ?_, h.c0, h.c1⟩
  · have := h.size (min k j) (by simp only [St, List.length_take] at hk ⊢; omega)
    simp only [St] at this ⊢
    rw [List.take_take]
    exact this
  · have := h.len (min k j) (by simp only [St, List.length_take] at hk ⊢; omega)
    simp only [St] at this ⊢
    rw [List.take_take]
    exact this
  · have := h.nw
    simp only [St, List.length_take] at this ⊢
    omega
theorem Nms.st {x : Dk} {W : List Chg} (h : Nms (St x W)) (j : Nat) : Nms (St x (W.take j)) :=
  ⟨h.last, fun c hc => h.waits c (List.mem_of_mem_take hc), fold_names h.last fun c hc => h.waits c (List.mem_of_mem_take hc)⟩
/-- How many of the changes are kept, whatever is said. -/
def kOf (keep : Int) : Nat := (max keep 0).toNat
theorem keeps_st (x : Dk) (W : List Chg) (keep : Int) : keeps (St x W) keep = min (kOf keep) W.length := by
  unfold keeps kOf St
  simp only
  omega
theorem take_min {W : List Chg} (K : Nat) : W.take (min K W.length) = W.take K := by
  rcases Nat.le_total K W.length with h | h
  · rw [Nat.min_eq_left h]
  · rw [Nat.min_eq_right h, List.take_of_length_le (Nat.le_refl _), List.take_of_length_le h]
/-- What lasts: the files with the changes kept; torn, one of them longer. -/
theorem lasts_st (x : Dk) (W : List Chg) (keep torn : Int) :
    (St x W).lasts keep torn = fold (W.take (kOf keep)) x.last ∨
    ∃ n b t, 0 < torn ∧ W[kOf keep]? = some (.app n b) ∧ 0 < t ∧ t ≤ b.length ∧ (St x W).lasts keep torn = (Chg.app n b).torn t (fold (W.take (kOf keep)) x.last) := by
  unfold Dk.lasts
  rw [keeps_st]
  have hw : (St x W).waits = W := rfl
  have hl : (St x W).last = x.last := rfl
  rw [hw, hl, take_min]
  rcases Nat.lt_or_ge (kOf keep) W.length with hk | hk
  · rw [Nat.min_eq_left (by omega), List.getElem?_eq_getElem hk]
    simp only
    by_cases hc : 0 < torn ∧ 0 < (W[kOf keep]).size
    · rw [if_pos hc]
      cases he : W[kOf keep] with
      | app n b =>
        right
        rw [he] at hc
        simp only [Chg.size] at hc
        exact ⟨n, b, _, hc.1, rfl, by simp only [Chg.size]; omega, by simp only [Chg.size]; omega, rfl⟩
      | put n b => exact .inl rfl
      | ren a c => exact .inl rfl
      | rem n => exact .inl rfl
    · rw [if_neg hc]
      exact .inl rfl
  · rw [Nat.min_eq_right hk, List.getElem?_eq_none (Nat.le_refl _)]
    exact .inl rfl
theorem lasts_whole (x : Dk) (W : List Chg) {keep torn : Int} (h : torn ≤ 0) : (St x W).lasts keep torn = fold (W.take (kOf keep)) x.last := by
  rcases lasts_st x W keep torn with h1 | ⟨n, b, t, h0, _⟩
  · exact h1
  · omega
theorem read_up' {x : Dk} (h : x.down = false) {n : Nm} (hn : isName n = true) : x.read n = if (fget n x.seen).isSome = false then ([], 4) else ((fget n x.seen).getD [], 0) := by
  unfold Dk.read
  have : askE x.down [n] = 0 := by
    rw [h]
    unfold askE
    simp [hn]
  rw [this, if_neg (by simp)]
/-- What each file says: as it was, or longer by a part of what was put behind it. -/
theorem lasts_file {x : Dk} {W : List Chg} (hs : Srt x.last) (keep torn : Int) {n : Nm} {b : List UInt8} (hb : fget n ((St x W).lasts keep torn) = some b) :
    fget n (fold (W.take (kOf keep)) x.last) = some b ∨
    (kOf keep < W.length ∧ b ≠ (fget n (fold (W.take (kOf keep)) x.last)).getD [] ∧ ∃ q, fget n (fold (W.take (kOf keep + 1)) x.last) = some q ∧ b.length ≤ q.length ∧ q.take b.length = b ∧ ((fget n (fold (W.take (kOf keep)) x.last)).getD []).length ≤ b.length) := by
  have hP := fold_srt hs (W.take (kOf keep))
  rcases lasts_st x W keep torn with h1 | ⟨m, bb, t, _, hc, ht0, htl, h1⟩
  · rw [h1] at hb
    exact .inl hb
  · rw [h1] at hb
    simp only [Chg.torn] at hb
    rw [fget_put hP] at hb
    by_cases hnm : n = m
    · subst hnm
      rw [if_pos rfl] at hb
      injection hb with hb
      subst hb
      have hnext : fold (W.take (kOf keep + 1)) x.last = fput n ((fget n (fold (W.take (kOf keep)) x.last)).getD [] ++ bb) (fold (W.take (kOf keep)) x.last) := by
        rw [take_done hc]
        rfl
      have htk : (bb.take t).length = t := by rw [List.length_take, Nat.min_eq_left htl]
      refine .inr ⟨(List.getElem?_eq_some_iff.1 hc).1, fun e => ?_, (fget n (fold (W.take (kOf keep)) x.last)).getD [] ++ bb, ?_, ?_, ?_, ?_⟩
      · have := congrArg List.length e
        rw [List.length_append, htk] at this
        omega
      · rw [hnext, fget_put hP, if_pos rfl]
      · rw [List.length_append, List.length_append, htk]; omega
      · rw [List.length_append, htk, List.take_append, List.take_of_length_le (by omega)]
        congr 1
        rw [Nat.add_sub_cancel_left]
      · rw [List.length_append]; omega
    · rw [if_neg hnm] at hb
      exact .inl hb
theorem st_up (x : Dk) : x.start.2.down = false := by
  unfold Dk.start
  split
  · rfl
  · rename_i h; simpa using h
theorem sync_st {y : Dk} (h : y.down = false) : y.sync = (0, St y.sync.2 []) := by
  unfold Dk.sync
  rw [h, if_neg (by simp)]
  rfl
/-- What stands behind the crash, and started again. -/
def Cr (x : Dk) (W : List Chg) (keep torn : Int) : Dk := { seen := (St x W).lasts keep torn, last := (St x W).lasts keep torn, waits := [], cap := x.cap, serial := x.serial, down := true }
def Up (x : Dk) (W : List Chg) (keep torn : Int) : Dk := { seen := (St x W).lasts keep torn, last := (St x W).lasts keep torn, waits := [], cap := x.cap, serial := x.serial, down := false }
theorem crash_st (x : Dk) (W : List Chg) (keep torn : Int) : (St x W).crash keep torn = (0, Cr x W keep torn) := by
  unfold Dk.crash
  rw [if_neg (by simp [St])]
  rfl
theorem start_cr (x : Dk) (W : List Chg) (keep torn : Int) : (Cr x W keep torn).start = (0, Up x W keep torn) := by
  unfold Dk.start
  rw [if_pos (show (Cr x W keep torn).down = true from rfl)]
  rfl
/-- How many of the changes the disk has that goes along by one more. -/
def jOf (keep : Int) : Nat := if keep = 9223372036854775807 then 0 else kOf keep + 1
theorem nx_i {keep : Int} (h0 : 0 ≤ keep) (hr : keep ≤ 9223372036854775807) {n : Nat} (h : (n : Int) ≤ IntKind.i64.wrap (keep + 1)) : n ≤ jOf keep := by
  unfold jOf kOf
  rw [IntKind.wrap_i64] at h
  split <;> omega
theorem nx_ii {keep : Int} (h0 : 0 ≤ keep) (hr : keep ≤ 9223372036854775807) {n : Nat} (h : ¬ (n : Int) ≤ IntKind.i64.wrap (keep + 1)) : jOf keep < n ∨ jOf keep = 0 := by
  unfold jOf kOf
  rw [IntKind.wrap_i64] at h
  split <;> omega
theorem nx_iii {keep : Int} (h0 : keep < 0) (hr : -9223372036854775808 ≤ keep) {n : Nat} (h : (n : Int) ≤ IntKind.i64.wrap (keep + 1)) : n ≤ 1 := by
  rw [IntKind.wrap_i64] at h
  omega
theorem nx_neg {keep : Int} (h0 : keep < 0) : jOf keep = 1 := by
  unfold jOf kOf
  rw [if_neg (by omega)]
  omega
theorem nx_off {W W' : List Chg} {keep : Int} (h : W' = W ∨ ∃ c, W' = W ++ [c]) (hl : jOf keep < W'.length ∨ jOf keep = 0) : W'.take (jOf keep) = W.take (jOf keep) := by
  rcases hl with hl | hl
  · exact take_off h hl
  · rw [hl, List.take_zero, List.take_zero]
theorem jOf_one {keep : Int} {n : Nat} (h : kOf keep < n) (hn : n ≤ 1000) : jOf keep = kOf keep + 1 := by
  unfold jOf
  rw [if_neg]
  intro e
  subst e
  unfold kOf at h
  omega
theorem le_k {keep : Int} {n : Nat} (h : (n : Int) ≤ keep) : n ≤ kOf keep := by
  unfold kOf
  omega
theorem gt_k {W W' : List Chg} {keep : Int} (h : W' = W ∨ ∃ c, W' = W ++ [c]) (hn : ¬ (W'.length : Int) ≤ keep) : W'.take (kOf keep) = W.take (kOf keep) := by
  rcases Nat.lt_or_ge (kOf keep) W'.length with hl | hl
  · exact take_off h hl
  · have h0 : kOf keep = 0 := by unfold kOf at hl ⊢; omega
    rw [h0, List.take_zero, List.take_zero]
theorem Held.stw {w0 w : World} {K : Nat → Prop} {L : List (Nat × Dk)} {d : Nat} {x : Dk} {W : List Chg} (h : Held w0 w K ((d, St x W) :: L)) {m : Int} (hm : (W.length : Int) = m) :
    Calls Try.prog 18 #[pd d] w fun e w' => e = .returned (.int .i64 m) ∧ w = w' := by
  have := h.waits
  rw [show (if (St x W).down = true then (0 : Int) else ((St x W).waits.length : Int)) = (W.length : Int) from rfl, hm] at this
  exact this
/-- An act of a row, as its cells stand. -/
structure Six (w : World) (b o k : Nat) (a : Ac) : Prop where
  lt : b < w.heap.size
  c0 : w.cell? ⟨b, o + k * 6, none⟩ = some (.int .i64 a.k.toInt)
  c1 : w.cell? ⟨b, o + k * 6 + 1, none⟩ = some (.string ⟨a.n.toArray⟩)
  c2 : w.cell? ⟨b, o + k * 6 + 2, none⟩ = some (.string ⟨a.t.toArray⟩)
  c3 : w.cell? ⟨b, o + k * 6 + 3, none⟩ = some (.slice a.A a.b.length a.c)
  c4 : w.cell? ⟨b, o + k * 6 + 4, none⟩ = some (.int .i64 a.p.toInt)
  c5 : w.cell? ⟨b, o + k * 6 + 5, none⟩ = some (.int .i64 a.q.toInt)
theorem Six.below {w w' : World} {b o k : Nat} {a : Ac} (h : Six w b o k a) (hb : Below w.heap.size w w') : Six w' b o k a :=
  ⟨Nat.lt_of_lt_of_le h.lt hb.size, (hb.cell h.lt).trans h.c0, (hb.cell h.lt).trans h.c1, (hb.cell h.lt).trans h.c2, (hb.cell h.lt).trans h.c3, (hb.cell h.lt).trans h.c4, (hb.cell h.lt).trans h.c5⟩
theorem six_of {w : World} {A : Option Addr} {l : List Ac} (h : Acts w A l) {k : Nat} (hk : k < l.length) : ∃ b o, A = some ⟨b, o, none⟩ ∧ Six w b o k l[k] := by
  obtain ⟨b, o, e, a0, a1, a2, a3, a4, a5, a6⟩ := h.at_ hk
  exact ⟨b, o, e, a0, a1, a2, a3, a4, a5, a6⟩
theorem perm3a {α : Type} (a b c : α) : [a, b, c].Perm [c, a, b] := List.perm_append_comm (l₁ := [a, b]) (l₂ := [c])
theorem perm3b {α : Type} (a b c : α) : [c, a, b].Perm [a, b, c] := (perm3a a b c).symm
theorem kept_name {x : Dk} {W : List Chg} {keep torn : Int} (hs : Srt ((St x W).lasts keep torn)) {n : Nm} {b : List UInt8} (h : (n, b) ∈ (St x W).lasts keep torn) : fget n ((St x W).lasts keep torn) = some b := (fget_some hs).2 h
/-- What each of the three reads. -/
theorem reads_of {x : Dk} {W : List Chg} {keep torn : Int} {n : Nm} (hs : Srt x.last) (hW : W.length ≤ 1000) (hn : isName n = true) {b : List UInt8} (hb : fget n ((St x W).lasts keep torn) = some b) :
    (Up x W keep torn).read n = (b, 0) ∧
    ((St x (W.take (kOf keep))).read n = (b, 0) ∨
     ∃ p q, ((St x (W.take (kOf keep))).read n).1 = p ∧ (St x (W.take (jOf keep))).read n = (q, 0) ∧ b ≠ p ∧ b.length ≤ q.length ∧ q.take b.length = b ∧ p.length ≤ b.length) := by
  constructor
  · rw [read_up' rfl hn]
    have : fget n (Up x W keep torn).seen = some b := hb
    rw [this, if_neg (by simp)]
    rfl
  · rcases lasts_file hs keep torn hb with h1 | ⟨h0, h1, q, h2, h3, h4, h5⟩
    · left
      rw [read_up' rfl hn]
      have : fget n (St x (W.take (kOf keep))).seen = some b := h1
      rw [this, if_neg (by simp)]
      rfl
    · right
      refine ⟨_, q, rfl, ?_, ?_, h3, h4, ?_⟩
      · rw [jOf_one h0 hW, read_up' rfl hn]
        have : fget n (St x (W.take (kOf keep + 1))).seen = some q := h2
        rw [this, if_neg (by simp)]
        rfl
      · rw [read_up' rfl hn]
        have : fget n (St x (W.take (kOf keep))).seen = fget n (fold (W.take (kOf keep)) x.last) := rfl
        rw [this]
        split
        · rename_i hh
          have h0' : fget n (fold (W.take (kOf keep)) x.last) = none := by simpa using hh
          rw [h0'] at h1
          exact h1
        · exact h1
      · rw [read_up' rfl hn]
        have : fget n (St x (W.take (kOf keep))).seen = fget n (fold (W.take (kOf keep)) x.last) := rfl
        rw [this]
        split
        · exact Nat.zero_le _
        · exact h5
end Go.Proofs.Ytggdkhgpkedbkaa
