/- A disk by its rules, plain: what lasts, what waits, and what is seen. -/
import Derived.Test.YtggdkhgpkedbkaaDiskQ
namespace Go.Proofs.Ytggdkhgpkedbkaa
open Go.RowKit

/-- Changes, one behind the other. -/
def fold (cs : List Chg) (F : Files) : Files := cs.foldl (fun F c => c.done F) F
theorem fold_app (cs : List Chg) (c : Chg) (F : Files) : fold (cs ++ [c]) F = c.done (fold cs F) := by simp [fold]
theorem done_srt {F : Files} (h : Srt F) (c : Chg) : Srt (c.done F) := by
  cases c with
  | app n b => exact srt_put h _ _
  | put n b => exact srt_put h _ _
  | ren a c => exact srt_del (srt_put h _ _) _
  | rem n => exact srt_del h _
theorem fold_srt {F : Files} (h : Srt F) (cs : List Chg) : Srt (fold cs F) := by
  induction cs generalizing F with
  | nil => exact h
  | cons c cs ih => exact ih (done_srt h c)
theorem done_len (F : Files) (c : Chg) : (c.done F).length ≤ F.length + 1 := by
  cases c with
  | app n b => exact len_put _ _ _
  | put n b => exact len_put _ _ _
  | ren a c => exact Nat.le_trans (len_del _ _) (len_put _ _ _)
  | rem n => exact Nat.le_trans (len_del _ _) (Nat.le_succ _)
theorem torn_srt {F : Files} (h : Srt F) (k : Nat) (c : Chg) : Srt (c.torn k F) := by
  cases c with
  | app n b => exact srt_put h _ _
  | put n b => exact h
  | ren a c => exact h
  | rem n => exact h
theorem torn_len (F : Files) (k : Nat) (c : Chg) : (c.torn k F).length ≤ F.length + 1 := by
  cases c with
  | app n b => exact len_put _ _ _
  | put n b => exact Nat.le_succ _
  | ren a c => exact Nat.le_succ _
  | rem n => exact Nat.le_succ _
theorem torn_size {F : Files} (h : Srt F) (k : Nat) (n : Nm) (b : List UInt8) : fsize ((Chg.app n b).torn k F) ≤ fsize ((Chg.app n b).done F) := by
  have h1 := fsize_put h n ((fget n F).getD [] ++ b.take k)
  have h2 := fsize_put h n ((fget n F).getD [] ++ b)
  simp only [List.length_append, List.length_take] at h1 h2
  simp only [Chg.torn, Chg.done]
  omega
structure Fine (N : Nat) (x : Dk) : Prop where
  srt : Srt x.last
  seen : x.seen = fold x.waits x.last
  size : ∀ k, k ≤ x.waits.length → (fsize (fold (x.waits.take k) x.last) : Int) ≤ x.cap
  len : ∀ k, k ≤ x.waits.length → (fold (x.waits.take k) x.last).length ≤ N
  nw : x.waits.length ≤ N
  c0 : 0 ≤ x.cap
  c1 : x.cap ≤ 65536
theorem Fine.seen_take {N : Nat} {x : Dk} (h : Fine N x) : x.seen = fold (x.waits.take x.waits.length) x.last := by rw [List.take_length]; exact h.seen
theorem Fine.small {N : Nat} {x : Dk} (h : Fine N x) (hN : N ≤ 1000000) : Small x := by
  have h1 := h.size x.waits.length (Nat.le_refl _)
  have h2 := h.size 0 (Nat.zero_le _)
  have h3 := h.len x.waits.length (Nat.le_refl _)
  have h4 := h.len 0 (Nat.zero_le _)
  rw [← h.seen_take] at h1 h3
  have h5 := h.c1
  have h6 := h.nw
  simp only [List.take_zero, fold, List.foldl_nil] at h2 h4
  exact ⟨by omega, by omega, by omega, by omega, by omega, h.c0, h.c1⟩
theorem Fine.mono {N M : Nat} {x : Dk} (h : Fine N x) (hN : N ≤ M) : Fine M x := ⟨h.srt, h.seen, h.size, fun k hk => Nat.le_trans (h.len k hk) hN, Nat.le_trans h.nw hN, h.c0, h.c1⟩
theorem Fine.srts {N : Nat} {x : Dk} (h : Fine N x) : Srt x.seen := by rw [h.seen]; exact fold_srt h.srt _
theorem Fine.new {cap : Int} (h0 : 0 ≤ cap) (h1 : cap ≤ 65536) : Fine 0 (Dk.new cap) :=
  ⟨srt_nil, rfl, fun k _ => by simp [Dk.new, fold, fsize]; exact h0, fun k _ => by simp [Dk.new, fold], Nat.le_refl _, h0, h1⟩
theorem Fine.does {N : Nat} {x : Dk} (h : Fine N x) (c : Chg) (hs : (fsize (c.done x.seen) : Int) ≤ x.cap) : Fine (N + 1) (x.does c) := by
  have hlen : (x.does c).waits = x.waits ++ [c] := rfl
  refine ⟨h.srt, ?_, fun k hk => ?_, fun k hk => ?_, ?_, h.c0, h.c1⟩
  · show c.done x.seen = fold (x.waits ++ [c]) x.last
    rw [fold_app, ← h.seen]
  · rw [hlen, List.length_append] at hk
    rw [hlen]
    show (fsize (fold ((x.waits ++ [c]).take k) x.last) : Int) ≤ x.cap
    by_cases e : k ≤ x.waits.length
    · rw [List.take_append_of_le_length e]
      exact h.size k e
    · rw [List.take_of_length_le (by simp at hk ⊢; omega), fold_app, ← h.seen]
      exact hs
  · rw [hlen, List.length_append] at hk
    rw [hlen]
    show (fold ((x.waits ++ [c]).take k) x.last).length ≤ N + 1
    by_cases e : k ≤ x.waits.length
    · rw [List.take_append_of_le_length e]
      exact Nat.le_succ_of_le (h.len k e)
    · rw [List.take_of_length_le (by simp at hk ⊢; omega), fold_app]
      have h1 := done_len (fold x.waits x.last) c
      have h2 := h.len x.waits.length (Nat.le_refl _)
      rw [List.take_length] at h2
      omega
  · rw [hlen, List.length_append]
    have := h.nw
    simp
    omega
theorem Fine.append {N : Nat} {x : Dk} (h : Fine N x) (n : Nm) (b : List UInt8) : Fine (N + 1) (x.append n b).2 := by
  unfold Dk.append
  split
  · exact h.mono (Nat.le_succ _)
  · split
    · exact h.mono (Nat.le_succ _)
    · refine h.does _ ?_
      have h1 := fsize_put h.srts n ((fget n x.seen).getD [] ++ b)
      simp only [List.length_append] at h1
      unfold flen at h1
      simp only [Chg.done]
      omega
theorem Fine.put {N : Nat} {x : Dk} (h : Fine N x) (n : Nm) (b : List UInt8) : Fine (N + 1) (x.put n b).2 := by
  unfold Dk.put
  split
  · exact h.mono (Nat.le_succ _)
  · split
    · exact h.mono (Nat.le_succ _)
    · refine h.does _ ?_
      have h1 := fsize_put h.srts n b
      simp only [Chg.done]
      omega
theorem Fine.seen_le {N : Nat} {x : Dk} (h : Fine N x) : (fsize x.seen : Int) ≤ x.cap := by
  rw [h.seen_take]
  exact h.size _ (Nat.le_refl _)
theorem ren_size {F : Files} (h : Srt F) {a c : Nm} (hne : a ≠ c) : fsize ((Chg.ren a c).done F) ≤ fsize F := by
  have hs := srt_put h c ((fget a F).getD [])
  have h1 := fsize_put h c ((fget a F).getD [])
  have h2 := fsize_del hs a
  have h3 : flen a (fput c ((fget a F).getD []) F) = flen a F := by unfold flen; rw [fget_put h, if_neg hne]
  have h4 : flen a F = ((fget a F).getD []).length := rfl
  simp only [Chg.done]
  omega
theorem Fine.rename {N : Nat} {x : Dk} (h : Fine N x) (a c : Nm) : Fine (N + 1) (x.rename a c).2 := by
  unfold Dk.rename
  split
  · exact h.mono (Nat.le_succ _)
  · split
    · exact h.mono (Nat.le_succ _)
    · split
      · exact h.mono (Nat.le_succ _)
      · rename_i hne
        refine h.does _ ?_
        have h1 := ren_size h.srts hne
        have h2 := h.seen_le
        omega
theorem Fine.remove {N : Nat} {x : Dk} (h : Fine N x) (n : Nm) : Fine (N + 1) (x.remove n).2 := by
  unfold Dk.remove
  split
  · exact h.mono (Nat.le_succ _)
  · split
    · exact h.mono (Nat.le_succ _)
    · refine h.does _ ?_
      have h1 := fsize_del h.srts n
      have h2 := h.seen_le
      simp only [Chg.done]
      omega
/-- Files that rest. -/
theorem Fine.still {N : Nat} {x : Dk} {F : Files} {s : Int} {o : Bool} (hF : Srt F) (h1 : (fsize F : Int) ≤ x.cap) (h2 : F.length ≤ N) (h3 : 0 ≤ x.cap) (h4 : x.cap ≤ 65536) : Fine N { seen := F, last := F, waits := [], cap := x.cap, serial := s, down := o } :=
  ⟨hF, rfl, fun k hk => by simpa [fold] using h1, fun k hk => by simpa [fold] using h2, Nat.zero_le _, h3, h4⟩
theorem Fine.sync {N : Nat} {x : Dk} (h : Fine N x) : Fine N x.sync.2 := by
  unfold Dk.sync
  split
  · exact h
  · refine Fine.still h.srts h.seen_le ?_ h.c0 h.c1
    have := h.len _ (Nat.le_refl _)
    rw [← h.seen_take] at this
    exact this
theorem Fine.start {N : Nat} {x : Dk} (h : Fine N x) : Fine N x.start.2 := by
  unfold Dk.start
  split
  · exact ⟨h.srt, h.seen, h.size, h.len, h.nw, h.c0, h.c1⟩
  · exact h
theorem Fine.wipe {N : Nat} {x : Dk} (h : Fine N x) : Fine N x.wipe := by
  have := h.c0
  exact Fine.still (x := x) (F := []) srt_nil (by simpa [fsize] using this) (by simp) h.c0 h.c1
/-- How many of what waits a crash keeps. -/
def keeps (x : Dk) (keep : Int) : Nat := (min (max keep 0) (x.waits.length : Int)).toNat
theorem keeps_le (x : Dk) (keep : Int) : keeps x keep ≤ x.waits.length := by unfold keeps; omega
/-- What lasts behind a crash. -/
def Dk.lasts (x : Dk) (keep torn : Int) : Files :=
  match x.waits[keeps x keep]? with
  | some c => if 0 < torn ∧ 0 < c.size then c.torn (min torn (c.size : Int)).toNat (fold (x.waits.take (keeps x keep)) x.last) else fold (x.waits.take (keeps x keep)) x.last
  | none => fold (x.waits.take (keeps x keep)) x.last
def Dk.crash (x : Dk) (keep torn : Int) : Int × Dk :=
  if x.down then (6, x) else (0, { seen := x.lasts keep torn, last := x.lasts keep torn, waits := [], cap := x.cap, serial := x.serial, down := true })
theorem take_done {cs : List Chg} {k : Nat} {c : Chg} (h : cs[k]? = some c) (F : Files) : fold (cs.take (k + 1)) F = c.done (fold (cs.take k) F) := by
  obtain ⟨hk, rfl⟩ := List.getElem?_eq_some_iff.1 h
  rw [List.take_succ_eq_append_getElem hk, fold_app]
theorem Fine.lasts {N : Nat} {x : Dk} (h : Fine N x) (keep torn : Int) : Srt (x.lasts keep torn) ∧ (fsize (x.lasts keep torn) : Int) ≤ x.cap ∧ (x.lasts keep torn).length ≤ N + 1 := by
  have hk := keeps_le x keep
  have hs := fold_srt h.srt (x.waits.take (keeps x keep))
  have h1 := h.size _ hk
  have h2 := h.len _ hk
  unfold Dk.lasts
  split
  · rename_i c hc
    split
    · refine ⟨torn_srt hs _ _, ?_, Nat.le_trans (torn_len _ _ _) (by omega)⟩
      cases c with
      | app n b =>
        have hlt := (List.getElem?_eq_some_iff.1 hc).1
        have h3 := h.size (keeps x keep + 1) hlt
        rw [take_done hc] at h3
        have := torn_size hs (min torn ((Chg.app n b).size : Int)).toNat n b
        omega
      | put n b => exact h1
      | ren a c => exact h1
      | rem n => exact h1
    · exact ⟨hs, h1, by omega⟩
  · exact ⟨hs, h1, by omega⟩
theorem Fine.crash {N : Nat} {x : Dk} (h : Fine N x) (keep torn : Int) : Fine (N + 1) (x.crash keep torn).2 := by
  unfold Dk.crash
  split
  · exact h.mono (Nat.le_succ _)
  · obtain ⟨h1, h2, h3⟩ := h.lasts keep torn
    exact Fine.still h1 h2 h3 h.c0 h.c1
end Go.Proofs.Ytggdkhgpkedbkaa
