/- A file that is put beside another one and gets its name: plain. -/
import Derived.Test.YtggdkhgpkedbkaaActs
namespace Go.Proofs.Ytggdkhgpkedbkaa
open Go.RowKit

def oldN : Nm := [120, 46, 111, 108, 100]
def newN : Nm := [120, 46, 110, 101, 119]
theorem ask_up1 : askE false [oldN] = 0 := by kernel_rfl
theorem ask_up2 : askE false [newN] = 0 := by kernel_rfl
theorem ask_up3 : askE false [newN, oldN] = 0 := by kernel_rfl
theorem old_ne : oldN ≠ newN := by decide
theorem start_up (x : Dk) : x.start.2.down = false := by
  unfold Dk.start
  split
  · rfl
  · rename_i h; simpa using h
theorem read_up {x : Dk} (h : x.down = false) : x.read newN = if (fget newN x.seen).isSome = false then ([], 4) else ((fget newN x.seen).getD [], 0) := by
  unfold Dk.read
  rw [h, ask_up2, if_neg (by simp)]
theorem read_old {x : Dk} (h : x.down = false) : x.read oldN = if (fget oldN x.seen).isSome = false then ([], 4) else ((fget oldN x.seen).getD [], 0) := by
  unfold Dk.read
  rw [h, ask_up1, if_neg (by simp)]
theorem put_down (x : Dk) (n : Nm) (b : List UInt8) : (x.put n b).2.down = x.down := by
  unfold Dk.put
  split
  · rfl
  · split <;> rfl
theorem sync_up {x : Dk} (h : x.down = false) : x.sync.1 = 0 := by
  unfold Dk.sync
  rw [h]
  rfl
/-- Put, Sync, Put: what stands then. -/
theorem swap_states {x : Dk} {o f : List UInt8} (h : x.down = false) (h1 : (x.put oldN o).1 = 0) (h2 : ((x.put oldN o).2.sync.2.put newN f).1 = 0) :
    (x.put oldN o).2.sync.1 = 0 ∧ (x.put oldN o).2.sync.2.put newN f = (0, { seen := fput newN f (fput oldN o x.seen), last := fput oldN o x.seen, waits := [.put newN f], cap := x.cap, serial := x.serial, down := false }) := by
  have e1 : x.put oldN o = (0, x.does (.put oldN o)) := by
    unfold Dk.put at h1 ⊢
    rw [h, ask_up1, if_neg (by simp)] at h1 ⊢
    split at h1
    · cases h1
    · rename_i hc
      rw [if_neg hc]
  rw [e1] at h2 ⊢
  have e2 : (x.does (.put oldN o)).sync = (0, { seen := fput oldN o x.seen, last := fput oldN o x.seen, waits := [], cap := x.cap, serial := x.serial, down := false }) := by
    unfold Dk.sync
    have : (x.does (.put oldN o)).down = false := h
    rw [this]
    unfold Dk.rests Dk.does
    simp only [h, Chg.done]
    rfl
  refine ⟨by rw [e2], ?_⟩
  rw [e2] at h2 ⊢
  unfold Dk.put at h2 ⊢
  simp only [ask_up2] at h2 ⊢
  rw [if_neg (by simp)] at h2 ⊢
  split at h2
  · cases h2
  · rename_i hc
    rw [if_neg hc]
    rfl
/-- The state behind Put, Sync, Put. -/
def Sw (x : Dk) (o f : List UInt8) : Dk := { seen := fput newN f (fput oldN o x.seen), last := fput oldN o x.seen, waits := [.put newN f], cap := x.cap, serial := x.serial, down := false }
/-- .. and behind Rename. -/
def Sr (x : Dk) (o f : List UInt8) : Dk := (Sw x o f).does (.ren newN oldN)
theorem swap_rename {x : Dk} (hs : Srt x.seen) (o f : List UInt8) : (Sw x o f).rename newN oldN = (0, Sr x o f) := by
  unfold Dk.rename
  have hd : (Sw x o f).down = false := rfl
  have hg : fget newN (Sw x o f).seen = some f := by
    show fget newN (fput newN f (fput oldN o x.seen)) = _
    rw [fget_put (srt_put hs _ _), if_pos rfl]
  rw [hd, ask_up3, if_neg (by simp), hg, if_neg (by simp), if_neg old_ne.symm]
  rfl
theorem sr_waits (x : Dk) (o f : List UInt8) : (Sr x o f).waits = [.put newN f, .ren newN oldN] := rfl
def kept3 (x : Dk) (o f : List UInt8) (keep : Int) : Files :=
  if keep ≤ 0 then fput oldN o x.seen else if keep = 1 then fput newN f (fput oldN o x.seen) else fdel newN (fput oldN f (fput newN f (fput oldN o x.seen)))
theorem swap_crash {x : Dk} (hs : Srt x.seen) (o f : List UInt8) (keep torn : Int) :
    (Sr x o f).crash keep torn = (0, { seen := kept3 x o f keep, last := kept3 x o f keep, waits := [], cap := x.cap, serial := x.serial, down := true }) := by
  have hl : (Sr x o f).lasts keep torn = kept3 x o f keep := by
    unfold Dk.lasts kept3
    have hk : keeps (Sr x o f) keep = if keep ≤ 0 then 0 else if keep = 1 then 1 else 2 := by
      unfold keeps
      rw [sr_waits]
      simp only [List.length_cons, List.length_nil]
      split
      · omega
      · split <;> omega
    have hlast : (Sr x o f).last = fput oldN o x.seen := rfl
    rw [hk, sr_waits, hlast]
    by_cases h0 : keep ≤ 0
    · simp only [if_pos h0]
      simp [fold, Chg.size]
    · by_cases h1 : keep = 1
      · simp only [if_neg h0, if_pos h1]
        simp [fold, Chg.size, Chg.done]
      · simp only [if_neg h0, if_neg h1]
        have hg : fget newN (fput newN f (fput oldN o x.seen)) = some f := by rw [fget_put (srt_put hs _ _), if_pos rfl]
        simp [fold, Chg.done, hg]
  unfold Dk.crash
  rw [hl]
  rfl
def Sz (x : Dk) (o f : List UInt8) (keep : Int) : Dk := { seen := kept3 x o f keep, last := kept3 x o f keep, waits := [], cap := x.cap, serial := x.serial, down := false }
theorem swap_old {x : Dk} (hs : Srt x.seen) (o f : List UInt8) (keep : Int) : (Sz x o f keep).read oldN = (if 2 ≤ keep then f else o, 0) := by
  rw [read_old rfl]
  have hg : fget oldN (Sz x o f keep).seen = some (if 2 ≤ keep then f else o) := by
    show fget oldN (kept3 x o f keep) = _
    have s1 := srt_put hs oldN o
    have s2 := srt_put s1 newN f
    have s3 := srt_put s2 oldN f
    unfold kept3
    by_cases h0 : keep ≤ 0
    · rw [if_pos h0, if_neg (by omega), fget_put hs, if_pos rfl]
    · by_cases h1 : keep = 1
      · rw [if_neg h0, if_pos h1, if_neg (by omega), fget_put s1, if_neg old_ne, fget_put hs, if_pos rfl]
      · rw [if_neg h0, if_neg h1, if_pos (by omega), fget_del s3, if_neg old_ne, fget_put s2, if_pos rfl]
  rw [hg]
  rfl
theorem swap_new {x : Dk} (hs : Srt x.seen) (hn : (fget newN x.seen).isSome = false) (o f : List UInt8) (keep : Int) : (Sz x o f keep).read newN = (if keep = 1 then (f, 0) else ([], 4)) := by
  rw [read_up rfl]
  have hg : fget newN (Sz x o f keep).seen = if keep = 1 then some f else none := by
    show fget newN (kept3 x o f keep) = _
    have s1 := srt_put hs oldN o
    have s2 := srt_put s1 newN f
    have s3 := srt_put s2 oldN f
    unfold kept3
    by_cases h0 : keep ≤ 0
    · rw [if_pos h0, if_neg (by omega), fget_put hs, if_neg old_ne.symm]
      simpa using hn
    · by_cases h1 : keep = 1
      · rw [if_neg h0, if_pos h1, if_pos h1, fget_put s1, if_pos rfl]
      · rw [if_neg h0, if_neg h1, if_neg h1, fget_del s3, if_pos rfl]
  rw [hg]
  by_cases h1 : keep = 1
  · simp [h1]
  · simp [h1]
end Go.Proofs.Ytggdkhgpkedbkaa
