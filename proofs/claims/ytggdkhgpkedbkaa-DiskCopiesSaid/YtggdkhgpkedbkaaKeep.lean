/- What stays of a disk: its capacity; names of files are names. -/
import Derived.Test.YtggdkhgpkedbkaaAlike
namespace Go.Proofs.Ytggdkhgpkedbkaa
open Go.RowKit

def Chg.ok : Chg → Prop
  | .app n _ => isName n = true
  | .put n _ => isName n = true
  | .ren _ c => isName c = true
  | .rem _ => True
theorem done_names {F : Files} (h : ∀ p ∈ F, isName p.1 = true) {c : Chg} (hc : c.ok) : ∀ p ∈ c.done F, isName p.1 = true := by
  intro p hp
  cases c with
  | app n b =>
    rcases mem_put.1 hp with rfl | ⟨hp, _⟩
    · exact hc
    · exact h p hp
  | put n b =>
    rcases mem_put.1 hp with rfl | ⟨hp, _⟩
    · exact hc
    · exact h p hp
  | ren a k =>
    obtain ⟨hp, _⟩ := mem_del.1 hp
    rcases mem_put.1 hp with rfl | ⟨hp, _⟩
    · exact hc
    · exact h p hp
  | rem n => exact h p (mem_del.1 hp).1
theorem torn_names {F : Files} (h : ∀ p ∈ F, isName p.1 = true) {c : Chg} (hc : c.ok) (k : Nat) : ∀ p ∈ c.torn k F, isName p.1 = true := by
  intro p hp
  cases c with
  | app n b =>
    rcases mem_put.1 hp with rfl | ⟨hp, _⟩
    · exact hc
    · exact h p hp
  | put n b => exact h p hp
  | ren a k => exact h p hp
  | rem n => exact h p hp
theorem fold_names {cs : List Chg} {F : Files} (h : ∀ p ∈ F, isName p.1 = true) (hc : ∀ c ∈ cs, c.ok) : ∀ p ∈ fold cs F, isName p.1 = true := by
  induction cs generalizing F with
  | nil => exact h
  | cons c cs ih => exact ih (done_names h (hc c (by simp))) fun q hq => hc q (by simp [hq])
/-- The names are names. -/
structure Nms (x : Dk) : Prop where
  last : ∀ p ∈ x.last, isName p.1 = true
  waits : ∀ c ∈ x.waits, c.ok
  seen : ∀ p ∈ x.seen, isName p.1 = true
theorem name_nok {n : Nm} (h : isName n = true) : Nok n := by
  unfold isName at h
  simp only [Bool.and_eq_true, decide_eq_true_eq] at h
  exact Nat.le_trans h.1.2 (by decide)
theorem Nms.nok {x : Dk} (h : Nms x) : ∀ p ∈ x.seen, Nok p.1 := fun p hp => name_nok (h.seen p hp)
theorem Nms.new (cap : Int) : Nms (Dk.new cap) := ⟨fun _ h => (by cases h), fun _ h => (by cases h), fun _ h => (by cases h)⟩
theorem Nms.does {x : Dk} (h : Nms x) {c : Chg} (hc : c.ok) : Nms (x.does c) :=
  ⟨h.last, fun q hq => (List.mem_append.1 hq).elim (h.waits q) fun e => (List.mem_singleton.1 e) ▸ hc, done_names h.seen hc⟩
theorem ask_ok {o : Bool} {ns : List Nm} (h : askE o ns = 0) : ∀ n ∈ ns, isName n = true := by
  intro n hn
  unfold askE at h
  cases o
  · simp only [Bool.false_eq_true, if_false] at h
    cases he : isName n
    · rw [if_pos (List.any_eq_true.2 ⟨n, hn, by simp [he]⟩)] at h
      cases h
    · rfl
  · cases h
theorem Nms.append {x : Dk} (h : Nms x) (n : Nm) (b : List UInt8) : Nms (x.append n b).2 := by
  unfold Dk.append
  split
  · exact h
  · split
    · exact h
    · rename_i h1 _
      exact h.does (ask_ok (Decidable.not_not.1 h1) n (by simp))
theorem Nms.put {x : Dk} (h : Nms x) (n : Nm) (b : List UInt8) : Nms (x.put n b).2 := by
  unfold Dk.put
  split
  · exact h
  · split
    · exact h
    · rename_i h1 _
      exact h.does (ask_ok (Decidable.not_not.1 h1) n (by simp))
theorem Nms.rename {x : Dk} (h : Nms x) (a c : Nm) : Nms (x.rename a c).2 := by
  unfold Dk.rename
  split
  · exact h
  · split
    · exact h
    · split
      · exact h
      · rename_i h1 _ _
        exact h.does (ask_ok (Decidable.not_not.1 h1) c (by simp))
theorem Nms.remove {x : Dk} (h : Nms x) (n : Nm) : Nms (x.remove n).2 := by
  unfold Dk.remove
  split
  · exact h
  · split
    · exact h
    · exact h.does trivial
theorem Nms.sync {x : Dk} (h : Nms x) : Nms x.sync.2 := by
  unfold Dk.sync
  split
  · exact h
  · exact ⟨h.seen, fun _ h => (by cases h), h.seen⟩
theorem Nms.start {x : Dk} (h : Nms x) : Nms x.start.2 := by
  unfold Dk.start
  split
  · exact ⟨h.last, h.waits, h.seen⟩
  · exact h
theorem Nms.wipe {x : Dk} (_ : Nms x) : Nms x.wipe := ⟨fun _ h => (by cases h), fun _ h => (by cases h), fun _ h => (by cases h)⟩
theorem Nms.lasts {x : Dk} (h : Nms x) (keep torn : Int) : ∀ p ∈ x.lasts keep torn, isName p.1 = true := by
  have hf : ∀ p ∈ fold (x.waits.take (keeps x keep)) x.last, isName p.1 = true := fold_names h.last fun c hc => h.waits c (List.mem_of_mem_take hc)
  unfold Dk.lasts
  split
  · rename_i c hc
    split
    · exact torn_names hf (h.waits c (List.mem_of_getElem? hc)) _
    · exact hf
  · exact hf
theorem Nms.crash {x : Dk} (h : Nms x) (keep torn : Int) : Nms (x.crash keep torn).2 := by
  unfold Dk.crash
  split
  · exact h
  · exact ⟨h.lasts keep torn, fun _ h => (by cases h), h.lasts keep torn⟩
theorem Nms.act {x : Dk} (h : Nms x) (a : Ac) : Nms (a.does x) := by
  unfold Ac.does
  split
  · exact h.append _ _
  split
  · exact h.put _ _
  split
  · exact h.rename _ _
  split
  · exact h.remove _
  split
  · exact h.sync
  split
  · exact h
  split
  · exact h.crash _ _
  split
  · exact h.start
  split
  · exact h.wipe
  · exact h
theorem cap_append (x : Dk) (n : Nm) (b : List UInt8) : (x.append n b).2.cap = x.cap := by
  unfold Dk.append
  split
  · rfl
  · split <;> rfl
theorem cap_put (x : Dk) (n : Nm) (b : List UInt8) : (x.put n b).2.cap = x.cap := by
  unfold Dk.put
  split
  · rfl
  · split <;> rfl
theorem cap_rename (x : Dk) (a c : Nm) : (x.rename a c).2.cap = x.cap := by
  unfold Dk.rename
  split
  · rfl
  · split
    · rfl
    · split <;> rfl
theorem cap_remove (x : Dk) (n : Nm) : (x.remove n).2.cap = x.cap := by
  unfold Dk.remove
  split
  · rfl
  · split <;> rfl
theorem cap_sync (x : Dk) : x.sync.2.cap = x.cap := by unfold Dk.sync; split <;> rfl
theorem cap_start (x : Dk) : x.start.2.cap = x.cap := by unfold Dk.start; split <;> rfl
theorem cap_crash (x : Dk) (k t : Int) : (x.crash k t).2.cap = x.cap := by unfold Dk.crash; split <;> rfl
theorem cap_act (a : Ac) (x : Dk) : (a.does x).cap = x.cap := by
  unfold Ac.does
  split
  · exact cap_append _ _ _
  split
  · exact cap_put _ _ _
  split
  · exact cap_rename _ _ _
  split
  · exact cap_remove _ _
  split
  · exact cap_sync _
  split
  · rfl
  split
  · exact cap_crash _ _ _
  split
  · exact cap_start _
  split
  · rfl
  · rfl
/-- What an error answers changes nothing. -/
theorem err_append {x : Dk} {n : Nm} {b : List UInt8} (h : (x.append n b).1 ≠ 0) : (x.append n b).2 = x := by
  unfold Dk.append at h ⊢
  split
  · rfl
  · rename_i h1
    rw [if_neg h1] at h
    split
    · rfl
    · rename_i h2
      rw [if_neg h2] at h
      exact absurd rfl h
theorem err_put {x : Dk} {n : Nm} {b : List UInt8} (h : (x.put n b).1 ≠ 0) : (x.put n b).2 = x := by
  unfold Dk.put at h ⊢
  split
  · rfl
  · rename_i h1
    rw [if_neg h1] at h
    split
    · rfl
    · rename_i h2
      rw [if_neg h2] at h
      exact absurd rfl h
theorem err_rename {x : Dk} {a c : Nm} (h : (x.rename a c).1 ≠ 0) : (x.rename a c).2 = x := by
  unfold Dk.rename at h ⊢
  split
  · rfl
  · rename_i h1
    rw [if_neg h1] at h
    split
    · rfl
    · rename_i h2
      rw [if_neg h2] at h
      split
      · rfl
      · rename_i h3
        rw [if_neg h3] at h
        exact absurd rfl h
theorem err_remove {x : Dk} {n : Nm} (h : (x.remove n).1 ≠ 0) : (x.remove n).2 = x := by
  unfold Dk.remove at h ⊢
  split
  · rfl
  · rename_i h1
    rw [if_neg h1] at h
    split
    · rfl
    · rename_i h2
      rw [if_neg h2] at h
      exact absurd rfl h
end Go.Proofs.Ytggdkhgpkedbkaa
