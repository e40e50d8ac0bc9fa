/- Files, plain: rows of a name and a value, by names rising. -/
import Derived.Maps.RangeWalk
import Derived.Test.YtggdkhgpkedbkaaWords4
namespace Go.Proofs.Ytggdkhgpkedbkaa
open Go.WideShapes

abbrev Nm := List UInt8
theorem seq_eq {p q : Nm} : (p == q) = true ↔ p = q := by simp

section
variable {β γ : Type}
/-- Names rise. -/
def Srt (F : List (Nm × β)) : Prop := F.Pairwise fun p q => bytesBefore p.1 q.1 = true
def fins (x : Nm × β) : List (Nm × β) → List (Nm × β)
  | [] => [x]
  | y :: r => if bytesBefore x.1 y.1 then x :: y :: r else y :: fins x r
def fdel (n : Nm) (F : List (Nm × β)) : List (Nm × β) := F.filter fun p => !(p.1 == n)
def fput (n : Nm) (b : β) (F : List (Nm × β)) : List (Nm × β) := fins (n, b) (fdel n F)
def fget (n : Nm) (F : List (Nm × β)) : Option β := (F.find? fun p => p.1 == n).map (·.2)
def fmap (f : β → γ) (F : List (Nm × β)) : List (Nm × γ) := F.map fun p => (p.1, f p.2)

theorem fmap_ins (f : β → γ) (x : Nm × β) : ∀ F : List (Nm × β), fmap f (fins x F) = fins (x.1, f x.2) (fmap f F)
  | [] => rfl
  | y :: r => by
    have ih := fmap_ins f x r
    unfold fmap at ih ⊢
    unfold fins
    by_cases h : bytesBefore x.1 y.1 = true
    · simp [h]
    · simp only [h, List.map_cons, if_false, Bool.false_eq_true, ih]
theorem fmap_del (f : β → γ) (n : Nm) (F : List (Nm × β)) : fmap f (fdel n F) = fdel n (fmap f F) := by
  unfold fmap fdel
  rw [List.filter_map]
  rfl
theorem fmap_put (f : β → γ) (n : Nm) (b : β) (F : List (Nm × β)) : fmap f (fput n b F) = fput n (f b) (fmap f F) := by
  unfold fput
  rw [fmap_ins, fmap_del]
theorem fmap_get (f : β → γ) (n : Nm) (F : List (Nm × β)) : fget n (fmap f F) = (fget n F).map f := by
  unfold fget fmap
  rw [List.find?_map, Option.map_map, Option.map_map]
  rfl
theorem mem_ins {x p : Nm × β} : ∀ {F : List (Nm × β)}, p ∈ fins x F ↔ p = x ∨ p ∈ F
  | [] => by simp [fins]
  | y :: r => by
    unfold fins
    by_cases h : bytesBefore x.1 y.1 = true
    · simp [h]
    · simp only [h, if_false, Bool.false_eq_true, List.mem_cons, mem_ins (F := r)]
      constructor
      · rintro (h | h | h) <;> simp [h]
      · rintro (h | h | h) <;> simp [h]
theorem mem_del {n : Nm} {p : Nm × β} {F : List (Nm × β)} : p ∈ fdel n F ↔ p ∈ F ∧ p.1 ≠ n := by
  simp [fdel, List.mem_filter]
theorem mem_put {n : Nm} {b : β} {p : Nm × β} {F : List (Nm × β)} : p ∈ fput n b F ↔ p = (n, b) ∨ (p ∈ F ∧ p.1 ≠ n) := by
  rw [fput, mem_ins, mem_del]
theorem len_ins (x : Nm × β) : ∀ F : List (Nm × β), (fins x F).length = F.length + 1
  | [] => rfl
  | y :: r => by
    unfold fins
    by_cases h : bytesBefore x.1 y.1 = true
    · simp [h]
    · simp [h, len_ins x r]
theorem len_del (n : Nm) (F : List (Nm × β)) : (fdel n F).length ≤ F.length := List.length_filter_le _ _
theorem len_put (n : Nm) (b : β) (F : List (Nm × β)) : (fput n b F).length ≤ F.length + 1 := by
  rw [fput, len_ins]
  have := len_del n F
  omega
theorem len_map (f : β → γ) (F : List (Nm × β)) : (fmap f F).length = F.length := by simp [fmap]

theorem srt_del {F : List (Nm × β)} (h : Srt F) (n : Nm) : Srt (fdel n F) := h.filter _
theorem srt_ins {x : Nm × β} : ∀ {F : List (Nm × β)}, Srt F → (∀ p ∈ F, p.1 ≠ x.1) → Srt (fins x F)
  | [], _, _ => by simp [fins, Srt]
  | y :: r, h, hne => by
    obtain ⟨h1, h2⟩ := List.pairwise_cons.1 h
    unfold fins
    by_cases hb : bytesBefore x.1 y.1 = true
    · rw [if_pos hb]
      refine List.pairwise_cons.2 ⟨fun q hq => ?_, h⟩
      rcases List.mem_cons.1 hq with rfl | hq
      · exact hb
      · exact bytes_trans _ _ _ hb (h1 q hq)
    · rw [if_neg hb]
      have hyx : bytesBefore y.1 x.1 = true := (WideAt.bytes_total _ _ (hne y (by simp))).resolve_right hb
      refine List.pairwise_cons.2 ⟨fun q hq => ?_, srt_ins h2 fun p hp => hne p (by simp [hp])⟩
      rcases mem_ins.1 hq with rfl | hq
      · exact hyx
      · exact h1 q hq
theorem srt_put {F : List (Nm × β)} (h : Srt F) (n : Nm) (b : β) : Srt (fput n b F) := srt_ins (srt_del h n) fun p hp => (mem_del.1 hp).2
theorem srt_nil : Srt ([] : List (Nm × β)) := List.Pairwise.nil
theorem srt_map {f : β → γ} {F : List (Nm × β)} (h : Srt F) : Srt (fmap f F) := by
  unfold Srt fmap
  rw [List.pairwise_map]
  exact h
theorem srt_of_map {f : β → γ} {F : List (Nm × β)} (h : Srt (fmap f F)) : Srt F := by
  unfold Srt fmap at h
  rw [List.pairwise_map] at h
  exact h
theorem srt_key {F : List (Nm × β)} (h : Srt F) {p q : Nm × β} (hp : p ∈ F) (hq : q ∈ F) (e : p.1 = q.1) : p = q := by
  induction F with
  | nil => simp at hp
  | cons y r ih =>
    obtain ⟨h1, h2⟩ := List.pairwise_cons.1 h
    rcases List.mem_cons.1 hp with hp1 | hp1 <;> rcases List.mem_cons.1 hq with hq1 | hq1
    · rw [hp1, hq1]
    · have := h1 q hq1
      rw [← e, hp1, WideAt.bytes_irrefl] at this
      cases this
    · have := h1 p hp1
      rw [e, hq1, WideAt.bytes_irrefl] at this
      cases this
    · exact ih h2 hp1 hq1
theorem fget_some {F : List (Nm × β)} (h : Srt F) {n : Nm} {b : β} : fget n F = some b ↔ (n, b) ∈ F := by
  unfold fget
  constructor
  · intro hg
    obtain ⟨p, hp, rfl⟩ := Option.map_eq_some_iff.1 hg
    have h1 := List.find?_some hp
    have h2 := List.mem_of_find?_eq_some hp
    obtain rfl : p.1 = n := by simpa using h1
    exact h2
  · intro hm
    cases hf : F.find? fun p => p.1 == n with
    | none => exact absurd (List.find?_eq_none.1 hf _ hm) (by simp)
    | some q =>
      have h1 := List.find?_some hf
      have h2 := List.mem_of_find?_eq_some hf
      have h3 : q.1 = n := by simpa using h1
      have := srt_key h h2 hm h3
      rw [this]
      rfl
theorem fget_none {F : List (Nm × β)} {n : Nm} : fget n F = none ↔ ∀ p ∈ F, p.1 ≠ n := by
  unfold fget
  rw [Option.map_eq_none_iff, List.find?_eq_none]
  constructor
  · intro h p hp
    simpa using h p hp
  · intro h p hp
    simpa using h p hp
/-- What is found at each name tells the files. -/
theorem files_ext {F G : List (Nm × β)} (hF : Srt F) (hG : Srt G) (h : ∀ p, p ∈ F ↔ p ∈ G) : F = G := by
  induction F generalizing G with
  | nil =>
    cases G with
    | nil => rfl
    | cons y r => exact absurd ((h y).2 (by simp)) (by simp)
  | cons x F ih =>
    cases G with
    | nil => exact absurd ((h x).1 (by simp)) (by simp)
    | cons y G =>
      obtain ⟨f1, f2⟩ := List.pairwise_cons.1 hF
      obtain ⟨g1, g2⟩ := List.pairwise_cons.1 hG
      have hxy : x = y := by
        rcases List.mem_cons.1 ((h x).1 (by simp)) with e | e
        · exact e
        · rcases List.mem_cons.1 ((h y).2 (by simp)) with e' | e'
          · exact e'.symm
          · have a1 := f1 y e'
            have a2 := g1 x e
            have := bytes_trans _ _ _ a1 a2
            rw [WideAt.bytes_irrefl] at this
            cases this
      subst hxy
      congr 1
      refine ih f2 g2 fun p => ⟨fun hp => ?_, fun hp => ?_⟩
      · rcases List.mem_cons.1 ((h p).1 (by simp [hp])) with e | e
        · have := f1 p hp
          rw [e, WideAt.bytes_irrefl] at this
          cases this
        · exact e
      · rcases List.mem_cons.1 ((h p).2 (by simp [hp])) with e | e
        · have := g1 p hp
          rw [e, WideAt.bytes_irrefl] at this
          cases this
        · exact e
theorem files_get {F G : List (Nm × β)} (hF : Srt F) (hG : Srt G) (h : ∀ n, fget n F = fget n G) : F = G := by
  refine files_ext hF hG fun p => ?_
  rw [← fget_some (n := p.1) (b := p.2) hF, ← fget_some (n := p.1) (b := p.2) hG, h]
theorem fget_put {F : List (Nm × β)} (h : Srt F) (n k : Nm) (b : β) : fget k (fput n b F) = if k = n then some b else fget k F := by
  by_cases e : k = n
  · rw [if_pos e, e]
    exact (fget_some (srt_put h n b)).2 (mem_put.2 (.inl rfl))
  · rw [if_neg e]
    cases hg : fget k F with
    | none =>
      rw [fget_none] at hg ⊢
      intro p hp
      rcases mem_put.1 hp with rfl | ⟨hp, _⟩
      · exact fun h => e h.symm
      · exact hg p hp
    | some c =>
      rw [fget_some h] at hg
      rw [fget_some (srt_put h n b)]
      exact mem_put.2 (.inr ⟨hg, e⟩)
theorem fget_del {F : List (Nm × β)} (h : Srt F) (n k : Nm) : fget k (fdel n F) = if k = n then none else fget k F := by
  by_cases e : k = n
  · rw [if_pos e, e, fget_none]
    exact fun p hp => (mem_del.1 hp).2
  · rw [if_neg e]
    cases hg : fget k F with
    | none =>
      rw [fget_none] at hg ⊢
      exact fun p hp => hg p (mem_del.1 hp).1
    | some c =>
      rw [fget_some h] at hg
      rw [fget_some (srt_del h n)]
      exact mem_del.2 ⟨hg, e⟩
end

/-! ### how many bytes files have -/
abbrev Files := List (Nm × List UInt8)
def fsize (F : Files) : Nat := (F.map fun p => p.2.length).sum
theorem fsize_ins (x : Nm × List UInt8) : ∀ F : Files, fsize (fins x F) = x.2.length + fsize F
  | [] => by simp [fins, fsize]
  | y :: r => by
    have ih := fsize_ins x r
    unfold fsize at ih ⊢
    unfold fins
    by_cases h : bytesBefore x.1 y.1 = true
    · simp [h]
    · simp only [h, if_false, Bool.false_eq_true, List.map_cons, List.sum_cons, ih]
      omega
def flen (n : Nm) (F : Files) : Nat := ((fget n F).getD []).length
theorem fsize_cons (y : Nm × List UInt8) (r : Files) : fsize (y :: r) = y.2.length + fsize r := by simp [fsize]
theorem fdel_none {F : Files} {n : Nm} (h : ∀ p ∈ F, p.1 ≠ n) : fdel n F = F := List.filter_eq_self.2 fun p hp => by simpa using h p hp
theorem fsize_del {F : Files} (h : Srt F) (n : Nm) : fsize (fdel n F) + flen n F = fsize F := by
  induction F with
  | nil => simp [fdel, fsize, flen, fget]
  | cons y r ih =>
    obtain ⟨h1, h2⟩ := List.pairwise_cons.1 h
    by_cases e : y.1 = n
    · have hr : fdel n r = r := fdel_none fun p hp e' => by
        have := h1 p hp
        rw [e, e', WideAt.bytes_irrefl] at this
        cases this
      have hd : fdel n (y :: r) = r := by
        unfold fdel at hr ⊢
        rw [List.filter_cons, hr, if_neg (by simp [e])]
      have hl : flen n (y :: r) = y.2.length := by simp [flen, fget, e]
      rw [hd, hl, fsize_cons]
      omega
    · have hd : fdel n (y :: r) = y :: fdel n r := by
        unfold fdel
        rw [List.filter_cons, if_pos (by simp [e])]
      have hl : flen n (y :: r) = flen n r := by simp [flen, fget, e]
      have := ih h2
      rw [hd, hl, fsize_cons, fsize_cons]
      omega
theorem fsize_put {F : Files} (h : Srt F) (n : Nm) (b : List UInt8) : fsize (fput n b F) + flen n F = b.length + fsize F := by
  rw [fput, fsize_ins]
  have := fsize_del h n
  simp only
  omega
theorem flen_le {F : Files} (h : Srt F) (n : Nm) : flen n F ≤ fsize F := by have := fsize_del h n; omega
theorem mem_len_le {F : Files} {p : Nm × List UInt8} (hp : p ∈ F) : p.2.length ≤ fsize F := by
  induction F with
  | nil => simp at hp
  | cons y r ih =>
    rw [fsize_cons]
    rcases List.mem_cons.1 hp with rfl | hp
    · omega
    · have := ih hp
      omega
/-- The bytes of those that are still to come. -/
def fleft (left : Nm → Bool) (F : Files) : Nat := fsize (F.filter fun p => left p.1)
theorem fleft_le (left : Nm → Bool) (F : Files) : fleft left F ≤ fsize F := by
  induction F with
  | nil => simp [fleft, fsize]
  | cons y r ih =>
    unfold fleft at ih ⊢
    rw [List.filter_cons]
    split
    · rw [fsize_cons, fsize_cons]; omega
    · rw [fsize_cons]; omega
theorem fleft_step {F : Files} (h : Srt F) {left left' : Nm → Bool} {n : Nm} {b : List UInt8} (hm : fget n F = some b) (hl : left n = true) (hn : left' n = false) (ho : ∀ k, k ≠ n → left' k = left k) : fleft left F = b.length + fleft left' F := by
  have hs : Srt (F.filter fun p => left p.1) := h.filter _
  have h1 := fsize_del hs n
  have h2 : fdel n (F.filter fun p => left p.1) = F.filter fun p => left' p.1 := by
    unfold fdel
    rw [List.filter_filter]
    refine List.filter_congr fun p _ => ?_
    by_cases e : p.1 = n
    · simp [e, hn]
    · simp [e, ho _ e]
  have h3 : flen n (F.filter fun p => left p.1) = b.length := by
    have : fget n (F.filter fun p => left p.1) = some b := (fget_some hs).2 (List.mem_filter.2 ⟨(fget_some h).1 hm, hl⟩)
    simp [flen, this]
  rw [h2, h3] at h1
  unfold fleft
  omega
end Go.Proofs.Ytggdkhgpkedbkaa
