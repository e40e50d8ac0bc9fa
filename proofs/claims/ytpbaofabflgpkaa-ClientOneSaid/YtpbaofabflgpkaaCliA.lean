/- A client: what its values are, and its plain laws. -/
import Derived.Test.YtpbaofabflgpkaaJA
namespace Go.Proofs.Ytpbaofabflgpkaa
set_option linter.unusedVariables false
set_option linter.unusedSimpArgs false
open Go.RowKit

/-- A call. -/
structure Cal where
  cl : Int
  inc : Nat
  n : Nat
  kind : Int
  ch : Int
  sub : Int
  seq : Nat
  at_ : Nat
  body : List UInt8
/-- A reply. -/
structure Rep where
  cl : Int
  inc : Nat
  n : Nat
  res : Int
  at_ : Nat
  own : Int
  prod : Int
  seq : Nat
  body : List UInt8
/-- A client. -/
structure Cli where
  id : Int
  inc : Nat
  n : Nat
  bs : List Int
  busy : Int
  call : Cal
  at_ : Nat
  born : Nat
  since : Nat
def iv (x : Int) : Value := .int .i64 x
def calL (C : Cal) (v : Value) : List Value := [.int .i64 C.cl, .int .u64 (C.inc : Int), .int .u64 (C.n : Int), .int .i64 C.kind, .int .i64 C.ch, .int .i64 C.sub, .int .u64 (C.seq : Int), .int .u64 (C.at_ : Int), v]
def repL (R : Rep) (v : Value) : List Value := [.int .i64 R.cl, .int .u64 (R.inc : Int), .int .u64 (R.n : Int), .int .i64 R.res, .int .u64 (R.at_ : Int), .int .i64 R.own, .int .i64 R.prod, .int .u64 (R.seq : Int), v]
def cliL (X : Cli) (vb vc : Value) : List Value := [.int .i64 X.id, .int .u64 (X.inc : Int), .int .u64 (X.n : Int), vb, .int .i64 X.busy, .int .i64 X.call.cl, .int .u64 (X.call.inc : Int), .int .u64 (X.call.n : Int), .int .i64 X.call.kind, .int .i64 X.call.ch, .int .i64 X.call.sub, .int .u64 (X.call.seq : Int), .int .u64 (X.call.at_ : Int), vc, .int .i64 (X.at_ : Int), .int .u64 (X.born : Int), .int .u64 (X.since : Int)]
def wkL (X : Cli) (vb vc : Value) (now : Nat) (vs : Value) : List Value := cliL X vb vc ++ [.int .u64 (now : Int), vs]
/-- A value is a slice of these bytes, of these numbers; its block is one of which K is true. -/
def SlB (K : Nat → Prop) (w : World) (v : Value) (l : List UInt8) : Prop := ∃ A c, v = .slice A l.length c ∧ Bytes w A l ∧ l.length ≤ c ∧ c ≤ 9223372036854775807 ∧ (0 < l.length → ∀ ad, A = some ad → K ad.block)
def SlI (K : Nat → Prop) (w : World) (v : Value) (xs : List Int) : Prop := ∃ A c, v = .slice A xs.length c ∧ Reads w 1 A xs.length (xs.map iv) ∧ xs.length ≤ c ∧ c ≤ 9223372036854775807 ∧ (0 < xs.length → ∀ ad, A = some ad → K ad.block)
/-- A value is a slice of one call on its way. -/
def SlS (K : Nat → Prop) (w : World) (v : Value) : Option (Int × Cal) → Prop
  | none => v = .slice none 0 0
  | some (to, C) => ∃ g c vc, v = .slice (some ⟨g, 0, none⟩) 1 c ∧ 1 ≤ c ∧ c ≤ 9223372036854775807 ∧ Reads w 10 (some ⟨g, 0, none⟩) 1 (.int .i64 to :: calL C vc) ∧ SlB K w vc C.body ∧ K g
section
variable {K K' S : Nat → Prop} {w w' : World} {v : Value}
theorem reads_mod {size n : Nat} {A : Option Addr} {xs : List Value} (h : Reads w size A n xs) (hm : Mod S w w') (hK : 0 < n → ∀ ad, A = some ad → ¬ S ad.block) : Reads w' size A n xs := by
  rcases Nat.eq_zero_or_pos n with h0 | h0
  · subst h0
    exact ⟨by have := h.1; simpa using this, fun h => absurd h (by omega)⟩
  · exact h.mod hm (hK h0)
theorem SlB.below {l : List UInt8} (h : SlB K w v l) (hb : Below w.heap.size w w') : SlB K w' v l := by
  obtain ⟨A, c, e, h1, h2⟩ := h
  exact ⟨A, c, e, h1.below hb, h2⟩
theorem SlI.below {l : List Int} (h : SlI K w v l) (hb : Below w.heap.size w w') : SlI K w' v l := by
  obtain ⟨A, c, e, h1, h2⟩ := h
  exact ⟨A, c, e, Reads.below h1 hb, h2⟩
theorem SlB.mod {l : List UInt8} (h : SlB K w v l) (hm : Mod S w w') (hK : ∀ b, K b → ¬ S b) : SlB K w' v l := by
  obtain ⟨A, c, e, h1, h2, h3, h4⟩ := h
  exact ⟨A, c, e, reads_mod h1 hm fun h0 ad ea => hK _ (h4 h0 ad ea), h2, h3, h4⟩
theorem SlI.mod {l : List Int} (h : SlI K w v l) (hm : Mod S w w') (hK : ∀ b, K b → ¬ S b) : SlI K w' v l := by
  obtain ⟨A, c, e, h1, h2, h3, h4⟩ := h
  exact ⟨A, c, e, reads_mod h1 hm fun h0 ad ea => hK _ (h4 h0 ad ea), h2, h3, h4⟩
theorem SlB.weak {l : List UInt8} (h : SlB K w v l) (hK : ∀ b, b < w.heap.size → K b → K' b) : SlB K' w v l := by
  obtain ⟨A, c, e, h1, h2, h3, h4⟩ := h
  refine ⟨A, c, e, h1, h2, h3, fun h0 ad ea => hK _ ?_ (h4 h0 ad ea)⟩
  obtain ⟨ad', e', hb, _⟩ := h1.2 h0
  rw [ea] at e'
  injection e' with e'
  rw [e']
  exact hb
theorem SlI.weak {l : List Int} (h : SlI K w v l) (hK : ∀ b, b < w.heap.size → K b → K' b) : SlI K' w v l := by
  obtain ⟨A, c, e, h1, h2, h3, h4⟩ := h
  refine ⟨A, c, e, h1, h2, h3, fun h0 ad ea => hK _ ?_ (h4 h0 ad ea)⟩
  obtain ⟨ad', e', hb, _⟩ := h1.2 h0
  rw [ea] at e'
  injection e' with e'
  rw [e']
  exact hb
theorem SlS.below {T : Option (Int × Cal)} (h : SlS K w v T) (hb : Below w.heap.size w w') : SlS K w' v T := by
  cases T with
  | none => exact h
  | some x =>
    obtain ⟨g, c, vc, e, h1, h2, h3, h4, h5⟩ := h
    exact ⟨g, c, vc, e, h1, h2, Reads.below h3 hb, h4.below hb, h5⟩
theorem SlS.mod {T : Option (Int × Cal)} (h : SlS K w v T) (hm : Mod S w w') (hK : ∀ b, K b → ¬ S b) : SlS K w' v T := by
  cases T with
  | none => exact h
  | some x =>
    obtain ⟨g, c, vc, e, h1, h2, h3, h4, h5⟩ := h
    exact ⟨g, c, vc, e, h1, h2, reads_mod h3 hm fun _ ad ea => by injection ea with ea; subst ea; exact hK _ h5, h4.mod hm hK, h5⟩
theorem SlS.weak {T : Option (Int × Cal)} (h : SlS K w v T) (hK : ∀ b, b < w.heap.size → K b → K' b) : SlS K' w v T := by
  cases T with
  | none => exact h
  | some x =>
    obtain ⟨g, c, vc, e, h1, h2, h3, h4, h5⟩ := h
    refine ⟨g, c, vc, e, h1, h2, h3, h4.weak hK, hK _ ?_ h5⟩
    obtain ⟨ad', e', hb, _⟩ := h3.2 (by decide)
    injection e' with e'
    rw [← e'] at hb
    exact hb
theorem SlB.nil (K : Nat → Prop) (w : World) : SlB K w (.slice none 0 0) [] := ⟨none, 0, rfl, Reads.nil_ _ _ _, Nat.le_refl _, by decide, fun h => absurd h (by decide)⟩
theorem SlI.nil (K : Nat → Prop) (w : World) : SlI K w (.slice none 0 0) [] := ⟨none, 0, rfl, Reads.nil_ _ _ _, Nat.le_refl _, by decide, fun h => absurd h (by decide)⟩
end
def zRep : Rep := { cl := 0, inc := 0, n := 0, res := 0, at_ := 0, own := 0, prod := 0, seq := 0, body := [] }
def zCal : Cal := { cl := 0, inc := 0, n := 0, kind := 0, ch := 0, sub := 0, seq := 0, at_ := 0, body := [] }
def zCli : Cli := { id := 0, inc := 0, n := 0, bs := [], busy := 0, call := zCal, at_ := 0, born := 0, since := 0 }
/-- May a call be? -/
def MayP (C : Cal) : Prop :=
  (1 ≤ C.cl ∧ C.cl ≤ 15 ∧ (1 ≤ C.inc ∧ C.inc ≤ 4611686018427387903) ∧ (1 ≤ C.n ∧ C.n ≤ 4611686018427387903) ∧ 1 ≤ C.ch ∧ C.ch ≤ 3 ∧ C.at_ ≤ 4611686018427387903) ∧
  ((C.kind = 1 ∧ (1 ≤ C.seq ∧ C.seq ≤ 4611686018427387903) ∧ C.at_ = 0 ∧ C.sub = 0) ∨
   ((C.kind = 2 ∨ C.kind = 3) ∧ C.sub = 0 ∧ C.seq = 0 ∧ C.body.length = 0) ∨
   ((C.kind = 4 ∨ C.kind = 5) ∧ (1 ≤ C.sub ∧ C.sub ≤ 3) ∧ C.seq = 0 ∧ C.body.length = 0) ∨
   (C.kind = 6 ∧ (1 ≤ C.sub ∧ C.sub ≤ 3) ∧ C.seq = 0 ∧ C.body.length = 0 ∧ C.at_ = 0))
instance (C : Cal) : Decidable (MayP C) := by unfold MayP; infer_instance
def mayC (C : Cal) : Bool := decide (MayP C)
/-- What a client does: plain. -/
def Good (X : Cli) : Prop := X.at_ < X.bs.length ∧ X.bs.length ≤ 3 ∧ X.n ≤ 100000
def sentX (X : Cli) : Option (Int × Cal) := some (X.bs.getD X.at_ 0, X.call)
def nextX (X : Cli) : Cli := { X with at_ := if X.at_ + 1 < X.bs.length then X.at_ + 1 else 0 }
def callX (X : Cli) (C : Cal) : Cal := { C with cl := X.id, inc := X.inc, n := X.n + 1 }
def startX (X : Cli) (now : Nat) (C : Cal) : Cli := { X with busy := 1, call := callX X C, born := now, n := X.n + 1, since := now }
def startE (X : Cli) (C : Cal) : Int := if mayC (callX X C) = false then 1 else if X.busy = 1 then 5 else 0
/-- What a reply, what a tick does. -/
structure Turn where
  cli : Cli
  sent : Option (Int × Cal)
  rep : Option Rep
def mineX (X : Cli) (R : Rep) : Prop := X.busy = 1 ∧ R.cl = X.call.cl ∧ R.inc = X.call.inc ∧ R.n = X.call.n
instance (X : Cli) (R : Rep) : Decidable (mineX X R) := by unfold mineX; infer_instance
def takeX (X : Cli) (now : Nat) (R : Rep) : Turn :=
  if ¬ mineX X R then { cli := X, sent := none, rep := none }
  else if R.res = 1 ∨ R.res = 2 then
    (match X.bs.findIdx? (fun b => decide (b = R.own)) with
     | some k => if k = X.at_ then { cli := nextX X, sent := none, rep := none } else { cli := { X with at_ := k, since := now }, sent := sentX { X with at_ := k }, rep := none }
     | none => { cli := nextX X, sent := none, rep := none })
  else { cli := { X with busy := 0 }, sent := none, rep := some R }
def tickX (X : Cli) (now : Nat) : Turn :=
  if X.busy ≠ 1 then { cli := X, sent := none, rep := none }
  else if 240 ≤ now - X.born then { cli := { X with busy := 0 }, sent := none, rep := some { zRep with cl := X.call.cl, inc := X.call.inc, n := X.call.n, res := 3 } }
  else if 3 ≤ now - X.since then
    (if 9 ≤ now - X.born then { cli := { nextX X with since := now }, sent := sentX (nextX X), rep := none } else { cli := { X with since := now }, sent := sentX X, rep := none })
  else { cli := X, sent := none, rep := none }
/-- What is answered then. -/
def TurnPost (K : Nat → Prop) (e : Ending) (w' : World) (T : Turn) : Prop := ∃ vb vc sv vr, e = .returned (.tuple #[.agg (cliL T.cli vb vc).toArray, sv, .agg (repL (T.rep.getD zRep) vr).toArray, .bool T.rep.isSome]) ∧ SlI K w' vb T.cli.bs ∧ SlB K w' vc T.cli.call.body ∧ SlS K w' sv T.sent ∧ SlB K w' vr (T.rep.getD zRep).body
theorem nextX_good {X : Cli} (h : Good X) : Good (nextX X) := by
  obtain ⟨h1, h2, h3⟩ := h
  refine ⟨?_, h2, h3⟩
  show (if X.at_ + 1 < X.bs.length then X.at_ + 1 else 0) < X.bs.length
  split <;> omega
/-- What goes on through a turn. -/
structure Goes (X : Cli) (T : Turn) : Prop where
  good : Good T.cli
  id : T.cli.id = X.id
  inc : T.cli.inc = X.inc
  n : T.cli.n = X.n
  bs : T.cli.bs = X.bs
  call : T.cli.call = X.call
  busy : T.cli.busy = if T.rep.isSome then 0 else X.busy
  sent : ∀ x, T.sent = some x → X.busy = 1 ∧ x.1 ∈ X.bs ∧ x.2 = X.call
  rep : ∀ r, T.rep = some r → X.busy = 1 ∧ r.cl = X.call.cl ∧ r.inc = X.call.inc ∧ r.n = X.call.n
theorem sent_mem {X : Cli} (h : Good X) : X.bs.getD X.at_ 0 ∈ X.bs := by
  rw [List.getD_eq_getElem?_getD, List.getElem?_eq_getElem h.1]
  exact List.getElem_mem _
theorem tick_goes {X : Cli} (h : Good X) (now : Nat) : Goes X (tickX X now) := by
  have hn := nextX_good h
  unfold tickX
  by_cases hb : X.busy = 1
  · rw [if_neg (by simp [hb])]
    split
    · refine ⟨h, rfl, rfl, rfl, rfl, rfl, rfl, fun x e => (by cases e), fun r e => ?_⟩
      injection e with e
      subst e
      exact ⟨hb, rfl, rfl, rfl⟩
    · split
      · split
        · refine ⟨hn, rfl, rfl, rfl, rfl, rfl, rfl, fun x e => ?_, fun r e => by cases e⟩
          injection e with e
          subst e
          exact ⟨hb, sent_mem hn, rfl⟩
        · refine ⟨h, rfl, rfl, rfl, rfl, rfl, rfl, fun x e => ?_, fun r e => by cases e⟩
          injection e with e
          subst e
          exact ⟨hb, sent_mem h, rfl⟩
      · exact ⟨h, rfl, rfl, rfl, rfl, rfl, rfl, fun x e => (by cases e), fun r e => (by cases e)⟩
  · rw [if_pos hb]
    exact ⟨h, rfl, rfl, rfl, rfl, rfl, rfl, fun x e => (by cases e), fun r e => (by cases e)⟩
theorem take_goes {X : Cli} (h : Good X) (now : Nat) (R : Rep) : Goes X (takeX X now R) := by
  have hn := nextX_good h
  unfold takeX
  by_cases hm : mineX X R
  · rw [if_neg (by simp [hm])]
    split
    · cases hf : X.bs.findIdx? (fun b => decide (b = R.own)) with
      | none => exact ⟨hn, rfl, rfl, rfl, rfl, rfl, rfl, fun x e => (by cases e), fun r e => (by cases e)⟩
      | some k =>
        have hk : k < X.bs.length := by
          obtain ⟨h1, _⟩ := List.findIdx?_eq_some_iff_getElem.1 hf
          exact h1
        have hg : Good { X with at_ := k } := ⟨hk, h.2⟩
        simp only
        split
        · exact ⟨hn, rfl, rfl, rfl, rfl, rfl, rfl, fun x e => (by cases e), fun r e => (by cases e)⟩
        · refine ⟨hg, rfl, rfl, rfl, rfl, rfl, rfl, fun x e => ?_, fun r e => (by cases e)⟩
          injection e with e
          subst e
          exact ⟨hm.1, sent_mem hg, rfl⟩
    · refine ⟨h, rfl, rfl, rfl, rfl, rfl, rfl, fun x e => (by cases e), fun r e => ?_⟩
      injection e with e
      subst e
      exact hm
  · rw [if_pos hm]
    exact ⟨h, rfl, rfl, rfl, rfl, rfl, rfl, fun x e => (by cases e), fun r e => (by cases e)⟩
theorem take_rep {X : Cli} {now : Nat} {R r : Rep} (h : (takeX X now R).rep = some r) : r = R := by
  unfold takeX at h
  split at h
  · cases h
  · split at h
    · split at h
      · split at h <;> cases h
      · cases h
    · injection h with h
      exact h.symm
theorem tick_rep {X : Cli} {now : Nat} {r : Rep} (h : (tickX X now).rep = some r) : r.res = 3 := by
  unfold tickX at h
  split at h
  · cases h
  · split at h
    · injection h with h
      rw [← h]
    · split at h
      · split at h <;> cases h
      · cases h
theorem take_stale {X : Cli} {now : Nat} {R : Rep} (h : ¬ mineX X R) : takeX X now R = { cli := X, sent := none, rep := none } := by
  unfold takeX
  rw [if_pos h]
end Go.Proofs.Ytpbaofabflgpkaa
