/- Joined texts: JuA, JuB, JuC, JcA, JcB, JcC, JcG, JcL, JcF. -/
import Derived.Test.YtpjmolnkmlpfeaaGreatDoorJR
import Derived.Test.YtpjmolnkmlpfeaaGreatDoorJB
/- Histories of calls: plain. What a call does to a model, what courses a history has. -/
set_option linter.unusedVariables false
set_option linter.unusedSimpArgs false
namespace Go.Proofs.YtpjmolnkmlpfeaaGreatDoor
set_option maxRecDepth 100000

/-- An entry, a model, a note, a call of a history, a course. -/
structure Ent where
 prod : Int
 seq : Nat
 body : List UInt8
structure Mdl where
 log : List Ent
 trim : Nat
 cur : List Nat
structure Nte where
 kind : Int
 call : Cal
 rep : Rep
structure Opr where
 call : Cal
 rep : Rep
 known : Bool
structure Crs where
 m : Mdl
 done : List Nat
theorem Ent.ext' {a b : Ent} (h1 : a.prod = b.prod) (h2 : a.seq = b.seq) (h3 : a.body = b.body) : a = b := by
 cases a; cases b; simp only at h1 h2 h3; subst h1 h2 h3; rfl
instance : DecidableEq Ent := fun a b =>
 if h : a.prod = b.prod ∧ a.seq = b.seq ∧ a.body = b.body then .isTrue (Ent.ext' h.1 h.2.1 h.2.2)
 else .isFalse fun e => h (by subst e; exact ⟨rfl, rfl, rfl⟩)
theorem Mdl.ext' {a b : Mdl} (h1 : a.log = b.log) (h2 : a.trim = b.trim) (h3 : a.cur = b.cur) : a = b := by
 cases a; cases b; simp only at h1 h2 h3; subst h1 h2 h3; rfl
instance : DecidableEq Mdl := fun a b =>
 if h : a.log = b.log ∧ a.trim = b.trim ∧ a.cur = b.cur then .isTrue (Mdl.ext' h.1 h.2.1 h.2.2)
 else .isFalse fun e => h (by subst e; exact ⟨rfl, rfl, rfl⟩)
theorem Cal.ext' {a b : Cal} (h1 : a.cl = b.cl) (h2 : a.inc = b.inc) (h3 : a.n = b.n) (h4 : a.kind = b.kind) (h5 : a.ch = b.ch) (h6 : a.sub = b.sub) (h7 : a.seq = b.seq) (h8 : a.at_ = b.at_) (h9 : a.body = b.body) : a = b := by
 cases a; cases b; simp only at h1 h2 h3 h4 h5 h6 h7 h8 h9; subst h1 h2 h3 h4 h5 h6 h7 h8 h9; rfl
instance : DecidableEq Cal := fun a b =>
 if h : a.cl = b.cl ∧ a.inc = b.inc ∧ a.n = b.n ∧ a.kind = b.kind ∧ a.ch = b.ch ∧ a.sub = b.sub ∧ a.seq = b.seq ∧ a.at_ = b.at_ ∧ a.body = b.body then
  .isTrue (Cal.ext' h.1 h.2.1 h.2.2.1 h.2.2.2.1 h.2.2.2.2.1 h.2.2.2.2.2.1 h.2.2.2.2.2.2.1 h.2.2.2.2.2.2.2.1 h.2.2.2.2.2.2.2.2)
 else .isFalse fun e => h (by subst e; exact ⟨rfl, rfl, rfl, rfl, rfl, rfl, rfl, rfl, rfl⟩)
def zEnt : Ent := { prod := 0, seq := 0, body := [] }
def zMdl : Mdl := { log := [], trim := 0, cur := [] }

/-- A row of three cursors. -/
def own3 (l : List Nat) : List Nat := [l.getD 0 0, l.getD 1 0, l.getD 2 0]
def ownM (M : Mdl) : Mdl := { M with cur := own3 M.cur }
def sameM (A B : Mdl) : Bool := decide (A.trim = B.trim) && decide (own3 A.cur = own3 B.cur) && decide (A.log = B.log)
def laterK (log : List Ent) (k : Nat) : Option Nat → Bool
 | none => true
 | some j => decide ((log.getD j zEnt).seq < (log.getD k zEnt).seq)
/-- The place of a producer's last entry among the first ones. -/
def lastK (log : List Ent) (p : Int) : Nat → Option Nat
 | 0 => none
 | k + 1 => if (log.getD k zEnt).prod = p ∧ laterK log k (lastK log p k) = true then some k else lastK log p k
def lastOf (M : Mdl) (p : Int) : Option Nat := lastK M.log p M.log.length
theorem lastK_lt {log : List Ent} {p : Int} : ∀ {k j : Nat}, lastK log p k = some j → j < k
 | 0, j, h => by cases h
 | k + 1, j, h => by
  rw [lastK] at h
  split at h
  ·injection h with h; omega
  ·have := lastK_lt h; omega
theorem lastOf_lt {M : Mdl} {p : Int} {j : Nat} (h : lastOf M p = some j) : j < M.log.length := lastK_lt h
def freshM (M : Mdl) (C : Cal) : Bool := match lastOf M C.cl with | none => true | some k => decide ((M.log.getD k zEnt).seq < C.seq)
def withM (M : Mdl) (C : Cal) : Mdl := { M with log := M.log ++ [{ prod := C.cl, seq := C.seq, body := C.body }] }
def longC (C : Cal) : Bool := decide (64 < C.body.length)
/-- What a call does to a model of three cursors. -/
def publishM (M : Mdl) (C : Cal) (R : Rep) : Option Mdl :=
 if R.res = 5 then (if longC C then some M else none)
 else if R.res = 6 then (match lastOf M C.cl with | none => none | some k => if C.seq < (M.log.getD k zEnt).seq then some M else none)
 else if R.res ≠ 0 ∨ longC C = true then none
 else if freshM M C then (if R.at_ = M.log.length then some (withM M C) else none)
 else match lastOf M C.cl with | none => none | some k => if (M.log.getD k zEnt).seq = C.seq ∧ R.at_ = k then some M else none
def readM (M : Mdl) (C : Cal) (R : Rep) : Bool :=
 if R.res = 8 then decide (C.at_ < M.trim)
 else if R.res = 7 then decide (M.trim ≤ C.at_ ∧ M.log.length ≤ C.at_)
 else if R.res = 0 then decide (R.at_ = C.at_ ∧ M.trim ≤ C.at_ ∧ C.at_ < M.log.length ∧ M.log.getD C.at_ zEnt = { prod := R.prod, seq := R.seq, body := R.body })
 else false
def setC (M : Mdl) (C : Cal) (x : Nat) : Mdl := { M with cur := M.cur.set (C.sub - 1).toNat x }
def getC (M : Mdl) (C : Cal) : Nat := M.cur.getD (C.sub - 1).toNat 0
def subOk (C : Cal) : Bool := decide (1 ≤ C.sub ∧ C.sub ≤ 3)
def curTo (M : Mdl) (C : Cal) : Nat := if C.kind = 4 then max (getC M C) C.at_ else if C.kind = 5 then C.at_ else getC M C
def doesO (M : Mdl) (C : Cal) (R : Rep) : Option Mdl :=
 if C.kind = 1 then publishM M C R
 else if C.kind = 2 then (if readM M C R then some M else none)
 else if C.kind = 3 then (if R.res = 0 ∧ M.trim ≤ R.at_ ∧ (R.at_ = M.trim ∨ R.at_ ≤ min C.at_ M.log.length) then some { M with trim := R.at_ } else none)
 else if C.kind = 4 ∨ C.kind = 5 ∨ C.kind = 6 then (if subOk C = true ∧ R.res = 0 then (if R.at_ = curTo M C then some (setC M C (curTo M C)) else none) else none)
 else none
def mightO (M : Mdl) (C : Cal) : List Mdl :=
 if C.kind = 1 then (if longC C = false ∧ freshM M C = true then [withM M C] else [])
 else if C.kind = 3 then (List.range (min C.at_ M.log.length - M.trim)).map fun i => { M with trim := M.trim + i + 1 }
 else if C.kind = 4 ∨ C.kind = 5 then (if subOk C then [setC M C (curTo M C)] else [])
 else []
def doesM (M : Mdl) (C : Cal) (R : Rep) : Option Mdl := doesO (ownM M) C R
def mightM (M : Mdl) (C : Cal) : List Mdl := mightO (ownM M) C

/-- A call's name. -/
def idOf (C : Cal) : Int × Nat × Nat := (C.cl, C.inc, C.n)
def repId (R : Rep) : Int × Nat × Nat := (R.cl, R.inc, R.n)
/-- May a note stand behind these? -/
def isAt (p : List Nte) (x : Nte) : Prop :=
 (x.kind = 1 ∧ (∀ y ∈ p, y.kind = 1 → idOf y.call ≠ idOf x.call) ∧ MayP x.call) ∨
 (x.kind = 2 ∧ (∃ y ∈ p, y.kind = 1 ∧ y.call = x.call) ∧ (∀ y ∈ p, y.kind = 2 → idOf y.call ≠ idOf x.call) ∧ idOf x.call = repId x.rep)
instance (p : List Nte) (x : Nte) : Decidable (isAt p x) := by unfold isAt; infer_instance
/-- Are these notes a history, behind those? -/
def isFrom (p : List Nte) : List Nte → Prop
 | [] => True
 | x :: r => isAt p x ∧ isFrom (p ++ [x]) r
instance decFrom : ∀ (r p : List Nte), Decidable (isFrom p r)
 | [], _ => .isTrue trivial
 | x :: r, p => have := decFrom r (p ++ [x]); inferInstanceAs (Decidable (isAt p x ∧ isFrom (p ++ [x]) r))
def IsH (h : List Nte) : Prop := isFrom [] h
instance (h : List Nte) : Decidable (IsH h) := decFrom h []
theorem isFrom_app : ∀ (a p b : List Nte), isFrom p (a ++ b) ↔ isFrom p a ∧ isFrom (p ++ a) b
 | [], p, b => by simp [isFrom]
 | x :: a, p, b => by
  simp only [List.cons_append, isFrom, isFrom_app a (p ++ [x]) b, List.append_assoc, List.singleton_append, and_assoc, List.nil_append]
theorem IsH.take {h : List Nte} (k : Nat) (hh : IsH h) : IsH (h.take k) := by
 have : IsH (h.take k ++ h.drop k) := by rw [List.take_append_drop]; exact hh
 exact ((isFrom_app _ _ _).1 this).1
theorem IsH.at_ {h : List Nte} (hh : IsH h) {k : Nat} (hk : k < h.length) : isAt (h.take k) h[k] := by
 have : IsH (h.take k ++ h.drop k) := by rw [List.take_append_drop]; exact hh
 have h2 := ((isFrom_app _ _ _).1 this).2
 rw [List.drop_eq_getElem_cons hk] at h2
 exact h2.1

/-- Does a reply end a call for good? -/
def knownR (r : Int) : Bool := decide (r ≠ 3 ∧ r ≠ 4 ∧ r ≠ 1 ∧ r ≠ 2)
/-- The number of a call among a channel's. -/
def opIx (ops : List Opr) (C : Cal) : Nat := ops.findIdx fun o => decide (idOf o.call = idOf C)
def stepOp (n : Int) (ops : List Opr) (x : Nte) : List Opr :=
 if x.call.ch ≠ n then ops
 else if x.kind = 1 then ops ++ [{ call := x.call, rep := zRep, known := false }]
 else if knownR x.rep.res then ops.modify (opIx ops x.call) fun o => { o with known := true, rep := x.rep }
 else ops
def opsOf (h : List Nte) (n : Int) : List Opr := h.foldl (stepOp n) []
/-- A number among others in order. -/
def insS (k : Nat) : List Nat → List Nat
 | [] => [k]
 | x :: r => if k ≤ x then k :: x :: r else x :: insS k r
theorem mem_insS {k a : Nat} : ∀ {l : List Nat}, a ∈ insS k l ↔ a = k ∨ a ∈ l
 | [] => by simp [insS]
 | x :: r => by
  rw [insS]
  split
  ·simp
  ·simp only [List.mem_cons, mem_insS (l := r)]
   constructor
   ·rintro (h | h | h)
    ·exact .inr (.inl h)
    ·exact .inl h
    ·exact .inr (.inr h)
   ·rintro (h | h | h)
    ·exact .inr (.inl h)
    ·exact .inl h
    ·exact .inr (.inr h)
theorem insS_perm (k : Nat) : ∀ l : List Nat, (insS k l).Perm (k :: l)
 | [] => List.Perm.refl _
 | x :: r => by
  rw [insS]
  split
  ·exact List.Perm.refl _
  ·exact ((insS_perm k r).cons x).trans (List.Perm.swap k x r)
theorem insS_sorted {k : Nat} : ∀ {l : List Nat}, l.Pairwise (· ≤ ·) → (insS k l).Pairwise (· ≤ ·)
 | [], _ => by simp [insS]
 | x :: r, h => by
  rw [insS]
  have hx := List.pairwise_cons.1 h
  split
  ·rename_i hk
   refine List.pairwise_cons.2 ⟨fun a ha => ?_, h⟩
   rcases List.mem_cons.1 ha with rfl | ha
   ·exact hk
   ·exact Nat.le_trans hk (hx.1 a ha)
  ·rename_i hk
   refine List.pairwise_cons.2 ⟨fun a ha => ?_, insS_sorted hx.2⟩
   rcases mem_insS.1 ha with rfl | ha
   ·omega
   ·exact hx.1 a ha
/-- The models that a call makes; the courses behind a course. -/
def nextL (ops : List Opr) (k : Nat) (M : Mdl) : List Mdl :=
 match ops[k]? with
 | none => []
 | some o => if o.known then (doesM M o.call o.rep).toList else mightM M o.call
def stepC (ops : List Opr) (c : Crs) (k : Nat) : List Crs := if k ∈ c.done then [] else (nextL ops k c.m).map fun m => { m := m, done := insS k c.done }
def succL (ops : List Opr) (op : List Nat) (c : Crs) : List Crs := op.flatMap (stepC ops c)
def reachL (ops : List Opr) (op : List Nat) (x : Nat) : Nat → Crs → List Crs
 | 0, c => [c]
 | f + 1, c => c :: if x ∈ c.done then [] else (succL ops op c).flatMap (reachL ops op x f)
def dropC (x : Nat) (c : Crs) : Crs := { c with done := c.done.filter fun k => !decide (k = x) }
def allL (ops : List Opr) (op : List Nat) (x : Nat) (all : List Crs) : List Crs := all.flatMap (reachL ops op x op.length)
def leftL (ops : List Opr) (op : List Nat) (x : Nat) (all : List Crs) : List Crs := ((allL ops op x all).filter fun c => decide (x ∈ c.done)).map (dropC x)
def c0 : Crs := { m := ownM zMdl, done := [] }
/-- What comes of a channel's history. -/
def chanGo (ops : List Opr) (n : Int) : List Nte → List Crs → List Nat → Bool
 | [], _, _ => true
 | x :: r, all, op =>
  if x.call.ch ≠ n then chanGo ops n r all op
  else if x.kind = 1 then chanGo ops n r all (op ++ [opIx ops x.call])
  else if (ops[opIx ops x.call]?.map (·.known)).getD false = false then chanGo ops n r all op
  else if (leftL ops op (opIx ops x.call) all).length = 0 then false
  else chanGo ops n r (leftL ops op (opIx ops x.call) all) (op.filter fun i => !decide (i = opIx ops x.call))
/-- Is it too much to tell? -/
def fullGo (ops : List Opr) (n : Int) : List Nte → List Crs → List Nat → Prop
 | [], _, _ => False
 | x :: r, all, op =>
  if x.call.ch ≠ n then fullGo ops n r all op
  else if x.kind = 1 then fullGo ops n r all (op ++ [opIx ops x.call])
  else if (ops[opIx ops x.call]?.map (·.known)).getD false = false then fullGo ops n r all op
  else 3000 < (allL ops op (opIx ops x.call) all).length ∨
   (if (leftL ops op (opIx ops x.call) all).length = 0 then False
    else fullGo ops n r (leftL ops op (opIx ops x.call) all) (op.filter fun i => !decide (i = opIx ops x.call)))
def chanP (h : List Nte) (n : Int) : Bool := chanGo (opsOf h n) n h [c0] []
def fullP (h : List Nte) (n : Int) : Prop := fullGo (opsOf h n) n h [c0] []
/-- What is answered. -/
def MayPost (h : List Nte) (b : Bool) (e : Int) : Prop :=
 (¬ IsH h ∧ b = false ∧ e = 1) ∨
 (IsH h ∧ 2000 < h.length ∧ b = false ∧ e = 7) ∨
 (IsH h ∧ h.length ≤ 2000 ∧
  ((b = true ∧ e = 0 ∧ chanP h 1 = true ∧ chanP h 2 = true ∧ chanP h 3 = true) ∨
   (b = false ∧ e = 0 ∧ (chanP h 1 = false ∨ chanP h 2 = false ∨ chanP h 3 = false)) ∨
   (b = false ∧ e = 3 ∧ (fullP h 1 ∨ fullP h 2 ∨ fullP h 3))))
end Go.Proofs.YtpjmolnkmlpfeaaGreatDoor

/- A course's word tells it. -/
namespace Go.Proofs.YtpjmolnkmlpfeaaGreatDoor
set_option maxRecDepth 100000

def entW (e : Ent) : List UInt8 := [e.prod.toNat, e.seq].flatMap short ++ (short e.body.length ++ e.body)
def wordC (c : Crs) : List UInt8 := [c.m.log.length, c.m.trim].flatMap short ++ c.m.log.flatMap entW ++ c.m.cur.flatMap short ++ c.done.flatMap short
structure OkE (e : Ent) : Prop where
 prod0 : 0 ≤ e.prod
 prod1 : e.prod < 9223372036854775808
 seq : e.seq < 18446744073709551616
 body : e.body.length ≤ 1000000
structure OkM (M : Mdl) : Prop where
 ent : ∀ e ∈ M.log, OkE e
 log : M.log.length ≤ 100000
 trim : M.trim < 18446744073709551616
 cur : ∀ x ∈ M.cur, x < 18446744073709551616
structure OkC (c : Crs) : Prop where
 m : OkM c.m
 cur3 : c.m.cur.length = 3
 done : ∀ k ∈ c.done, k < 100000
 doneN : c.done.length ≤ 100000
 sorted : c.done.Pairwise (· ≤ ·)
theorem short_inj {x y : Nat} {r s : List UInt8} (hx : x < 18446744073709551616) (hy : y < 18446744073709551616) (h : short x ++ r = short y ++ s) : x = y ∧ r = s := by
 have h1 := num_whole x 0 r (by decide) (fun h => absurd h (by decide)) (by simpa using hx)
 have h2 := num_whole y 0 s (by decide) (fun h => absurd h (by decide)) (by simpa using hy)
 rw [h] at h1
 have h3 := h1.symm.trans h2
 injection h3 with h3
 have e1 : x = y := congrArg Prod.fst h3
 subst e1
 exact ⟨rfl, List.append_cancel_left h⟩
theorem entW_inj {a b : Ent} (ha : OkE a) (hb : OkE b) {r s : List UInt8} (h : entW a ++ r = entW b ++ s) : a = b ∧ r = s := by
 simp only [entW, List.flatMap_cons, List.flatMap_nil, List.append_nil, List.append_assoc] at h
 have a0 := ha.prod0; have a1 := ha.prod1; have b0 := hb.prod0; have b1 := hb.prod1
 have a2 := ha.body; have b2 := hb.body
 obtain ⟨e1, h⟩ := short_inj (by omega) (by omega) h
 obtain ⟨e2, h⟩ := short_inj ha.seq hb.seq h
 obtain ⟨e3, h⟩ := short_inj (by omega) (by omega) h
 obtain ⟨e4, h⟩ := List.append_inj h e3
 exact ⟨Ent.ext' (by omega) e2 e4, h⟩
theorem log_inj : ∀ {a b : List Ent} {r s : List UInt8}, (∀ e ∈ a, OkE e) → (∀ e ∈ b, OkE e) → a.length = b.length → a.flatMap entW ++ r = b.flatMap entW ++ s → a = b ∧ r = s
 | [], [], _, _, _, _, _, h => ⟨rfl, by simpa using h⟩
 | [], _ :: _, _, _, _, _, hl, _ => by simp at hl
 | _ :: _, [], _, _, _, _, hl, _ => by simp at hl
 | x :: a, y :: b, r, s, ha, hb, hl, h => by
  simp only [List.flatMap_cons, List.append_assoc] at h
  obtain ⟨e1, h⟩ := entW_inj (ha x (by simp)) (hb y (by simp)) h
  obtain ⟨e2, h⟩ := log_inj (fun e he => ha e (by simp [he])) (fun e he => hb e (by simp [he])) (by simpa using hl) h
  exact ⟨by rw [e1, e2], h⟩
theorem shorts_inj : ∀ {a b : List Nat} {r s : List UInt8}, (∀ e ∈ a, e < 18446744073709551616) → (∀ e ∈ b, e < 18446744073709551616) → a.length = b.length → a.flatMap short ++ r = b.flatMap short ++ s → a = b ∧ r = s
 | [], [], _, _, _, _, _, h => ⟨rfl, by simpa using h⟩
 | [], _ :: _, _, _, _, _, hl, _ => by simp at hl
 | _ :: _, [], _, _, _, _, hl, _ => by simp at hl
 | x :: a, y :: b, r, s, ha, hb, hl, h => by
  simp only [List.flatMap_cons, List.append_assoc] at h
  obtain ⟨e1, h⟩ := short_inj (ha x (by simp)) (hb y (by simp)) h
  obtain ⟨e2, h⟩ := shorts_inj (fun e he => ha e (by simp [he])) (fun e he => hb e (by simp [he])) (by simpa using hl) h
  exact ⟨by rw [e1, e2], h⟩
theorem shorts_all : ∀ {a b : List Nat}, (∀ e ∈ a, e < 18446744073709551616) → (∀ e ∈ b, e < 18446744073709551616) → a.flatMap short = b.flatMap short → a = b
 | [], [], _, _, _ => rfl
 | [], y :: b, _, _, h => by
  have := short_len_pos y
  have h := congrArg List.length h
  simp only [List.flatMap_cons, List.flatMap_nil, List.length_append, List.length_nil] at h
  omega
 | x :: a, [], _, _, h => by
  have := short_len_pos x
  have h := congrArg List.length h
  simp only [List.flatMap_cons, List.flatMap_nil, List.length_append, List.length_nil] at h
  omega
 | x :: a, y :: b, ha, hb, h => by
  simp only [List.flatMap_cons] at h
  obtain ⟨e1, h⟩ := short_inj (ha x (by simp)) (hb y (by simp)) h
  rw [e1, shorts_all (fun e he => ha e (by simp [he])) (fun e he => hb e (by simp [he])) h]
theorem wordC_inj {a b : Crs} (ha : OkC a) (hb : OkC b) (h : wordC a = wordC b) : a = b := by
 simp only [wordC, List.flatMap_cons, List.flatMap_nil, List.append_nil, List.append_assoc] at h
 have a0 := ha.m.log; have b0 := hb.m.log
 obtain ⟨e1, h⟩ := short_inj (by omega) (by omega) h
 obtain ⟨e2, h⟩ := short_inj ha.m.trim hb.m.trim h
 obtain ⟨e3, h⟩ := log_inj ha.m.ent hb.m.ent e1 h
 obtain ⟨e4, h⟩ := shorts_inj ha.m.cur hb.m.cur (by rw [ha.cur3, hb.cur3]) h
 have e5 := shorts_all (fun e he => by have := ha.done e he; omega) (fun e he => by have := hb.done e he; omega) h
 cases a; cases b
 simp only at e5 e3 e2 e4
 rw [e5, Mdl.ext' e3 e2 e4]
theorem shorts_len : ∀ {l : List Nat}, (∀ x ∈ l, x < 18446744073709551616) → (l.flatMap short).length ≤ 10 * l.length
 | [], _ => by simp
 | x :: l, h => by
  have h1 := short_len (h x (by simp))
  have h2 := shorts_len (l := l) fun y hy => h y (by simp [hy])
  simp only [List.flatMap_cons, List.length_append, List.length_cons]
  omega
theorem entW_len {e : Ent} (h : OkE e) : (entW e).length ≤ 1000030 := by
 have h1 := short_len (y := e.prod.toNat) (by have := h.prod0; have := h.prod1; omega)
 have h2 := short_len h.seq
 have h4 := h.body
 have h3 := short_len (y := e.body.length) (by omega)
 simp only [entW, List.flatMap_cons, List.flatMap_nil, List.append_nil, List.length_append]
 omega
theorem ents_len : ∀ {l : List Ent}, (∀ e ∈ l, OkE e) → (l.flatMap entW).length ≤ 1000030 * l.length
 | [], _ => by simp
 | x :: l, h => by
  have h1 := entW_len (h x (by simp))
  have h2 := ents_len (l := l) fun y hy => h y (by simp [hy])
  simp only [List.flatMap_cons, List.length_append, List.length_cons]
  omega
theorem wordC_len {c : Crs} (h : OkC c) : (wordC c).length ≤ 100010000000 := by
 have h1 := ents_len h.m.ent
 have h2 := h.m.log
 have h3 := shorts_len h.m.cur
 have h4 := shorts_len (l := c.done) fun e he => by have := h.done e he; omega
 have h5 := h.doneN
 have h6 := h.cur3
 have h7 := short_len (y := c.m.log.length) (by omega)
 have h8 := short_len h.m.trim
 simp only [wordC, List.flatMap_cons, List.flatMap_nil, List.append_nil, List.length_append]
 omega
end Go.Proofs.YtpjmolnkmlpfeaaGreatDoor

/- Courses that are come to: plain. -/
namespace Go.Proofs.YtpjmolnkmlpfeaaGreatDoor
set_option maxRecDepth 100000

section
variable {ops : List Opr} {op : List Nat} {x : Nat}
/-- How many open calls are not done. -/
def freeN (op d : List Nat) : Nat := (op.filter fun k => !decide (k ∈ d)).length
theorem filter_lt {α : Type} {p q : α → Bool} : ∀ {l : List α}, (∀ a ∈ l, q a = true → p a = true) → (∃ a ∈ l, p a = true ∧ q a = false) → (l.filter q).length < (l.filter p).length
 | [], _, ⟨_, h, _⟩ => by cases h
 | b :: l, h, ⟨a, ha, h1, h2⟩ => by
  have hle : ∀ {l : List α}, (∀ a ∈ l, q a = true → p a = true) → (l.filter q).length ≤ (l.filter p).length := by
   intro l
   induction l with
   | nil => simp
   | cons c l ih =>
    intro h
    have := ih fun a ha => h a (by simp [ha])
    rw [List.filter_cons, List.filter_cons]
    by_cases hq : q c = true
    ·rw [if_pos hq, if_pos (h c (by simp) hq)]
     simp only [List.length_cons]
     omega
    ·rw [if_neg hq]
     split
     ·simp only [List.length_cons]; omega
     ·exact this
  rw [List.filter_cons, List.filter_cons]
  rcases List.mem_cons.1 ha with rfl | ha
  ·rw [if_pos h1, if_neg (by rw [h2]; decide)]
   have := hle (l := l) fun b hb => h b (by simp [hb])
   simp only [List.length_cons]
   omega
  ·have ih := filter_lt (fun b hb => h b (by simp [hb])) ⟨a, ha, h1, h2⟩
   by_cases hq : q b = true
   ·rw [if_pos hq, if_pos (h b (by simp) hq)]
    simp only [List.length_cons]
    omega
   ·rw [if_neg hq]
    split
    ·simp only [List.length_cons]; omega
    ·exact ih
theorem freeN_step {k : Nat} {d : List Nat} (hk : k ∈ op) (hd : k ∉ d) : freeN op (insS k d) < freeN op d :=
 filter_lt (fun a _ h => by simp [mem_insS] at h ⊢; exact h.2) ⟨k, hk, by simp [hd], by simp [mem_insS]⟩
theorem freeN_le (d : List Nat) : freeN op d ≤ op.length := List.length_filter_le _ _
theorem mem_stepC {c e : Crs} {k : Nat} : e ∈ stepC ops c k ↔ k ∉ c.done ∧ ∃ m ∈ nextL ops k c.m, e = { m := m, done := insS k c.done } := by
 unfold stepC
 split
 ·rename_i h
  simp [h]
 ·rename_i h
  simp only [List.mem_map, h, not_false_eq_true, true_and]
  exact ⟨fun ⟨m, hm, e⟩ => ⟨m, hm, e.symm⟩, fun ⟨m, hm, e⟩ => ⟨m, hm, e.symm⟩⟩
theorem mem_succL {c e : Crs} : e ∈ succL ops op c ↔ ∃ k ∈ op, e ∈ stepC ops c k := by
 unfold succL
 rw [List.mem_flatMap]
theorem succ_free {c e : Crs} (h : e ∈ succL ops op c) : freeN op e.done < freeN op c.done := by
 obtain ⟨k, hk, h⟩ := mem_succL.1 h
 obtain ⟨h1, m, _, rfl⟩ := mem_stepC.1 h
 exact freeN_step hk h1
/-- One course is come to from another. -/
inductive Rch (ops : List Opr) (op : List Nat) (x : Nat) : Crs → Crs → Prop
 | refl (c : Crs) : Rch ops op x c c
 | step {c e d : Crs} (h : x ∉ c.done) (h2 : e ∈ succL ops op c) (h3 : Rch ops op x e d) : Rch ops op x c d
theorem Rch.snoc {c e d : Crs} (h : Rch ops op x c e) (h1 : x ∉ e.done) (h2 : d ∈ succL ops op e) : Rch ops op x c d := by
 induction h with
 | refl c => exact .step h1 h2 (.refl _)
 | step a b _ ih => exact .step a b (ih h1 h2)
theorem reachL_sound : ∀ {f : Nat} {c d : Crs}, d ∈ reachL ops op x f c → Rch ops op x c d
 | 0, c, d, h => by
  simp [reachL] at h
  subst h
  exact .refl _
 | f + 1, c, d, h => by
  rw [reachL] at h
  rcases List.mem_cons.1 h with rfl | h
  ·exact .refl _
  ·split at h
   ·cases h
   ·rename_i hx
    obtain ⟨e, he, h⟩ := List.mem_flatMap.1 h
    exact .step hx he (reachL_sound h)
theorem reachL_whole {c d : Crs} (h : Rch ops op x c d) : ∀ {f : Nat}, freeN op c.done ≤ f → d ∈ reachL ops op x f c := by
 induction h with
 | refl c =>
  intro f _
  cases f <;> simp [reachL]
 | step hx he _ ih =>
  intro f hf
  have := succ_free he
  cases f with
  | zero => omega
  | succ f =>
   rw [reachL, if_neg hx]
   exact List.mem_cons_of_mem _ (List.mem_flatMap.2 ⟨_, he, ih (by omega)⟩)
theorem mem_allL {all : List Crs} {d : Crs} : d ∈ allL ops op x all ↔ ∃ c ∈ all, Rch ops op x c d := by
 unfold allL
 rw [List.mem_flatMap]
 exact ⟨fun ⟨c, hc, h⟩ => ⟨c, hc, reachL_sound h⟩, fun ⟨c, hc, h⟩ => ⟨c, hc, reachL_whole h (freeN_le _)⟩⟩
theorem mem_leftL {all : List Crs} {l : Crs} : l ∈ leftL ops op x all ↔ ∃ c ∈ all, ∃ d, Rch ops op x c d ∧ x ∈ d.done ∧ l = dropC x d := by
 unfold leftL
 rw [List.mem_map]
 constructor
 ·rintro ⟨d, hd, rfl⟩
  rw [List.mem_filter] at hd
  obtain ⟨c, hc, h⟩ := mem_allL.1 hd.1
  exact ⟨c, hc, d, h, by simpa using hd.2, rfl⟩
 ·rintro ⟨c, hc, d, h, hx, rfl⟩
  exact ⟨d, List.mem_filter.2 ⟨mem_allL.2 ⟨c, hc, h⟩, by simpa using hx⟩, rfl⟩
/-- What is owed for a course that was looked at. -/
def Clo (ops : List Opr) (op : List Nat) (x : Nat) (S L : List Crs) (d : Crs) : Prop := (x ∈ d.done → dropC x d ∈ L) ∧ (x ∉ d.done → ∀ e ∈ succL ops op d, e ∈ S)
/-- From those seen, S, and those left, L, one has come to S' and L'; under way are those of U. -/
structure Trv (ops : List Opr) (op : List Nat) (x : Nat) (R : Crs → Prop) (U : Crs → Prop) (S L S' L' : List Crs) : Prop where
 subS : ∀ d ∈ S, d ∈ S'
 subL : ∀ d ∈ L, d ∈ L'
 clo : ∀ d ∈ S', d ∉ S → ¬ U d → Clo ops op x S' L' d
 reach : ∀ d ∈ S', R d
 left : ∀ l ∈ L', l ∈ L ∨ ∃ d ∈ S', x ∈ d.done ∧ l = dropC x d
variable {R U : Crs → Prop} {S L S1 L1 S2 L2 : List Crs}
def nobody (_ : Crs) : Prop := False
theorem Trv.refl (hR : ∀ d ∈ S, R d) : Trv ops op x R U S L S L := ⟨fun _ h => h, fun _ h => h, fun _ h hn => absurd h hn, hR, fun _ h => .inl h⟩
theorem Trv.trans (h : Trv ops op x R U S L S1 L1) (k : Trv ops op x R nobody S1 L1 S2 L2) : Trv ops op x R U S L S2 L2 where
 subS d hd := k.subS d (h.subS d hd)
 subL d hd := k.subL d (h.subL d hd)
 clo d hd hn hU := by
  by_cases h1 : d ∈ S1
  ·obtain ⟨c1, c2⟩ := h.clo d h1 hn hU
   exact ⟨fun hx => k.subL _ (c1 hx), fun hx e he => k.subS _ (c2 hx e he)⟩
  ·exact k.clo d hd h1 fun h => h
 reach := k.reach
 left l hl := by
  rcases k.left l hl with h1 | h1
  ·rcases h.left l h1 with h2 | ⟨d, hd, h3⟩
   ·exact .inl h2
   ·exact .inr ⟨d, k.subS d hd, h3⟩
  ·exact .inr h1
theorem Trv.start {c : Crs} (hR : ∀ d ∈ S, R d) (hc : R c) : Trv ops op x R (fun d => d = c) S L (c :: S) L where
 subS d hd := List.mem_cons_of_mem _ hd
 subL d hd := hd
 clo d hd hn hU := by
  rcases List.mem_cons.1 hd with h | h
  ·exact absurd h hU
  ·exact absurd h hn
 reach d hd := by
  rcases List.mem_cons.1 hd with rfl | h
  ·exact hc
  ·exact hR d h
 left l hl := .inl hl
theorem Trv.finish {c : Crs} (h : Trv ops op x R (fun d => d = c) S L S1 L1) (hc : Clo ops op x S1 L1 c) : Trv ops op x R nobody S L S1 L1 where
 subS := h.subS
 subL := h.subL
 clo d hd hn _ := by
  by_cases e : d = c
  ·rw [e]; exact hc
  ·exact h.clo d hd hn e
 reach := h.reach
 left := h.left
/-- One that has the call done is left. -/
theorem Trv.put {c : Crs} (hR : ∀ d ∈ S, R d) (hc : R c) (hx : x ∈ c.done) (hL : ∀ l, l ∈ L1 ↔ l = dropC x c ∨ l ∈ L) : Trv ops op x R nobody S L (c :: S) L1 where
 subS d hd := List.mem_cons_of_mem _ hd
 subL d hd := (hL d).2 (.inr hd)
 clo d hd hn _ := by
  rcases List.mem_cons.1 hd with rfl | h
  ·exact ⟨fun _ => (hL _).2 (.inl rfl), fun h => absurd hx h⟩
  ·exact absurd h hn
 reach d hd := by
  rcases List.mem_cons.1 hd with rfl | h
  ·exact hc
  ·exact hR d h
 left l hl := by
  rcases (hL l).1 hl with h | h
  ·exact .inr ⟨c, by simp, hx, h⟩
  ·exact .inl h
theorem Trv.closed (h : Trv ops op x R nobody [] [] S1 L1) {c d : Crs} (hr : Rch ops op x c d) (hc : c ∈ S1) : d ∈ S1 := by
 induction hr with
 | refl c => exact hc
 | step hx he _ ih => exact ih ((h.clo _ hc (by simp) (fun h => h)).2 hx _ he)
/-- At the end. -/
theorem Trv.all {all : List Crs} (h : Trv ops op x (fun d => ∃ c ∈ all, Rch ops op x c d) nobody [] [] S1 L1) (ha : ∀ c ∈ all, c ∈ S1) (l : Crs) : l ∈ L1 ↔ l ∈ leftL ops op x all := by
 rw [mem_leftL]
 constructor
 ·intro hl
  rcases h.left l hl with h1 | ⟨d, hd, hx, e⟩
  ·cases h1
  ·obtain ⟨c, hc, hr⟩ := h.reach d hd
   exact ⟨c, hc, d, hr, hx, e⟩
 ·rintro ⟨c, hc, d, hr, hx, rfl⟩
  exact (h.clo d (h.closed hr (ha c hc)) (by simp) (fun h => h)).1 hx
theorem nodup_le {α : Type} [DecidableEq α] : ∀ {l m : List α}, l.Nodup → (∀ a ∈ l, a ∈ m) → l.length ≤ m.length
 | [], _, _, _ => Nat.zero_le _
 | a :: l, m, h, hs => by
  have hn := List.nodup_cons.1 h
  have ha := hs a (by simp)
  have := nodup_le (m := m.erase a) hn.2 fun b hb => (List.mem_erase_of_ne (fun e : b = a => hn.1 (by rw [← e]; exact hb))).2 (hs b (by simp [hb]))
  rw [List.length_erase_of_mem ha] at this
  have := List.length_pos_of_mem ha
  simp only [List.length_cons]
  omega
end
/-- Set by set the same. -/
theorem leftL_congr {ops : List Opr} {op : List Nat} {x : Nat} {all all' : List Crs} (h : ∀ c, c ∈ all ↔ c ∈ all') (l : Crs) : l ∈ leftL ops op x all ↔ l ∈ leftL ops op x all' := by
 rw [mem_leftL, mem_leftL]
 constructor
 ·rintro ⟨c, hc, r⟩
  exact ⟨c, (h c).1 hc, r⟩
 ·rintro ⟨c, hc, r⟩
  exact ⟨c, (h c).2 hc, r⟩
instance : DecidableEq Crs := fun a b =>
 if h : a.m = b.m ∧ a.done = b.done then .isTrue (by cases a; cases b; simp only at h; rw [h.1, h.2])
 else .isFalse fun e => h (by subst e; exact ⟨rfl, rfl⟩)
end Go.Proofs.YtpjmolnkmlpfeaaGreatDoor

/- The calls of a channel's history: plain. -/
namespace Go.Proofs.YtpjmolnkmlpfeaaGreatDoor
set_option maxRecDepth 100000

theorem snoc_ind {α : Type} {P : List α → Prop} (h0 : P []) (h1 : ∀ p x, P p → P (p ++ [x])) (l : List α) : P l := by
 have : ∀ l : List α, P l.reverse := by
  intro l
  induction l with
  | nil => exact h0
  | cons a l ih => rw [List.reverse_cons]; exact h1 _ _ ih
 have h := this l.reverse
 rwa [List.reverse_reverse] at h
theorem find_nodup {ops : List Opr} (hn : (ops.map fun o => idOf o.call).Nodup) {k : Nat} (hk : k < ops.length) {C : Cal} (e : idOf ops[k].call = idOf C) : opIx ops C = k := by
 unfold opIx
 have hl : ops.findIdx (fun o => decide (idOf o.call = idOf C)) < ops.length := List.findIdx_lt_length.2 ⟨ops[k], List.getElem_mem hk, decide_eq_true e⟩
 have h1 := of_decide_eq_true (List.findIdx_getElem (w := hl))
 have h2 := List.pairwise_iff_getElem.1 hn
 have key : ∀ i j (hi : i < ops.length) (hj : j < ops.length), idOf ops[i].call = idOf ops[j].call → ¬ i < j := by
  intro i j hi hj e hlt
  have := h2 i j (by rw [List.length_map]; exact hi) (by rw [List.length_map]; exact hj) hlt
  simp only [List.getElem_map] at this
  exact this e
 have a := key _ k hl hk (by rw [h1, e])
 have b := key k _ hk hl (by rw [h1, e])
 omega
theorem find_mem {ops : List Opr} {o : Opr} (ho : o ∈ ops) {C : Cal} (e : idOf o.call = idOf C) : opIx ops C < ops.length := List.findIdx_lt_length.2 ⟨o, ho, decide_eq_true e⟩
theorem find_id {ops : List Opr} {C : Cal} (h : opIx ops C < ops.length) : idOf ops[opIx ops C].call = idOf C := of_decide_eq_true (List.findIdx_getElem (w := h))
/-- What the calls of the notes p are. -/
structure OpsI (n : Int) (p : List Nte) (ops : List Opr) : Prop where
 ids : (ops.map fun o => idOf o.call).Nodup
 mem : ∀ o ∈ ops, ∃ y ∈ p, y.kind = 1 ∧ y.call = o.call ∧ y.call.ch = n
 mem' : ∀ y ∈ p, y.kind = 1 → y.call.ch = n → ∃ o ∈ ops, o.call = y.call
 kn : ∀ o ∈ ops, o.known = true → ∃ y ∈ p, y.kind = 2 ∧ y.call = o.call ∧ y.rep = o.rep ∧ knownR y.rep.res = true
 kn' : ∀ y ∈ p, y.kind = 2 → y.call.ch = n → knownR y.rep.res = true → ∃ o ∈ ops, o.call = y.call ∧ o.known = true ∧ o.rep = y.rep
 un : ∀ o ∈ ops, o.known = false → o.rep = zRep
/-- More of it is known. -/
structure Ext (a b : List Opr) : Prop where
 len : a.length ≤ b.length
 call : ∀ i (h : i < a.length), b[i].call = a[i].call
 known : ∀ i (h : i < a.length), a[i].known = true → b[i] = a[i]
theorem Ext.refl (a : List Opr) : Ext a a := ⟨Nat.le_refl _, fun _ _ => rfl, fun _ _ _ => rfl⟩
theorem Ext.trans {a b c : List Opr} (h : Ext a b) (k : Ext b c) : Ext a c :=
 ⟨Nat.le_trans h.len k.len, fun i hi => (k.call i (Nat.lt_of_lt_of_le hi h.len)).trans (h.call i hi), fun i hi hk => by
  have e := h.known i hi hk
  rw [k.known i (Nat.lt_of_lt_of_le hi h.len) (by rw [e]; exact hk), e]⟩
theorem ops_snoc (p : List Nte) (x : Nte) (n : Int) : opsOf (p ++ [x]) n = stepOp n (opsOf p n) x := by
 unfold opsOf
 rw [List.foldl_append]
 rfl
theorem nodup_snoc {α : Type} {l : List α} {a : α} (h : l.Nodup) (ha : a ∉ l) : (l ++ [a]).Nodup := by
 rw [List.nodup_append]
 exact ⟨h, by simp, fun x hx y hy e => by
  rw [List.mem_singleton] at hy
  exact ha (by rw [← hy, ← e]; exact hx)⟩
theorem mem_modify {ops : List Opr} {k : Nat} {f : Opr → Opr} {o : Opr} (h : o ∈ ops.modify k f) : ∃ i, ∃ hi : i < ops.length, (i = k ∧ o = f ops[i]) ∨ (i ≠ k ∧ o = ops[i]) := by
 obtain ⟨i, hi, e⟩ := List.mem_iff_getElem.1 h
 rw [List.length_modify] at hi
 rw [List.getElem_modify] at e
 by_cases h1 : k = i
 ·rw [if_pos h1] at e
  exact ⟨i, hi, .inl ⟨h1.symm, e.symm⟩⟩
 ·rw [if_neg h1] at e
  exact ⟨i, hi, .inr ⟨fun h => h1 h.symm, e.symm⟩⟩
theorem same_call {p : List Nte} (hp : IsH p) {x y : Nte} (hx : x ∈ p) (hy : y ∈ p) (e : idOf x.call = idOf y.call) : x.call = y.call := by
 -- both are the calls of one beginning
 have key : ∀ (p : List Nte), IsH p → (∀ x ∈ p, ∃ z ∈ p, z.kind = 1 ∧ z.call = x.call) ∧ (∀ x ∈ p, ∀ y ∈ p, x.kind = 1 → y.kind = 1 → idOf x.call = idOf y.call → x.call = y.call) := by
  intro p
  induction p using snoc_ind with
  | h0 => intro _; exact ⟨fun _ h => (by cases h), fun _ h => (by cases h)⟩
  | h1 p x ih =>
   intro h
   obtain ⟨h1, h2, _⟩ := (isFrom_app p [] [x]).1 h
   rw [List.nil_append] at h2
   obtain ⟨i1, i2⟩ := ih h1
   refine ⟨fun a ha => ?_, fun a ha b hb ka kb e => ?_⟩
   ·rcases List.mem_append.1 ha with ha | ha
    ·obtain ⟨z, hz, r⟩ := i1 a ha
     exact ⟨z, List.mem_append_left _ hz, r⟩
    ·rw [List.mem_singleton] at ha
     subst ha
     rcases h2 with ⟨k, _⟩ | ⟨_, ⟨y, hy, r⟩, _⟩
     ·exact ⟨a, by simp, k, rfl⟩
     ·exact ⟨y, List.mem_append_left _ hy, r⟩
   ·rcases List.mem_append.1 ha with ha' | ha' <;> rcases List.mem_append.1 hb with hb' | hb'
    ·exact i2 a ha' b hb' ka kb e
    ·have hb2 := List.mem_singleton.1 hb'
     rw [hb2] at kb e ⊢
     rcases h2 with ⟨_, hu, _⟩ | ⟨k, _⟩
     ·exact absurd e (hu a ha' ka)
     ·omega
    ·have ha2 := List.mem_singleton.1 ha'
     rw [ha2] at ka e ⊢
     rcases h2 with ⟨_, hu, _⟩ | ⟨k, _⟩
     ·exact absurd e.symm (hu b hb' kb)
     ·omega
    ·rw [List.mem_singleton.1 ha', List.mem_singleton.1 hb']
 obtain ⟨k1, k2⟩ := key p hp
 obtain ⟨a, ha, ka, ea⟩ := k1 x hx
 obtain ⟨b, hb, kb, eb⟩ := k1 y hy
 rw [← ea, ← eb]
 exact k2 a ha b hb ka kb (by rw [ea, eb, e])
theorem OpsI.nil (n : Int) : OpsI n [] [] := ⟨by simp, fun _ h => (by cases h), fun _ h => (by cases h), fun _ h => (by cases h), fun _ h => (by cases h), fun _ h => (by cases h)⟩
theorem OpsI.step {n : Int} {p : List Nte} {x : Nte} {ops : List Opr} (h : OpsI n p ops) (hp : IsH (p ++ [x])) : OpsI n (p ++ [x]) (stepOp n ops x) ∧ Ext ops (stepOp n ops x) := by
 obtain ⟨hp1, hx, _⟩ := (isFrom_app p [] [x]).1 hp
 rw [List.nil_append] at hx
 have up : ∀ {P : Nte → Prop}, (∃ y ∈ p, P y) → ∃ y ∈ p ++ [x], P y := fun ⟨y, hy, r⟩ => ⟨y, List.mem_append_left _ hy, r⟩
 have idsame : ∀ y ∈ p, idOf y.call = idOf x.call → y.call = x.call := fun y hy e => same_call hp (List.mem_append_left _ hy) (by simp) e
 unfold stepOp
 by_cases hc : x.call.ch = n
 ·rw [if_neg (fun h => h hc)]
  rcases hx with ⟨k1, hu, hm⟩ | ⟨k2, ⟨b, hb, kb, eb⟩, hu, hr⟩
  ·rw [if_pos k1]
   refine ⟨⟨?_, ?_, ?_, ?_, ?_, ?_⟩, ⟨by simp, fun i hi => by rw [List.getElem_append_left hi], fun i hi _ => by rw [List.getElem_append_left hi]⟩⟩
   ·rw [List.map_append]
    refine nodup_snoc h.ids fun hm => ?_
    obtain ⟨o, ho, e⟩ := List.mem_map.1 hm
    obtain ⟨y, hy, ky, ey, _⟩ := h.mem o ho
    exact hu y hy ky (by rw [ey]; exact e)
   ·intro o ho
    rcases List.mem_append.1 ho with ho | ho
    ·exact up (h.mem o ho)
    ·rw [List.mem_singleton] at ho
     subst ho
     exact ⟨x, by simp, k1, rfl, hc⟩
   ·intro y hy ky cy
    rcases List.mem_append.1 hy with hy | hy
    ·obtain ⟨o, ho, e⟩ := h.mem' y hy ky cy
     exact ⟨o, List.mem_append_left _ ho, e⟩
    ·rw [List.mem_singleton] at hy
     subst hy
     exact ⟨{ call := y.call, rep := zRep, known := false }, List.mem_append_right _ (List.mem_singleton.2 rfl), rfl⟩
   ·intro o ho kn
    rcases List.mem_append.1 ho with ho | ho
    ·exact up (h.kn o ho kn)
    ·rw [List.mem_singleton] at ho
     subst ho
     cases kn
   ·intro y hy ky cy kr
    rcases List.mem_append.1 hy with hy | hy
    ·obtain ⟨o, ho, e⟩ := h.kn' y hy ky cy kr
     exact ⟨o, List.mem_append_left _ ho, e⟩
    ·rw [List.mem_singleton] at hy
     subst hy
     omega
   ·intro o ho kn
    rcases List.mem_append.1 ho with ho | ho
    ·exact h.un o ho kn
    ·rw [List.mem_singleton] at ho
     subst ho
     rfl
  ·rw [if_neg (by omega)]
   by_cases hk : knownR x.rep.res = true
   ·rw [if_pos hk]
    obtain ⟨ob, hob, eob⟩ := h.mem' b hb kb (by rw [eb]; exact hc)
    have hlt : opIx ops x.call < ops.length := find_mem hob (by rw [eob, eb])
    have hid := find_id hlt
    have hcall : ops[opIx ops x.call].call = x.call := by
     obtain ⟨y, hy, _, ey, _⟩ := h.mem _ (List.getElem_mem hlt)
     rw [← ey]
     exact idsame y hy (by rw [ey, hid])
    have hunk : ops[opIx ops x.call].known = false := by
     cases hkn : ops[opIx ops x.call].known with
     | false => rfl
     | true =>
      obtain ⟨y, hy, ky, ey, _⟩ := h.kn _ (List.getElem_mem hlt) hkn
      exact absurd (by rw [ey, hcall]) (hu y hy ky)
    have hmap : (ops.modify (opIx ops x.call) fun o => { o with known := true, rep := x.rep }).map (fun o => idOf o.call) = ops.map fun o => idOf o.call := by
     refine List.ext_getElem (by simp) fun i h1 h2 => ?_
     simp only [List.getElem_map, List.getElem_modify]
     split <;> rfl
    refine ⟨⟨by rw [hmap]; exact h.ids, ?_, ?_, ?_, ?_, ?_⟩, ⟨by simp, fun i hi => ?_, fun i hi hki => ?_⟩⟩
    ·intro o ho
     obtain ⟨i, hi, ⟨_, e⟩ | ⟨_, e⟩⟩ := mem_modify ho
     ·rw [e]; exact up (h.mem ops[i] (List.getElem_mem hi))
     ·rw [e]; exact up (h.mem _ (List.getElem_mem hi))
    ·intro y hy ky cy
     rcases List.mem_append.1 hy with hy | hy
     ·obtain ⟨o, ho, e⟩ := h.mem' y hy ky cy
      obtain ⟨i, hi, rfl⟩ := List.mem_iff_getElem.1 ho
      refine ⟨_, List.getElem_mem (by rw [List.length_modify]; exact hi), ?_⟩
      rw [List.getElem_modify]
      split
      ·exact e
      ·exact e
     ·rw [List.mem_singleton] at hy
      subst hy
      omega
    ·intro o ho kn
     obtain ⟨i, hi, ⟨ei, e⟩ | ⟨_, e⟩⟩ := mem_modify ho
     ·subst ei
      rw [e]
      exact ⟨x, by simp, k2, hcall.symm, rfl, hk⟩
     ·rw [e] at kn ⊢
      exact up (h.kn _ (List.getElem_mem hi) kn)
    ·intro y hy ky cy kr
     rcases List.mem_append.1 hy with hy | hy
     ·obtain ⟨o, ho, e, kn, er⟩ := h.kn' y hy ky cy kr
      obtain ⟨i, hi, rfl⟩ := List.mem_iff_getElem.1 ho
      refine ⟨_, List.getElem_mem (by rw [List.length_modify]; exact hi), ?_⟩
      have hne : opIx ops x.call ≠ i := fun h => by subst h; rw [hunk] at kn; cases kn
      rw [List.getElem_modify, if_neg hne]
      exact ⟨e, kn, er⟩
     ·rw [List.mem_singleton] at hy
      subst hy
      refine ⟨_, List.getElem_mem (by rw [List.length_modify]; exact hlt), ?_⟩
      rw [List.getElem_modify, if_pos rfl]
      exact ⟨hcall, rfl, rfl⟩
    ·intro o ho kn
     obtain ⟨i, hi, ⟨ei, e⟩ | ⟨_, e⟩⟩ := mem_modify ho
     ·rw [e] at kn; cases kn
     ·rw [e] at kn ⊢
      exact h.un _ (List.getElem_mem hi) kn
    ·rw [List.getElem_modify]
     split <;> rfl
    ·have hne : opIx ops x.call ≠ i := fun h => by subst h; rw [hunk] at hki; cases hki
     rw [List.getElem_modify, if_neg hne]
   ·rw [if_neg hk]
    refine ⟨⟨h.ids, fun o ho => up (h.mem o ho), ?_, fun o ho kn => up (h.kn o ho kn), ?_, h.un⟩, Ext.refl _⟩
    ·intro y hy ky cy
     rcases List.mem_append.1 hy with hy | hy
     ·exact h.mem' y hy ky cy
     ·rw [List.mem_singleton] at hy
      subst hy
      omega
    ·intro y hy ky cy kr
     rcases List.mem_append.1 hy with hy | hy
     ·exact h.kn' y hy ky cy kr
     ·rw [List.mem_singleton] at hy
      subst hy
      exact absurd kr hk
 ·rw [if_pos hc]
  refine ⟨⟨h.ids, fun o ho => up (h.mem o ho), ?_, fun o ho kn => up (h.kn o ho kn), ?_, h.un⟩, Ext.refl _⟩
  ·intro y hy ky cy
   rcases List.mem_append.1 hy with hy | hy
   ·exact h.mem' y hy ky cy
   ·rw [List.mem_singleton] at hy
    subst hy
    exact absurd cy hc
  ·intro y hy ky cy kr
   rcases List.mem_append.1 hy with hy | hy
   ·exact h.kn' y hy ky cy kr
   ·rw [List.mem_singleton] at hy
    subst hy
    exact absurd cy hc
theorem OpsI.of {n : Int} : ∀ {p : List Nte}, IsH p → OpsI n p (opsOf p n) := by
 intro p
 induction p using snoc_ind with
 | h0 => intro _; exact OpsI.nil n
 | h1 p x ih =>
  intro h
  rw [ops_snoc]
  exact ((ih ((isFrom_app p [] [x]).1 h).1).step h).1
theorem ops_ext {n : Int} {p : List Nte} : ∀ {r : List Nte}, IsH (p ++ r) → Ext (opsOf p n) (opsOf (p ++ r) n) := by
 intro r
 induction r using snoc_ind with
 | h0 => intro _; rw [List.append_nil]; exact Ext.refl _
 | h1 r x ih =>
  intro h
  rw [← List.append_assoc] at h ⊢
  have h1 : IsH (p ++ r) := ((isFrom_app (p ++ r) [] [x]).1 h).1
  rw [ops_snoc]
  exact (ih h1).trans ((OpsI.of h1).step h).2
theorem ops_len (n : Int) : ∀ (p : List Nte), (opsOf p n).length ≤ p.length := by
 intro p
 induction p using snoc_ind with
 | h0 => exact Nat.le_refl _
 | h1 p x ih =>
  rw [ops_snoc]
  unfold stepOp
  split
  ·rw [List.length_append]; exact Nat.le_trans ih (Nat.le_add_right _ _)
  ·split
   ·rw [List.length_append, List.length_append]; exact Nat.add_le_add_right ih _
   ·split
    ·rw [List.length_modify, List.length_append]; exact Nat.le_trans ih (Nat.le_add_right _ _)
    ·rw [List.length_append]; exact Nat.le_trans ih (Nat.le_add_right _ _)
/-- A call's number does not change. -/
theorem ix_ext {n : Int} {p r : List Nte} (h : IsH (p ++ r)) {y : Nte} (hy : y ∈ p) (hc : y.call.ch = n) : opIx (opsOf p n) y.call < (opsOf p n).length ∧ opIx (opsOf (p ++ r) n) y.call = opIx (opsOf p n) y.call := by
 have hp : IsH p := ((isFrom_app p [] r).1 h).1
 have hI := OpsI.of (n := n) hp
 have hb : ∃ o ∈ opsOf p n, o.call = y.call := by
  obtain ⟨i, hi, rfl⟩ := List.mem_iff_getElem.1 hy
  rcases hp.at_ hi with ⟨k, _⟩ | ⟨_, ⟨z, hz, kz, ez⟩, _⟩
  ·exact hI.mem' _ hy k hc
  ·obtain ⟨o, ho, e⟩ := hI.mem' z (List.mem_of_mem_take hz) kz (by rw [ez]; exact hc)
   exact ⟨o, ho, e.trans ez⟩
 obtain ⟨o, ho, e⟩ := hb
 have h1 : opIx (opsOf p n) y.call < (opsOf p n).length := find_mem ho (by rw [e])
 have hx := ops_ext (n := n) h
 refine ⟨h1, find_nodup (OpsI.of h).ids (Nat.lt_of_lt_of_le h1 hx.len) ?_⟩
 rw [hx.call _ h1]
 exact find_id h1
end Go.Proofs.YtpjmolnkmlpfeaaGreatDoor

/- Courses that are come to are fit: plain. -/
namespace Go.Proofs.YtpjmolnkmlpfeaaGreatDoor
set_option maxRecDepth 100000

/-- What a call's numbers are. -/
structure OkO (o : Opr) : Prop where
 cl0 : 0 ≤ o.call.cl
 cl1 : o.call.cl < 9223372036854775808
 seq : o.call.seq < 18446744073709551616
 at_ : o.call.at_ < 18446744073709551616
 rat : o.rep.at_ < 18446744073709551616
structure OkN (N : Nat) (M : Mdl) : Prop where
 ent : ∀ e ∈ M.log, 0 ≤ e.prod ∧ e.prod < 9223372036854775808 ∧ e.seq < 18446744073709551616 ∧ e.body.length ≤ 64
 log : M.log.length ≤ N
 trim : M.trim < 18446744073709551616
 cur : ∀ x ∈ M.cur, x < 18446744073709551616
 cur3 : M.cur.length = 3
theorem own3_self {l : List Nat} (h : l.length = 3) : own3 l = l := by
 match l, h with
 | [a, b, c], _ => rfl
theorem ownM_self {M : Mdl} (h : M.cur.length = 3) : ownM M = M := by
 unfold ownM
 rw [own3_self h]
theorem OkN.more {N N' : Nat} {M : Mdl} (h : OkN N M) (hN : N ≤ N') : OkN N' M := ⟨h.ent, Nat.le_trans h.log hN, h.trim, h.cur, h.cur3⟩
theorem OkN.with_ {N : Nat} {M : Mdl} {C : Cal} (h : OkN N M) (h0 : 0 ≤ C.cl) (h1 : C.cl < 9223372036854775808) (h2 : C.seq < 18446744073709551616) (h3 : longC C = false) : OkN (N + 1) (withM M C) where
 ent e he := by
  rcases List.mem_append.1 he with he | he
  ·exact h.ent e he
  ·rw [List.mem_singleton] at he
   subst he
   have := of_decide_eq_false h3
   exact ⟨h0, h1, h2, by show C.body.length ≤ 64; omega⟩
 log := by
  have := h.log
  show (M.log ++ _).length ≤ _
  rw [List.length_append]
  simp only [List.length_cons, List.length_nil]
  omega
 trim := h.trim
 cur := h.cur
 cur3 := h.cur3
theorem mem_set' {l : List Nat} {i a x : Nat} (h : x ∈ l.set i a) : x = a ∨ x ∈ l := by
 rcases List.mem_or_eq_of_mem_set h with h | h
 ·exact .inr h
 ·exact .inl h
theorem OkN.set {N : Nat} {M : Mdl} {C : Cal} {x : Nat} (h : OkN N M) (hx : x < 18446744073709551616) : OkN N (setC M C x) where
 ent := h.ent
 log := h.log
 trim := h.trim
 cur y hy := by
  rcases mem_set' hy with rfl | hy
  ·exact hx
  ·exact h.cur y hy
 cur3 := by show (M.cur.set _ _).length = 3; rw [List.length_set]; exact h.cur3
theorem getC_lt {N : Nat} {M : Mdl} (h : OkN N M) (C : Cal) : getC M C < 18446744073709551616 := by
 unfold getC
 rw [List.getD_eq_getElem?_getD]
 cases e : M.cur[(C.sub - 1).toNat]? with
 | none => simp
 | some y => exact h.cur y (List.mem_of_getElem? e)
theorem curTo_lt {N : Nat} {M : Mdl} (h : OkN N M) {C : Cal} (hc : C.at_ < 18446744073709551616) : curTo M C < 18446744073709551616 := by
 have := getC_lt h C
 unfold curTo
 split
 ·exact Nat.max_lt.2 ⟨this, hc⟩
 ·split
  ·exact hc
  ·exact this
/-- What a call makes of a model is fit. -/
theorem does_ok {N : Nat} {M M' : Mdl} {o : Opr} (h : OkN N M) (ho : OkO o) (hd : doesM M o.call o.rep = some M') : OkN (N + 1) M' := by
 unfold doesM at hd
 rw [ownM_self h.cur3] at hd
 unfold doesO at hd
 split at hd
 ·unfold publishM at hd
  split at hd
  ·split at hd
   ·injection hd with hd; subst hd; exact h.more (Nat.le_succ _)
   ·cases hd
  ·split at hd
   ·split at hd
    ·cases hd
    ·split at hd
     ·injection hd with hd; subst hd; exact h.more (Nat.le_succ _)
     ·cases hd
   ·split at hd
    ·cases hd
    ·rename_i hl
     split at hd
     ·split at hd
      ·injection hd with hd; subst hd
       exact h.with_ ho.cl0 ho.cl1 ho.seq (by cases hx : longC o.call with | false => rfl | true => exact absurd (.inr hx) hl)
      ·cases hd
     ·split at hd
      ·cases hd
      ·split at hd
       ·injection hd with hd; subst hd; exact h.more (Nat.le_succ _)
       ·cases hd
 ·split at hd
  ·split at hd
   ·injection hd with hd; subst hd; exact h.more (Nat.le_succ _)
   ·cases hd
  ·split at hd
   ·split at hd
    ·injection hd with hd; subst hd
     exact ⟨h.ent, Nat.le_succ_of_le h.log, ho.rat, h.cur, h.cur3⟩
    ·cases hd
   ·split at hd
    ·split at hd
     ·split at hd
      ·injection hd with hd; subst hd
       exact (h.set (curTo_lt h ho.at_)).more (Nat.le_succ _)
      ·cases hd
     ·cases hd
    ·cases hd
theorem might_ok {N : Nat} {M M' : Mdl} {o : Opr} (h : OkN N M) (ho : OkO o) (hd : M' ∈ mightM M o.call) : OkN (N + 1) M' := by
 unfold mightM at hd
 rw [ownM_self h.cur3] at hd
 unfold mightO at hd
 split at hd
 ·split at hd
  ·rename_i hl
   rw [List.mem_singleton] at hd
   subst hd
   exact h.with_ ho.cl0 ho.cl1 ho.seq hl.1
  ·cases hd
 ·split at hd
  ·obtain ⟨i, hi, rfl⟩ := List.mem_map.1 hd
   have h1 := List.mem_range.1 hi
   have h2 := ho.at_
   refine ⟨h.ent, Nat.le_succ_of_le h.log, ?_, h.cur, h.cur3⟩
   show M.trim + i + 1 < _
   omega
  ·split at hd
   ·split at hd
    ·rw [List.mem_singleton] at hd
     subst hd
     exact (h.set (curTo_lt h ho.at_)).more (Nat.le_succ _)
    ·cases hd
   ·cases hd
/-- A course at which N calls have been put away. -/
structure OkK (N : Nat) (op : List Nat) (c : Crs) : Prop where
 m : OkN (N + c.done.length) c.m
 done : ∀ k ∈ c.done, k ∈ op
 nodup : c.done.Nodup
 sorted : c.done.Pairwise (· ≤ ·)
theorem insS_len (k : Nat) (l : List Nat) : (insS k l).length = l.length + 1 := (insS_perm k l).length_eq
theorem OkK.step {N : Nat} {ops : List Opr} {op : List Nat} {c d : Crs} (h : OkK N op c) (ho : ∀ o ∈ ops, OkO o) (hd : d ∈ succL ops op c) : OkK N op d := by
 obtain ⟨k, hk, hd⟩ := mem_succL.1 hd
 obtain ⟨h1, m, hm, rfl⟩ := mem_stepC.1 hd
 have hok : OkN (N + c.done.length + 1) m := by
  unfold nextL at hm
  split at hm
  ·cases hm
  ·rename_i o e
   have := ho o (List.mem_of_getElem? e)
   split at hm
   ·rw [Option.mem_toList] at hm
    exact does_ok h.m this hm
   ·exact might_ok h.m this hm
 refine ⟨by show OkN (N + (insS k c.done).length) m; rw [insS_len]; exact hok, fun j hj => ?_, ?_, insS_sorted h.sorted⟩
 ·rcases mem_insS.1 hj with rfl | hj
  ·exact hk
  ·exact h.done j hj
 ·exact (insS_perm k c.done).nodup_iff.2 (List.nodup_cons.2 ⟨h1, h.nodup⟩)
theorem OkK.reach {N : Nat} {ops : List Opr} {op : List Nat} {x : Nat} {c d : Crs} (hr : Rch ops op x c d) (ho : ∀ o ∈ ops, OkO o) (h : OkK N op c) : OkK N op d := by
 induction hr with
 | refl c => exact h
 | step _ he _ ih => exact ih (h.step ho he)
theorem OkK.ok {N : Nat} {op : List Nat} {c : Crs} (h : OkK N op c) (hop : ∀ k ∈ op, k < 100000) (hl : op.length ≤ 40000) (hN : N ≤ 50000) : OkC c := by
 have h1 := nodup_le h.nodup h.done
 have h2 := h.m.log
 exact ⟨⟨fun e he => by obtain ⟨a, b, c, d⟩ := h.m.ent e he; exact ⟨a, b, c, by omega⟩, by omega, h.m.trim, h.m.cur⟩, h.m.cur3, fun k hk => hop k (h.done k hk), by omega, h.sorted⟩
theorem filter_len {l : List Nat} (hn : l.Nodup) {x : Nat} (hx : x ∈ l) : (l.filter fun k => !decide (k = x)).length + 1 = l.length := by
 induction l with
 | nil => cases hx
 | cons a l ih =>
  obtain ⟨h1, h2⟩ := List.nodup_cons.1 hn
  rw [List.filter_cons]
  by_cases e : a = x
  ·subst e
   have : (l.filter fun k => !decide (k = a)) = l := List.filter_eq_self.2 fun b hb => by
    have : b ≠ a := fun e => h1 (e ▸ hb)
    simp [this]
   simp [this]
  ·have := ih h2 (by rcases List.mem_cons.1 hx with h | h; exact absurd h.symm e; exact h)
   simp only [e, decide_false, Bool.not_false, if_true, List.length_cons]
   omega
theorem OkK.drop {N : Nat} {op : List Nat} {x : Nat} {c : Crs} (h : OkK N op c) (hx : x ∈ c.done) : OkK (N + 1) (op.filter fun i => !decide (i = x)) (dropC x c) where
 m := by
  have := filter_len h.nodup hx
  show OkN (N + 1 + (c.done.filter _).length) c.m
  exact h.m.more (by omega)
 done k hk := by
  have := List.mem_filter.1 hk
  exact List.mem_filter.2 ⟨h.done k this.1, this.2⟩
 nodup := h.nodup.filter _
 sorted := h.sorted.filter _
theorem OkK.grow {N : Nat} {op : List Nat} {c : Crs} (h : OkK N op c) (k : Nat) : OkK N (op ++ [k]) c := ⟨h.m, fun j hj => List.mem_append_left _ (h.done j hj), h.nodup, h.sorted⟩
theorem OkK.left {N : Nat} {ops : List Opr} {op : List Nat} {x : Nat} {all : List Crs} (h : ∀ c ∈ all, OkK N op c) (ho : ∀ o ∈ ops, OkO o) {l : Crs} (hl : l ∈ leftL ops op x all) : OkK (N + 1) (op.filter fun i => !decide (i = x)) l := by
 obtain ⟨c, hc, d, hr, hx, rfl⟩ := mem_leftL.1 hl
 exact ((h c hc).reach hr ho).drop hx
theorem OkK.start (op : List Nat) : OkK 0 op c0 := ⟨⟨fun _ h => (by cases h), Nat.zero_le _, by decide, by decide, rfl⟩, fun _ h => (by cases h), List.nodup_nil, List.Pairwise.nil⟩
end Go.Proofs.YtpjmolnkmlpfeaaGreatDoor

/- A part of a history that may be, may be: plain. -/
namespace Go.Proofs.YtpjmolnkmlpfeaaGreatDoor
set_option maxRecDepth 100000

theorem end_uniq {p : List Nte} (hp : IsH p) : ∀ x ∈ p, ∀ y ∈ p, x.kind = 2 → y.kind = 2 → idOf x.call = idOf y.call → x = y := by
 induction p using snoc_ind with
 | h0 => intro x hx; cases hx
 | h1 p x ih =>
  obtain ⟨h1, h2, _⟩ := (isFrom_app p [] [x]).1 hp
  rw [List.nil_append] at h2
  intro a ha b hb ka kb e
  rcases List.mem_append.1 ha with ha' | ha' <;> rcases List.mem_append.1 hb with hb' | hb'
  ·exact ih h1 a ha' b hb' ka kb e
  ·have hb2 := List.mem_singleton.1 hb'
   rw [hb2] at kb e ⊢
   rcases h2 with ⟨k, _⟩ | ⟨_, _, hu, _⟩
   ·omega
   ·exact absurd e (hu a ha' ka)
  ·have ha2 := List.mem_singleton.1 ha'
   rw [ha2] at ka e ⊢
   rcases h2 with ⟨k, _⟩ | ⟨_, _, hu, _⟩
   ·omega
   ·exact absurd e.symm (hu b hb' kb)
  ·rw [List.mem_singleton.1 ha', List.mem_singleton.1 hb']
def knownAt (ops : List Opr) (k : Nat) : Bool := (ops[k]?.map (·.known)).getD false
theorem known_at {ops : List Opr} {k : Nat} (h : knownAt ops k = true) : ∃ o, ops[k]? = some o ∧ o.known = true := by
 unfold knownAt at h
 cases e : ops[k]? with
 | none => rw [e] at h; cases h
 | some o => rw [e] at h; exact ⟨o, rfl, h⟩
theorem known_of {ops : List Opr} {k : Nat} {o : Opr} (e : ops[k]? = some o) : knownAt ops k = o.known := by
 unfold knownAt
 rw [e]
 rfl
/-- The call of an end. -/
theorem ended_op {n : Int} {p : List Nte} (hp : IsH p) {x : Nte} (hx : x ∈ p) (hk : x.kind = 2) (hc : x.call.ch = n) (hr : knownR x.rep.res = true) :
  (opsOf p n)[opIx (opsOf p n) x.call]? = some { call := x.call, rep := x.rep, known := true } := by
 obtain ⟨o, ho, e1, e2, e3⟩ := (OpsI.of (n := n) hp).kn' x hx hk hc hr
 obtain ⟨i, hi, rfl⟩ := List.mem_iff_getElem.1 ho
 rw [find_nodup (OpsI.of (n := n) hp).ids hi (by rw [e1]), List.getElem?_eq_getElem hi]
 cases h : (opsOf p n)[i] with
 | mk a b c => rw [h] at e1 e2 e3; simp only at e1 e2 e3; rw [e1, e2, e3]
theorem known_iff {n : Int} {p : List Nte} (hp : IsH p) {x : Nte} (hx : x ∈ p) (hk : x.kind = 2) (hc : x.call.ch = n) : knownAt (opsOf p n) (opIx (opsOf p n) x.call) = knownR x.rep.res := by
 cases hr : knownR x.rep.res with
 | true => exact known_of (ended_op hp hx hk hc hr)
 | false =>
  cases h : knownAt (opsOf p n) (opIx (opsOf p n) x.call) with
  | false => rfl
  | true =>
   obtain ⟨o, ho, hkn⟩ := known_at h
   have hl := (List.getElem?_eq_some_iff.1 ho).1
   have hid := find_id hl
   obtain ⟨y, hy, ky, ey, _, er⟩ := (OpsI.of (n := n) hp).kn o (List.mem_of_getElem? ho) hkn
   rw [(List.getElem?_eq_some_iff.1 ho).2, ← ey] at hid
   have := end_uniq hp y hy x hx ky hk hid
   rw [this, hr] at er
   cases er
theorem set_self {l : List Nat} {i : Nat} : l.set i (l.getD i 0) = l := by
 rcases Nat.lt_or_ge i l.length with h | h
 ·rw [List.getD_eq_getElem?_getD, List.getElem?_eq_getElem h]
  simp
 ·exact List.set_eq_of_length_le h
/-- A course of the whole, and one of the part. -/
structure SimC (ops' : List Opr) (c c' : Crs) : Prop where
 m : c'.m = c.m
 cur : c.m.cur.length = 3
 sub : ∀ k ∈ c'.done, k ∈ c.done
 kn : ∀ k ∈ c.done, knownAt ops' k = true → k ∈ c'.done
theorem SimC.start (ops' : List Opr) : SimC ops' c0 c0 := ⟨rfl, rfl, fun _ h => h, fun _ h => by cases h⟩
end Go.Proofs.YtpjmolnkmlpfeaaGreatDoor

/- The chapter's examples: plain. -/
namespace Go.Proofs.YtpjmolnkmlpfeaaGreatDoor
set_option maxRecDepth 100000

def pubC (n seq : Nat) : Cal := { cl := 9, inc := 1, n := n, kind := 1, ch := 1, sub := 0, seq := seq, at_ := 0, body := [] }
def readC (n a : Nat) : Cal := { cl := 8, inc := 1, n := n, kind := 2, ch := 1, sub := 0, seq := 0, at_ := a, body := [] }
def saysR (C : Cal) (r : Int) (a seq : Nat) : Rep := { cl := C.cl, inc := C.inc, n := C.n, res := r, at_ := a, own := 0, prod := if 0 < seq then 9 else 0, seq := if 0 < seq then seq else 0, body := [] }
def begN (C : Cal) : Nte := { kind := 1, call := C, rep := zRep }
def endN (C : Cal) (R : Rep) : Nte := { kind := 2, call := C, rep := R }
def bothN (C : Cal) (R : Rep) : List Nte := [begN C, endN C R]
instance decFull (ops : List Opr) (n : Int) : ∀ (h : List Nte) (all : List Crs) (op : List Nat), Decidable (fullGo ops n h all op)
 | [], _, _ => .isFalse id
 | x :: r, all, op => by
  unfold fullGo
  have := decFull ops n r
  infer_instance
instance (h : List Nte) (n : Int) : Decidable (fullP h n) := by unfold fullP; infer_instance
def pC := pubC 1 1
def qC := pubC 2 2
def rC := readC 1 0
def sC := readC 2 0
def hisA : List Nte := bothN pC (saysR pC 0 0 0) ++ (bothN qC (saysR qC 0 1 0) ++ (bothN rC (saysR rC 0 0 1) ++ []))
def hisB : List Nte := bothN pC (saysR pC 0 0 0) ++ (bothN rC (saysR rC 7 0 0) ++ [])
def hisC : List Nte := [begN rC, begN pC, endN pC (saysR pC 0 0 0), endN rC (saysR rC 7 0 0)]
def hisD : List Nte := bothN pC (saysR pC 3 0 0) ++ (bothN rC (saysR rC 0 0 1) ++ (bothN sC (saysR sC 7 0 0) ++ []))
def hisE : List Nte := [endN pC (saysR pC 0 0 0)]
theorem mayA {b : Bool} {e : Int} (h : MayPost hisA b e) : b = true ∧ e = 0 := by
 rcases h with ⟨h, _⟩ | ⟨_, h, _⟩ | ⟨_, _, ⟨h, h2, _⟩ | ⟨_, _, h⟩ | ⟨_, _, h⟩⟩
 ·exact absurd (by decide) h
 ·exact absurd h (by decide)
 ·exact ⟨h, h2⟩
 ·rcases h with h | h | h <;> exact absurd h (by decide)
 ·rcases h with h | h | h <;> exact absurd h (by decide)
theorem mayB {b : Bool} {e : Int} (h : MayPost hisB b e) : b = false := by
 rcases h with ⟨h, _⟩ | ⟨_, h, _⟩ | ⟨_, _, ⟨_, _, h, _⟩ | ⟨h, _⟩ | ⟨h, _⟩⟩
 ·exact absurd (by decide) h
 ·exact absurd h (by decide)
 ·exact absurd h (by decide)
 ·exact h
 ·exact h
theorem mayCC {b : Bool} {e : Int} (h : MayPost hisC b e) : b = true := by
 rcases h with ⟨h, _⟩ | ⟨_, h, _⟩ | ⟨_, _, ⟨h, h2, _⟩ | ⟨_, _, h⟩ | ⟨_, _, h⟩⟩
 ·exact absurd (by decide) h
 ·exact absurd h (by decide)
 ·exact h
 ·rcases h with h | h | h <;> exact absurd h (by decide)
 ·rcases h with h | h | h <;> exact absurd h (by decide)
theorem mayD {b : Bool} {e : Int} (h : MayPost hisD b e) : b = false := by
 rcases h with ⟨h, _⟩ | ⟨_, h, _⟩ | ⟨_, _, ⟨_, _, h, _⟩ | ⟨h, _⟩ | ⟨h, _⟩⟩
 ·exact absurd (by decide) h
 ·exact absurd h (by decide)
 ·exact absurd h (by decide)
 ·exact h
 ·exact h
theorem mayE {b : Bool} {e : Int} (h : MayPost hisE b e) : e = 1 := by
 rcases h with ⟨_, _, h⟩ | ⟨h, _⟩ | ⟨h, _⟩
 ·exact h
 ·exact absurd h (by decide)
 ·exact absurd h (by decide)
end Go.Proofs.YtpjmolnkmlpfeaaGreatDoor

/- A history of calls one behind the other: plain. -/
namespace Go.Proofs.YtpjmolnkmlpfeaaGreatDoor
set_option maxRecDepth 100000

def atN (C : Cal) (k : Nat) : Cal := { C with inc := 1, n := k }
def longH (C : Cal) : Nat → List Nte
 | 0 => []
 | k + 1 => longH C k ++ bothN (atN C (k + 1)) (saysR (atN C (k + 1)) 3 0 0)
theorem longH_len (C : Cal) : ∀ k, (longH C k).length = 2 * k
 | 0 => rfl
 | k + 1 => by
  show (longH C k ++ _).length = _
  rw [List.length_append, longH_len C k]
  show _ + 2 = _
  omega
theorem longH_n {C : Cal} : ∀ {k : Nat}, ∀ y ∈ longH C k, ∃ j, j ≤ k ∧ y.call = atN C j
 | 0, y, h => by cases h
 | k + 1, y, h => by
  rcases List.mem_append.1 h with h | h
  ·obtain ⟨j, hj, e⟩ := longH_n y h
   exact ⟨j, by omega, e⟩
  ·rcases List.mem_cons.1 h with rfl | h
   ·exact ⟨k + 1, Nat.le_refl _, rfl⟩
   ·rw [List.mem_singleton.1 h]
    exact ⟨k + 1, Nat.le_refl _, rfl⟩
theorem may_atN {C : Cal} (h : MayP (atN C 1)) {k : Nat} (h1 : 1 ≤ k) (h2 : k ≤ 4611686018427387903) : MayP (atN C k) := by
 obtain ⟨⟨a, b, c, d, e, f, g⟩, r⟩ := h
 exact ⟨⟨a, b, c, ⟨h1, h2⟩, e, f, g⟩, r⟩
theorem longH_is {C : Cal} (h : MayP (atN C 1)) : ∀ k, k ≤ 4611686018427387903 → IsH (longH C k)
 | 0, _ => trivial
 | k + 1, hk => by
  have ih := longH_is h k (by omega)
  have hf : ∀ y ∈ longH C k, idOf y.call ≠ idOf (atN C (k + 1)) := by
   intro y hy e
   obtain ⟨j, hj, e2⟩ := longH_n y hy
   rw [e2] at e
   simp only [idOf, atN, Prod.mk.injEq] at e
   omega
  show isFrom [] (longH C k ++ _)
  refine (isFrom_app _ _ _).2 ⟨ih, ?_⟩
  rw [List.nil_append]
  refine ⟨.inl ⟨rfl, fun y hy _ => hf y hy, may_atN h (by omega) hk⟩, .inr ⟨rfl, ⟨begN (atN C (k + 1)), by simp, rfl, rfl⟩, fun y hy hy2 => ?_, rfl⟩, trivial⟩
  rcases List.mem_append.1 hy with hy | hy
  ·exact hf y hy
  ·rw [List.mem_singleton.1 hy] at hy2
   cases hy2
theorem longH_first {C : Cal} : ∀ {k : Nat}, 1 ≤ k → begN (atN C 1) ∈ longH C k
 | 0, h => by omega
 | 1, _ => by show _ ∈ longH C 0 ++ _; simp [bothN]
 | k + 2, _ => List.mem_append_left _ (longH_first (k := k + 1) (by omega))
theorem longH_again {C : Cal} {k : Nat} (hk : 1 ≤ k) : ¬ IsH (longH C k ++ [begN (atN C 1)]) := by
 intro h
 obtain ⟨_, h2, _⟩ := (isFrom_app (longH C k) [] _).1 h
 rw [List.nil_append] at h2
 have hm := longH_first (C := C) hk
 rcases h2 with ⟨_, hu, _⟩ | ⟨h2, _⟩
 ·exact hu _ hm rfl rfl
 ·cases h2
theorem longH_may {C : Cal} (h : MayP (atN C 1)) {k : Nat} (h1 : 1001 ≤ k) (h2 : k ≤ 2000) {b : Bool} {e : Int} (hp : MayPost (longH C k) b e) : b = false ∧ e = 7 := by
 have hi := longH_is h k (by omega)
 have hl := longH_len C k
 rcases hp with ⟨h, _⟩ | ⟨_, _, h⟩ | ⟨_, h, _⟩
 ·exact absurd hi h
 ·exact h
 ·omega
theorem longH_bad {C : Cal} {k : Nat} (h1 : 1 ≤ k) {b : Bool} {e : Int} (hp : MayPost (longH C k ++ [begN (atN C 1)]) b e) : b = false ∧ e = 1 := by
 have hi := longH_again (C := C) h1
 rcases hp with ⟨_, h⟩ | ⟨h, _⟩ | ⟨h, _⟩
 ·exact h
 ·exact absurd h hi
 ·exact absurd h hi
end Go.Proofs.YtpjmolnkmlpfeaaGreatDoor

/- Calls one behind the other: plain. -/
namespace Go.Proofs.YtpjmolnkmlpfeaaGreatDoor
set_option maxRecDepth 100000

structure SerOk (r : List (Cal × Rep)) : Prop where
 may : ∀ p ∈ r, MayP p.1
 known : ∀ p ∈ r, knownR p.2.res = true
 rid : ∀ p ∈ r, repId p.2 = idOf p.1
 ids : (r.map fun p => idOf p.1).Nodup
theorem SerOk.left {a b : List (Cal × Rep)} (h : SerOk (a ++ b)) : SerOk a :=
 ⟨fun p hp => h.may p (List.mem_append_left _ hp), fun p hp => h.known p (List.mem_append_left _ hp), fun p hp => h.rid p (List.mem_append_left _ hp), by have := h.ids; rw [List.map_append] at this; exact (List.nodup_append.1 this).1⟩
end Go.Proofs.YtpjmolnkmlpfeaaGreatDoor
