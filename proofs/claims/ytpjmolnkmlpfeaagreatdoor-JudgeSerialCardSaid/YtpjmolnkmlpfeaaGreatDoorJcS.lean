/- Calls and replies side by side, numbered: plain. -/
import Derived.Test.YtpjmolnkmlpfeaaGreatDoorJQ
import Derived.Test.YtpjmolnkmlpfeaaGreatDoorJV
namespace Go.Proofs.YtpjmolnkmlpfeaaGreatDoor
set_option linter.unusedVariables false
set_option linter.unusedSimpArgs false
set_option maxRecDepth 100000

/-- A call, a reply, with what holds its bytes. -/
structure CaV where
  c : Cal
  v : Value
structure ReV where
  r : Rep
  v : Value
def zCaV : CaV := ⟨zCal, nilV⟩
def zReV : ReV := ⟨zRep, nilV⟩
def caL (x : CaV) : List Value := calL x.c x.v
def reL (x : ReV) : List Value := repL x.r x.v
theorem caL_len (x : CaV) : (caL x).length = 9 := rfl
theorem reL_len (x : ReV) : (reL x).length = 9 := rfl
def nuC (C : Cal) (k : Nat) : Cal := { C with n := k }
def toR (R : Rep) (C : Cal) : Rep := { R with cl := C.cl, inc := C.inc, n := C.n }
section
variable (lc : List CaV) (lr : List ReV)
def callK (k : Nat) : Cal := nuC (lc.getD k zCaV).c (k + 1)
def repK (k : Nat) : Rep := toR (lr.getD k zReV).r (callK lc k)
def serK : Nat → List (Cal × Rep)
  | 0 => []
  | k + 1 => serK k ++ [(callK lc k, repK lc lr k)]
def serV : Nat → List NtV
  | 0 => []
  | k + 1 => serV k ++ [begV (callK lc k) (lc.getD k zCaV).v, endV (callK lc k) (repK lc lr k) (lc.getD k zCaV).v (lr.getD k zReV).v]
end
variable {lc : List CaV} {lr : List ReV}
theorem serH_app (a b : List (Cal × Rep)) : serH (a ++ b) = serH a ++ serH b := by
  unfold serH
  rw [List.flatMap_append]
theorem serV_map : ∀ k, (serV lc lr k).map (·.n) = serH (serK lc lr k)
  | 0 => rfl
  | k + 1 => by
    rw [serV, serK, List.map_append, serV_map k, serH_app]
    rfl
theorem serK_len : ∀ k, (serK lc lr k).length = k
  | 0 => rfl
  | k + 1 => by rw [serK, List.length_append, serK_len k]; rfl
theorem serV_len : ∀ k, (serV lc lr k).length = 2 * k
  | 0 => rfl
  | k + 1 => by rw [serV, List.length_append, serV_len k]; simp only [List.length_cons, List.length_nil]; omega
theorem serK_mem : ∀ {k : Nat} {p : Cal × Rep}, p ∈ serK lc lr k → ∃ j, j < k ∧ p = (callK lc j, repK lc lr j)
  | k + 1, p, h => by
    rcases List.mem_append.1 h with h | h
    · obtain ⟨j, hj, e⟩ := serK_mem h
      exact ⟨j, by omega, e⟩
    · exact ⟨k, by omega, List.mem_singleton.1 h⟩
theorem serV_mem : ∀ {k : Nat} {x : NtV}, x ∈ serV lc lr k → ∃ j, j < k ∧ (x = begV (callK lc j) (lc.getD j zCaV).v ∨ x = endV (callK lc j) (repK lc lr j) (lc.getD j zCaV).v (lr.getD j zReV).v)
  | k + 1, x, h => by
    rcases List.mem_append.1 h with h | h
    · obtain ⟨j, hj, e⟩ := serV_mem h
      exact ⟨j, by omega, e⟩
    · rcases List.mem_cons.1 h with e | h
      · exact ⟨k, by omega, .inl e⟩
      · exact ⟨k, by omega, .inr (List.mem_singleton.1 h)⟩
theorem serK_ids : ∀ k, ((serK lc lr k).map fun p => idOf p.1).Nodup
  | 0 => List.nodup_nil
  | k + 1 => by
    rw [serK, List.map_append, List.nodup_append]
    refine ⟨serK_ids k, by simp, ?_⟩
    intro a ha b hb e
    obtain ⟨p, hp, rfl⟩ := List.mem_map.1 ha
    obtain ⟨j, hj, rfl⟩ := serK_mem hp
    rw [List.map_cons, List.map_nil, List.mem_singleton] at hb
    subst hb
    have := congrArg (fun i : Int × Nat × Nat => i.2.2) e
    simp only [idOf, callK, nuC] at this
    omega
theorem serK_ok {k : Nat} (h : ∀ j, j < k → MayP (callK lc j) ∧ knownR (repK lc lr j).res = true) : SerOk (serK lc lr k) where
  may p hp := by obtain ⟨j, hj, rfl⟩ := serK_mem hp; exact (h j hj).1
  known p hp := by obtain ⟨j, hj, rfl⟩ := serK_mem hp; exact (h j hj).2
  rid p hp := by obtain ⟨j, hj, rfl⟩ := serK_mem hp; rfl
  ids := serK_ids k
/-- One more, at the end. -/
theorem serM_snoc (p : Cal × Rep) : ∀ (r : List (Cal × Rep)) (f : Int → Mdl), serM (r ++ [p]) f = (serM r f).bind fun g => (doesM (g p.1.ch) p.1 p.2).map fun m => fun n => if n = p.1.ch then m else g n
  | [], f => by
    show serM [p] f = _
    simp only [serM, Option.bind_some]
    cases doesM (f p.1.ch) p.1 p.2 <;> rfl
  | q :: r, f => by
    rw [List.cons_append, serM, serM]
    cases doesM (f q.1.ch) q.1 q.2 with
    | none => rfl
    | some m => exact serM_snoc p r _
/-- What the three models are, as far as it may be. -/
def serF (lc : List CaV) (lr : List ReV) (k : Nat) : Option (Int → Mdl) := serM (serK lc lr k) fun _ => zMdl
theorem serF_zero : serF lc lr 0 = some fun _ => zMdl := rfl
theorem serF_succ (k : Nat) : serF lc lr (k + 1) = (serF lc lr k).bind fun g => (doesM (g (callK lc k).ch) (callK lc k) (repK lc lr k)).map fun m => fun n => if n = (callK lc k).ch then m else g n := serM_snoc _ _ _
theorem serF_ok {k : Nat} (h : ∀ j, j < k → MayP (callK lc j) ∧ (callK lc j).seq < 18446744073709551616 ∧ (repK lc lr j).at_ < 18446744073709551616) : ∀ f, serF lc lr k = some f → ∀ n, OkN k (ownM (f n)) := by
  induction k with
  | zero =>
    intro f e n
    rw [serF_zero] at e
    injection e with e
    subst e
    exact (OkK.start []).m
  | succ k ih =>
    intro f e n
    rw [serF_succ] at e
    have ih := ih fun j hj => h j (by omega)
    cases e1 : serF lc lr k with
    | none => rw [e1] at e; cases e
    | some g =>
      rw [e1] at e
      simp only [Option.bind_some] at e
      cases e2 : doesM (g (callK lc k).ch) (callK lc k) (repK lc lr k) with
      | none => rw [e2] at e; cases e
      | some m =>
        rw [e2] at e
        simp only [Option.map_some, Option.some.injEq] at e
        subst e
        obtain ⟨⟨⟨m1, m2, m3, m4, m5, m6, m7⟩, _⟩, h2, h3⟩ := h k (by omega)
        have hk := does_ok (o := { call := callK lc k, rep := repK lc lr k, known := true }) (ih g e1 (callK lc k).ch) ⟨by show (0:Int) ≤ (callK lc k).cl; omega, by show (callK lc k).cl < 9223372036854775808; omega, h2, by show (callK lc k).at_ < 18446744073709551616; omega, h3⟩ (M' := m) (by rw [← e2]; rfl)
        show OkN (k + 1) (ownM (if n = (callK lc k).ch then m else g n))
        split
        · rw [ownM_self hk.cur3]; exact hk
        · exact (ih g e1 n).more (by omega)
/-- What is answered. -/
theorem serV_may {k : Nat} (hk : k ≤ 100) (h : ∀ j, j < k → MayP (callK lc j) ∧ knownR (repK lc lr j).res = true) {b : Bool} {e : Int} (hp : MayPost ((serV lc lr k).map (·.n)) b e) : b = (serF lc lr k).isSome ∧ e = 0 :=
  ser_may (serK_ok h) (by rw [serK_len]; omega) (by rw [← serV_map]; exact hp)
end Go.Proofs.YtpjmolnkmlpfeaaGreatDoor
