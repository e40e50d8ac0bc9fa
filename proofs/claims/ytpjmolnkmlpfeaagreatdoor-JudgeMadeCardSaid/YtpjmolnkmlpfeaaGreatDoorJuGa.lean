/- Where the courses of a call's end are gone through. -/
import Derived.Test.YtpjmolnkmlpfeaaGreatDoorJU
import Derived.Test.YtpjmolnkmlpfeaaGreatDoorJQ
import Derived.Test.YtpjmolnkmlpfeaaGreatDoorJuN
import Derived.Test.YtpjmolnkmlpfeaaGreatDoorJS
import Derived.Test.YtpjmolnkmlpfeaaGreatDoorJuS
namespace Go.Proofs.YtpjmolnkmlpfeaaGreatDoor
set_option linter.unusedVariables false
set_option linter.unusedSimpArgs false
set_option maxRecDepth 100000
open Go.RowKit

theorem own_lowJ {w : World} {base base' : Nat} {e : TypeId} {size n : Nat} {v : Value} {xs : List Value} (h : w.ownsRow base e size v n xs) (hb : base' ≤ base) : w.ownsRow base' e size v n xs :=
  ⟨h.1, h.2.imp id fun ⟨g, cap, cur, e, hg, r⟩ => ⟨g, cap, cur, e, Nat.le_trans hb hg, r⟩⟩
abbrev OpE := Opr × Value × Value
def opE (p : OpE) : List Value := opL p.1 p.2.1 p.2.2
theorem opE_len (p : OpE) : (opE p).length = 19 := rfl
theorem info_op {vs : List Value} (h : vs.length = 19) : (Tryz.prog.info? 95).map (·.size) = some vs.length := by rw [h]; kernel_rfl
def SlO (K : Nat → Prop) (w : World) (v : Value) (P : List OpE) : Prop := ∃ A c, v = .slice A P.length c ∧ Reads w 19 A P.length (P.flatMap opE) ∧ (∀ p ∈ P, SlB K w p.2.1 p.1.call.body ∧ SlB K w p.2.2 p.1.rep.body) ∧ P.length ≤ c ∧ c ≤ 9223372036854775807 ∧ (0 < P.length → ∀ ad, A = some ad → K ad.block)
theorem SlO.mod {K S : Nat → Prop} {w w' : World} {v : Value} {P : List OpE} (h : SlO K w v P) (hm : Mod S w w') (hK : ∀ b, K b → ¬ S b) : SlO K w' v P := by
  obtain ⟨A, c, e, h1, h2, h3, h4, h5⟩ := h
  exact ⟨A, c, e, reads_mod h1 hm fun h0 ad ea => hK _ (h5 h0 ad ea), fun p hp => ⟨(h2 p hp).1.mod hm hK, (h2 p hp).2.mod hm hK⟩, h3, h4, h5⟩
/-- What the closure has caught. -/
structure Ge where
  sb : Nat
  lb : Nat
  bS : Nat
  bX : Nat
  bL : Nat
  bP : Nat
  bO : Nat
  bG : Nat
  x : Nat
  op : List Nat
  P : List OpE
  vop : Value
  vops : Value
def Ge.caps (G : Ge) : Array Value := #[.pointer (some ⟨G.bS, 0, none⟩), .pointer (some ⟨G.bX, 0, none⟩), .pointer (some ⟨G.bL, 0, none⟩), .pointer (some ⟨G.bP, 0, none⟩), .pointer (some ⟨G.bO, 0, none⟩), .pointer (some ⟨G.bG, 0, none⟩)]
def Ge.Z (G : Ge) (b : Nat) : Prop := b = G.sb ∨ b = G.lb
def Ge.ops (G : Ge) : List Opr := G.P.map (·.1)
structure GoOk (G : Ge) (w : World) : Prop where
  s : Blk w G.bS 110 #[.map (some G.sb)]
  x : Blk w G.bX 3 #[.int .i64 (G.x : Int)]
  l : Blk w G.bL 109 #[.map (some G.lb)]
  p : Blk w G.bP 97 #[G.vop]
  o : Blk w G.bO 93 #[G.vops]
  g : Blk w G.bG 111 #[.func (.func 61) #[] G.caps]
  op : SlI (fun b => ¬ G.Z b) w G.vop (nats G.op)
  ops : SlO (fun b => ¬ G.Z b) w G.vops G.P
  fs : ¬ G.Z G.bS
  fx : ¬ G.Z G.bX
  fl : ¬ G.Z G.bL
  fp : ¬ G.Z G.bP
  fo : ¬ G.Z G.bO
  fg : ¬ G.Z G.bG
  ne : G.sb ≠ G.lb
theorem GoOk.mod {G : Ge} {w w' : World} (h : GoOk G w) (hm : Mod G.Z w w') : GoOk G w' :=
  ⟨h.s.mod hm h.fs, h.x.mod hm h.fx, h.l.mod hm h.fl, h.p.mod hm h.fp, h.o.mod hm h.fo, h.g.mod hm h.fg, h.op.mod hm fun _ h => h, h.ops.mod hm fun _ h => h, h.fs, h.fx, h.fl, h.fp, h.fo, h.fg, h.ne⟩
/-- What was seen; what is left. -/
structure SeenR (ES : Ens) (S : List Crs) : Prop where
  get : ∀ c, OkC c → fget (wordC c) ES = if c ∈ S then some (.int .i64 1) else none
  len : ES.length = S.length
  nodup : S.Nodup
  ok : ∀ c ∈ S, OkC c
structure LeftR (X : Nat → Prop) (w : World) (EL : Ens) (L : List Crs) : Prop where
  get : ∀ c ∈ L, OkC c ∧ ∃ v, fget (wordC c) EL = some v ∧ CrV (fun b => ¬ X b) w v c
  all : ∀ p ∈ EL, ∃ c ∈ L, p.1 = wordC c
def GoSn (G : Ge) (X : Nat → Prop) (w : World) (S L : List Crs) (n : Nat) : Prop := ∃ ES EL, MapW 9 w G.sb ES ∧ MapW 9 w G.lb EL ∧ SeenR ES S ∧ LeftR X w EL L ∧ EL.length ≤ n
abbrev GoSt (G : Ge) (X : Nat → Prop) (w : World) (S L : List Crs) : Prop := GoSn G X w S L S.length
section
variable {G : Ge} {X X' T : Nat → Prop} {w w' : World} {S L : List Crs} {n : Nat}
theorem LeftR.mod {EL : Ens} (h : LeftR X w EL L) (hm : Mod T w w') (hT : ∀ b, b < w.heap.size → T b → X b) : LeftR X w' EL L where
  get c hc := by
    obtain ⟨h1, v, h2, h3⟩ := h.get c hc
    exact ⟨h1, v, h2, (h3.weak (K' := fun b => ¬ X b ∧ b < w.heap.size) fun b hb hx => ⟨hx, hb⟩).mod hm (fun b hb ht => hb.1 (hT b hb.2 ht)) |>.weak fun b _ hb => hb.1⟩
  all := h.all
theorem LeftR.weak {EL : Ens} (h : LeftR X w EL L) (hX : ∀ b, b < w.heap.size → X' b → X b) : LeftR X' w EL L where
  get c hc := by
    obtain ⟨h1, v, h2, h3⟩ := h.get c hc
    exact ⟨h1, v, h2, h3.weak fun b hb hx h => hx (hX b hb h)⟩
  all := h.all
theorem GoSn.mod (h : GoSn G X w S L n) (hm : Mod T w w') (hT : ∀ b, b < w.heap.size → T b → X b) (h1 : ¬ T G.sb) (h2 : ¬ T G.lb) : GoSn G X w' S L n := by
  obtain ⟨ES, EL, a, b, c, d, e⟩ := h
  exact ⟨ES, EL, a.mod hm h1, b.mod hm h2, c, d.mod hm hT, e⟩
theorem GoSn.below (h : GoSn G X w S L n) (hb : Below w.heap.size w w') : GoSn G X w' S L n := h.mod (mod_below (S := fun _ => False) hb) (fun _ _ h => h.elim) (fun h => h) (fun h => h)
theorem GoSn.weak (h : GoSn G X w S L n) (hX : ∀ b, b < w.heap.size → X' b → X b) : GoSn G X' w S L n := by
  obtain ⟨ES, EL, a, b, c, d, e⟩ := h
  exact ⟨ES, EL, a, b, c, d.weak hX, e⟩
theorem GoSn.nodup (h : GoSn G X w S L n) : S.Nodup := by obtain ⟨_, _, _, _, c, _⟩ := h; exact c.nodup
end
theorem fput_len {β : Type} {n : Nm} {b : β} {F : List (Nm × β)} (h : fget n F = none) : (fput n b F).length = F.length + 1 := by
  unfold fput
  rw [len_ins]
  have : fdel n F = F := List.filter_eq_self.2 fun p hp => by have := fget_none.1 h p hp; simpa using this
  rw [this]
theorem fput_le {β : Type} (n : Nm) (b : β) (F : List (Nm × β)) : (fput n b F).length ≤ F.length + 1 := by
  unfold fput
  rw [len_ins]
  have := List.length_filter_le (fun p : Nm × β => !(p.1 == n)) F
  unfold fdel
  omega
theorem SeenR.more {ES : Ens} {S : List Crs} {c : Crs} (h : SeenR ES S) (s : Srt ES) (hc : OkC c) (hn : c ∉ S) : SeenR (fput (wordC c) (.int .i64 1) ES) (c :: S) where
  get d hd := by
    rw [fget_put s, h.get d hd]
    by_cases e : d = c
    · rw [if_pos (by rw [e]), if_pos (by rw [e]; simp)]
    · rw [if_neg fun e2 => e (wordC_inj hd hc e2)]
      simp only [List.mem_cons, e, false_or]
  len := by rw [fput_len (by rw [h.get c hc, if_neg hn]), h.len]; rfl
  nodup := List.nodup_cons.2 ⟨hn, h.nodup⟩
  ok d hd := by
    rcases List.mem_cons.1 hd with rfl | hd
    · exact hc
    · exact h.ok d hd
theorem LeftR.put {X : Nat → Prop} {w : World} {EL : Ens} {L : List Crs} {d : Crs} {v : Value} (h : LeftR X w EL L) (s : Srt EL) (hd : OkC d) (hv : CrV (fun b => ¬ X b) w v d) : LeftR X w (fput (wordC d) v EL) (d :: L) where
  get c hc := by
    by_cases e : c = d
    · subst e
      exact ⟨hd, v, by rw [fget_put s, if_pos rfl], hv⟩
    · rcases List.mem_cons.1 hc with h1 | h1
      · exact absurd h1 e
      · obtain ⟨h2, u, h3, h4⟩ := h.get c h1
        exact ⟨h2, u, by rw [fget_put s, if_neg fun e2 => e (wordC_inj h2 hd e2)]; exact h3, h4⟩
  all p hp := by
    rcases mem_put.1 hp with rfl | ⟨hp, _⟩
    · exact ⟨d, by simp, rfl⟩
    · obtain ⟨c, hc, e⟩ := h.all p hp
      exact ⟨c, by simp [hc], e⟩
/-- The state in which nothing was seen. -/
theorem GoSt.nil {G : Ge} {X : Nat → Prop} {w : World} (h1 : MapW 9 w G.sb []) (h2 : MapW 9 w G.lb []) : GoSt G X w [] [] :=
  ⟨[], [], h1, h2, ⟨fun _ _ => rfl, rfl, List.nodup_nil, fun _ h => by cases h⟩, ⟨fun _ h => (by cases h), fun _ h => by cases h⟩, Nat.le_refl _⟩
/-- How the closure ends. -/
def GoPost (G : Ge) (X : Nat → Prop) (R : Crs → Prop) (c : Crs) (S L : List Crs) (w : World) (e : Ending) (w' : World) : Prop :=
  Mod G.Z w w' ∧ ((e = .returned (.bool true) ∧ ∃ S' L', GoSt G X w' S' L' ∧ S'.length ≤ 3000 ∧ c ∈ S' ∧ Trv G.ops G.op G.x R nobody S L S' L') ∨
    (e = .returned (.bool false) ∧ ∃ S' : List Crs, S'.Nodup ∧ (∀ d ∈ S', R d) ∧ 3000 < S'.length))
/-- The boxes of the deferred calls. -/
def dmark (D : Nat) : Deferred := { target := .collected D, args := #[] }
theorem leaves_marks {F : Fence} {n : Nat} {P : Program} {fn : Func} {tmps : Array Value} {R : Ending → World → Prop} : ∀ {Ds : List Nat} {w : World}, (∀ d ∈ Ds, w.heap[d]? = some (.deferred (some []))) → Ds.Nodup → (∀ w', Mod (fun b => b ∈ Ds) w w' → ∃ v, (results fn tmps).run P w' = .ok v w' ∧ R (.returned v) w') → LeavesInM F n P fn tmps R (Ds.map dmark) .returning w
  | [], w, _, _, h => by
    obtain ⟨v, h1, h2⟩ := h w (Mod.refl _ _)
    exact ⟨v, h1, h2⟩
  | d :: Ds, w, hD, hn, h => by
    have hd := hD d (by simp)
    obtain ⟨hn1, hn2⟩ := List.nodup_cons.1 hn
    refine ⟨by simp, .inl ⟨d, _, rfl, run_takeDeferred hd, leaves_marks (fun k hk => ?_) hn2 fun w' hm => h w' ?_⟩⟩
    · exact (World.putObj_heap_other (fun (e : k = d) => hn1 (by rw [← e]; exact hk))).trans (hD k (by simp [hk]))
    · exact ((mod_putObj w d _).mono fun b _ e => by rw [e]; simp).trans (hm.mono fun b _ e => by simp [e])
/-- A loop whose rounds leave marks. -/
def putAll : List Value → List Nat → List Value → List Value
  | L, i :: is, v :: vs => putAll (L.set i v) is vs
  | L, _, _ => L
def LoopEnd (idx : List Nat) (rel : List Value → List Deferred → World → Prop) (μ : Act → World → Nat) (L : List Value) (m : Nat) (a : Act) (w : World) : Prop :=
  (∃ vs ds, vs.length = idx.length ∧ a = ⟨(putAll L idx vs).toArray, ds⟩ ∧ rel vs ds w) ∧ μ a w < m
theorem putAll_same : ∀ (idx : List Nat) (L : List Value), putAll L idx (idx.map fun i => L.getD i undef) = L
  | [], _ => rfl
  | i :: is, L => by
    have h : L.set i (L.getD i undef) = L := by
      rcases Nat.lt_or_ge i L.length with h | h
      · rw [List.getD_eq_getElem?_getD, List.getElem?_eq_getElem h]
        simp
      · exact List.set_eq_of_length_le h
    show putAll (L.set i (L.getD i undef)) is (is.map fun i => L.getD i undef) = L
    rw [h]
    exact putAll_same is L
theorem wp_loop_slots {P : Program} {c : Code} {Q : Exit → Act → World → Prop} {w : World} {L : List Value} {ds : List Deferred} (idx : List Nat) (rel : List Value → List Deferred → World → Prop) (μ : Act → World → Nat)
    (h0 : rel (idx.map fun i => L.getD i undef) ds w)
    (round : ∀ vs ds w', vs.length = idx.length → rel vs ds w' → c.wp P (Exit.then (LoopEnd idx rel μ L (μ ⟨(putAll L idx vs).toArray, ds⟩ w')) Q) ⟨(putAll L idx vs).toArray, ds⟩ w') : (Code.loop c).wp P Q ⟨L.toArray, ds⟩ w := by
  refine wp_loop (fun a w => ∃ vs ds, vs.length = idx.length ∧ a = ⟨(putAll L idx vs).toArray, ds⟩ ∧ rel vs ds w) μ ?_ ?_
  · exact ⟨_, ds, by simp, by rw [putAll_same], h0⟩
  · rintro a w' ⟨vs, ds, h1, rfl, h3⟩
    exact round vs ds w' h1 h3
theorem loopEnd_of {idx : List Nat} {rel : List Value → List Deferred → World → Prop} {μ : Act → World → Nat} {L L' : List Value} {m : Nat} {ds : List Deferred} {u : World} (h1 : putAll L idx (idx.map fun i => L'.getD i undef) = L')
    (h2 : rel (idx.map fun i => L'.getD i undef) ds u) (h3 : μ ⟨L'.toArray, ds⟩ u < m) : LoopEnd idx rel μ L m ⟨L'.toArray, ds⟩ u := ⟨⟨_, _, by simp, by rw [h1], h2⟩, h3⟩
end Go.Proofs.YtpjmolnkmlpfeaaGreatDoor
