/- The document's disks side by side with the real ones. -/
import Derived.Test.YtggdkhgpkedbkaaRdI
import Derived.Test.YtggdkhgpkedbkaaRdJ
import Derived.Test.YtggdkhgpkedbkaaAlike
import Derived.Test.YtggdkhgpkedbkaaKeep
namespace Go.Proofs.Ytggdkhgpkedbkaa
open Go.RowKit

/-- The document's disks of M, made behind w0; they and their rows lie in P. -/
def RHeld (w0 w : World) (P : Nat → Prop) (M : List (Nat × Dk)) : Prop :=
  (M.map (·.1)).Nodup ∧ ∃ R : Nat → Nat → Prop, ∀ p ∈ M, Rat w p.1 (R p.1) p.2 ∧ w0.heap.size ≤ p.1 ∧ P p.1 ∧ (∀ b, R p.1 b → P b) ∧ ∀ q ∈ M, ¬ R p.1 q.1
section
variable {w0 w w' : World} {P P' K : Nat → Prop} {M : List (Nat × Dk)} {L : List (Nat × Dk)} {m d : Nat} {x x' : Dk}
theorem Rat.mod {S R : Nat → Prop} (h : Rat w m R x) (hm : Mod S w w') (hS : ∀ b, R b ∨ b = m → ¬ S b) : Rat w' m R x :=
  h.kept (K := fun b => R b ∨ b = m) ⟨hm.size, fun b hb => hm.block b (hb.elim (fun e => (h.off b e).1) fun e => by rw [e]; exact h.lt) (hS b hb)⟩ fun _ h => h
theorem RHeld.mod {S : Nat → Prop} (h : RHeld w0 w P M) (hm : Mod S w w') (hS : ∀ b, P b → ¬ S b) : RHeld w0 w' P M := by
  obtain ⟨h1, R, h2⟩ := h
  refine ⟨h1, R, fun p hp => ?_⟩
  obtain ⟨a, b, c, d, e⟩ := h2 p hp
  exact ⟨a.mod hm fun k hk => hk.elim (fun hk => hS k (d k hk)) fun hk => by rw [hk]; exact hS _ c, b, c, d, e⟩
theorem RHeld.kept (h : RHeld w0 w P M) (hk : Kept K w w') (hP : ∀ b, P b → K b) : RHeld w0 w' P M := by
  obtain ⟨h1, R, h2⟩ := h
  refine ⟨h1, R, fun p hp => ?_⟩
  obtain ⟨a, b, c, d, e⟩ := h2 p hp
  exact ⟨a.kept hk fun k hb => hb.elim (fun hb => hP k (d k hb)) fun hb => by rw [hb]; exact hP _ c, b, c, d, e⟩
theorem RHeld.below (h : RHeld w0 w P M) (hb : Below w.heap.size w w') : RHeld w0 w' P M := h.mod (S := fun _ => False) (Mod.below hb (Nat.le_refl _)) fun _ _ e => e
theorem RHeld.more (h : RHeld w0 w P M) (hP : ∀ b, P b → P' b) : RHeld w0 w P' M := by
  obtain ⟨h1, R, h2⟩ := h
  refine ⟨h1, R, fun p hp => ?_⟩
  obtain ⟨a, b, c, d, e⟩ := h2 p hp
  exact ⟨a, b, hP _ c, fun k hk => hP k (d k hk), e⟩
theorem RHeld.perm {M' : List (Nat × Dk)} (h : RHeld w0 w P M) (hp : M.Perm M') : RHeld w0 w P M' := by
  obtain ⟨h1, R, h2⟩ := h
  refine ⟨(hp.map _).nodup_iff.1 h1, R, fun p hp' => ?_⟩
  obtain ⟨a, b, c, d, e⟩ := h2 p (hp.mem_iff.2 hp')
  exact ⟨a, b, c, d, fun q hq => e q (hp.mem_iff.2 hq)⟩
theorem RHeld.nil (w0 w : World) (P : Nat → Prop) : RHeld w0 w P [] := ⟨List.nodup_nil, fun _ _ => False, fun _ h => by cases h⟩
theorem RHeld.rat (h : RHeld w0 w P ((m, x) :: M)) : ∃ R, Rat w m R x ∧ w0.heap.size ≤ m ∧ P m ∧ ∀ b, R b → P b := by
  obtain ⟨_, R, h2⟩ := h
  obtain ⟨a, b, c, d, _⟩ := h2 _ List.mem_cons_self
  exact ⟨_, a, b, c, d⟩
theorem RHeld.lt (h : RHeld w0 w P M) : ∀ p ∈ M, p.1 < w.heap.size := by
  obtain ⟨_, R, h2⟩ := h
  exact fun p hp => (h2 p hp).1.lt
/-- A new one. -/
theorem RHeld.cons {R : Nat → Prop} (h : RHeld w0 w P M) (hb : Below w.heap.size w w') (hw : w0.heap.size ≤ w.heap.size) (hm : w.heap.size ≤ m) (hr : Rat w' m R x) (hR : ∀ b, R b → (P b ∧ b < w.heap.size ∧ ∀ q ∈ M, b ≠ q.1) ∨ w.heap.size ≤ b) : RHeld w0 w' (fun b => P b ∨ From w.heap.size w' b) ((m, x) :: M) := by
  have hlt := h.lt
  obtain ⟨h1, Q, h2⟩ := h
  have hne : ∀ p ∈ M, p.1 ≠ m := fun p hp e => by have := hlt p hp; omega
  refine ⟨?_, upd Q m R, fun p hp => ?_⟩
  · rw [List.map_cons, List.nodup_cons]
    refine ⟨fun e => ?_, h1⟩
    obtain ⟨p, hp, e⟩ := List.mem_map.1 e
    exact hne p hp e
  · rcases List.mem_cons.1 hp with rfl | hp
    · simp only [upd_same]
      refine ⟨hr, Nat.le_trans hw hm, .inr ⟨hm, hr.lt⟩, fun b hb => ?_, fun q hq e => ?_⟩
      · rcases hR b hb with h | h
        · exact .inl h.1
        · exact .inr ⟨h, (hr.off b hb).1⟩
      · rcases List.mem_cons.1 hq with rfl | hq
        · exact (hr.off _ e).2 rfl
        · rcases hR _ e with h | h
          · exact h.2.2 q hq rfl
          · have := hlt q hq; omega
    · rw [upd_other _ _ (hne p hp)]
      obtain ⟨a, b, c, d, e⟩ := h2 p hp
      refine ⟨a.below hb, b, .inl c, fun k hk => .inl (d k hk), fun q hq => ?_⟩
      rcases List.mem_cons.1 hq with rfl | hq
      · intro e'
        have := (a.off _ e').1
        simp only at this
        omega
      · exact e q hq
/-- One of them is changed. -/
theorem RHeld.step (h : RHeld w0 w P ((m, x) :: M)) {Q : Ending → World → Prop} {f : Nat} {args : Array Value} {S : Ending → Prop}
    (hc : ∀ R, Rat w m R x → Calls Try.prog f args w fun e w' => S e ∧ Rst w m R x' w')
    (hQ : ∀ e w', S e → RHeld w0 w' (fun b => P b ∨ From w.heap.size w' b) ((m, x') :: M) → Mod (· = m) w w' → Q e w') : Calls Try.prog f args w Q := by
  obtain ⟨h1, R, h2⟩ := h
  obtain ⟨a, b, c, d, e⟩ := h2 _ List.mem_cons_self
  refine (hc _ a).mono fun e1 w' ⟨hs, hm, hr⟩ => hQ e1 w' hs ⟨h1, upd R m fun b => R m b ∨ From w.heap.size w' b, fun p hp => ?_⟩ hm
  have hnd : m ∉ M.map (·.1) := (List.nodup_cons.1 (show (m :: M.map (·.1)).Nodup from h1)).1
  have hlt : ∀ q ∈ (m, x) :: M, q.1 < w.heap.size := fun q hq => (h2 q hq).1.lt
  rcases List.mem_cons.1 hp with rfl | hp
  · simp only [upd_same]
    refine ⟨hr, b, .inl c, fun k hk => hk.imp (d k) id, fun q hq e' => ?_⟩
    rcases List.mem_cons.1 hq with rfl | hq
    · exact e'.elim (fun e' => (a.off _ e').2 rfl) fun e' => by have := e'.1; have := a.lt; simp only at *; omega
    · exact e'.elim (fun e' => e q (List.mem_cons_of_mem _ hq) e') fun e' => by have := e'.1; have := hlt q (List.mem_cons_of_mem _ hq); omega
  · have hpm : p.1 ≠ m := fun e => hnd (e ▸ List.mem_map_of_mem hp)
    rw [upd_other _ _ hpm]
    obtain ⟨a', b', c', d', e''⟩ := h2 p (List.mem_cons_of_mem _ hp)
    refine ⟨a'.mod hm fun k hk => ?_, b', .inl c', fun k hk => .inl (d' k hk), fun q hq => ?_⟩
    · rcases hk with hk | rfl
      · exact fun e => e'' (m, x) List.mem_cons_self (e ▸ hk)
      · exact hpm
    · rcases List.mem_cons.1 hq with rfl | hq
      · exact e'' (m, x) List.mem_cons_self
      · exact e'' q (List.mem_cons_of_mem _ hq)
/-- Both kinds side by side: K holds what is none of the real disks'. -/
structure Both (w0 w : World) (K P : Nat → Prop) (L M : List (Nat × Dk)) : Prop where
  real : Held w0 w K L
  doc : RHeld w0 w P M
  sub : ∀ b, P b → K b
theorem Both.below (h : Both w0 w K P L M) (hb : Below w.heap.size w w') : Both w0 w' (fun b => K b ∨ From w.heap.size w' b) P L M := ⟨h.real.below hb, h.doc.below hb, fun b hb => .inl (h.sub b hb)⟩
theorem Both.did {r : Int × Dk} {e : Ending} (h : Both w0 w K P ((d, x) :: L) M) (hd : Did w0 w K L d r e w') : Both w0 w' K P ((d, r.2) :: L) M := ⟨hd.2.1, h.doc.kept hd.2.2 h.sub, h.sub⟩
theorem Both.real_ (h : Both w0 w K P L M) {L' : List (Nat × Dk)} (h1 : Held w0 w' K L') (h2 : Kept K w w') : Both w0 w' K P L' M := ⟨h1, h.doc.kept h2 h.sub, h.sub⟩
theorem Both.doc_ (h : Both w0 w K P L ((m, x) :: M)) (h1 : RHeld w0 w' (fun b => P b ∨ From w.heap.size w' b) ((m, x') :: M)) (hm : Mod (· = m) w w') : Both w0 w' (fun b => K b ∨ From w.heap.size w' b) (fun b => P b ∨ From w.heap.size w' b) L ((m, x') :: M) := by
  obtain ⟨R, _, h2, h3, _⟩ := h.doc.rat
  refine ⟨h.real.other ?_ hm fun b _ e => by rw [e]; exact h.sub _ h3, h1, fun b hb => hb.imp (h.sub b) id⟩
  have hz := hm.size
  have hb := h.real.bel
  exact ⟨hm.os.trans hb.os, hm.tape.trans hb.tape, hm.output.trans hb.output, Nat.le_trans hb.size hz, fun k hk => (hm.block k (Nat.lt_of_lt_of_le hk hb.size) fun e => by omega).trans (hb.block k hk)⟩
/-- Blocks of the caller's own are changed. -/
theorem Both.own {S : Nat → Prop} (h : Both w0 w K P L M) (hm : Mod S w w') (h1 : ∀ b, S b → K b ∧ w0.heap.size ≤ b ∧ ¬ P b) : Both w0 w' K P L M := by
  have hz := hm.size
  have hb := h.real.bel
  refine ⟨(h.real.other (w' := w') ?_ hm fun b _ e => (h1 b e).1).less fun b => .inl, h.doc.mod hm fun b hp hs => (h1 b hs).2.2 hp, h.sub⟩
  exact ⟨hm.os.trans hb.os, hm.tape.trans hb.tape, hm.output.trans hb.output, Nat.le_trans hb.size hz, fun k hk => (hm.block k (Nat.lt_of_lt_of_le hk hb.size) fun e => by have := (h1 k e).2.1; omega).trans (hb.block k hk)⟩
theorem Both.kl (h : Both w0 w K P L M) : ∀ b, K b → b < w.heap.size := h.real.kl
theorem Both.drew (h : Both w0 w K P L M) : Both w0 w.drew K P L M := ⟨h.real.drew, h.doc.below (Below.refl _ _).drew, h.sub⟩
/-! ### the document's calls -/
/-- A call of the document answered q; its disk is x' now. -/
def RWas (w0 w : World) (P : Nat → Prop) (M : List (Nat × Dk)) (m : Nat) (r : Int × Dk) (e : Ending) (w' : World) : Prop :=
  e = .returned (.int .i64 r.1) ∧ RHeld w0 w' (fun b => P b ∨ From w.heap.size w' b) ((m, r.2) :: M) ∧ Mod (· = m) w w'
theorem RHeld.do_ (h : RHeld w0 w P ((m, x) :: M)) {N : Nat} (hx : Fine N x) (hN : N ≤ 999999) (c : Rc) {V : Nat → Prop} (hc : BytesIn w V c.s c.l) (hcl : c.l.length ≤ 1000000) (hcn : Nok c.n) (hct : Nok c.t) (h0 : 0 ≤ c.k) :
    Calls Try.prog 50 #[.pointer (some ⟨m, 0, none⟩), c.val] w (RWas w0 w P M m (rdo x c)) :=
  h.step (S := fun e => e = .returned (.int .i64 (rdo x c).1)) (fun R hr => rdo_any hr hx hN c hc hcl hcn hct h0) fun _ _ he h1 h2 => ⟨he, h1, h2⟩
theorem RHeld.sync (h : RHeld w0 w P ((m, x) :: M)) {N : Nat} (hx : Fine N x) (hN : N ≤ 1000000) : Calls Try.prog 51 #[.pointer (some ⟨m, 0, none⟩)] w (RWas w0 w P M m x.sync) :=
  h.step (S := fun e => e = .returned (.int .i64 x.sync.1)) (fun R hr => rsync_any hr hx hN) fun _ _ he h1 h2 => ⟨he, h1, h2⟩
theorem RHeld.crash (h : RHeld w0 w P ((m, x) :: M)) {N : Nat} (hx : Fine N x) (hN : N ≤ 999999) (keep torn : Int) : Calls Try.prog 53 #[.pointer (some ⟨m, 0, none⟩), .int .i64 keep, .int .i64 torn] w (RWas w0 w P M m (x.crash keep torn)) :=
  h.step (S := fun e => e = .returned (.int .i64 (x.crash keep torn).1)) (fun R hr => rcrash_any hr hx hN keep torn) fun _ _ he h1 h2 => ⟨he, h1, h2⟩
theorem RHeld.start (h : RHeld w0 w P ((m, x) :: M)) : Calls Try.prog 54 #[.pointer (some ⟨m, 0, none⟩)] w (RWas w0 w P M m x.start) :=
  h.step (S := fun e => e = .returned (.int .i64 x.start.1)) (fun R hr => rstart_any hr) fun _ _ he h1 h2 => ⟨he, h1, h2⟩
theorem RHeld.wipe (h : RHeld w0 w P ((m, x) :: M)) : Calls Try.prog 55 #[.pointer (some ⟨m, 0, none⟩)] w fun e w' => e = .returned (.tuple #[]) ∧ RHeld w0 w' (fun b => P b ∨ From w.heap.size w' b) ((m, x.wipe) :: M) ∧ Mod (· = m) w w' :=
  h.step (S := fun e => e = .returned (.tuple #[])) (fun R hr => rwipe_any hr) fun _ _ he h1 h2 => ⟨he, h1, h2⟩
theorem RHeld.read (h : RHeld w0 w P ((m, x) :: M)) {N : Nat} (hx : Fine N x) (hN : N ≤ 1000000) (n : Nm) (hn : Nok n) : Calls Try.prog 52 #[.pointer (some ⟨m, 0, none⟩), .string ⟨n.toArray⟩] w (RRead w P (x.read n)) := by
  obtain ⟨R, h1, _, _, h4⟩ := h.rat
  refine (rread_any h1 hx hN n hn).mono fun e w' ⟨⟨s, he, hs⟩, hb⟩ => ⟨⟨s, he, hs.mono fun b hb => hb.imp (h4 b) id⟩, hb⟩
theorem RHeld.seen (h : RHeld w0 w P ((m, x) :: M)) {N : Nat} (hx : Fine N x) (hN : N ≤ 1000000) : Calls Try.prog 56 #[.pointer (some ⟨m, 0, none⟩)] w (DonePost w P x.seen) := by
  obtain ⟨R, h1, _, _, h4⟩ := h.rat
  refine (seen_any h1 hx hN).mono fun e w' ⟨E, hE, ⟨A, c, he, hf⟩, hb⟩ => ⟨E, hE, ⟨A, c, he, hf.mono fun b hb => hb.imp (h4 b) id⟩, hb⟩
theorem RHeld.new (h : RHeld w0 w P M) (hw : w0.heap.size ≤ w.heap.size) (cap : Int) : Calls Try.prog 27 #[.int .i64 cap] w fun e w' =>
    ((cap < 0 ∨ 65536 < cap) ∧ e = .returned (.pointer none) ∧ w = w') ∨ ((0 ≤ cap ∧ cap ≤ 65536) ∧ ∃ m, e = .returned (.pointer (some ⟨m, 0, none⟩)) ∧ RHeld w0 w' (fun b => P b ∨ From w.heap.size w' b) ((m, Dk.new cap) :: M) ∧ Below w.heap.size w w') := by
  refine (rnew_any cap w).mono fun e w' hp => hp.imp id fun ⟨h1, he, hr, hb⟩ => ⟨h1, _, he, h.cons hb hw (Nat.le_refl _) hr fun _ h => h.elim, hb⟩
/-- A copy of the struct alone. -/
theorem RHeld.twin (h : RHeld w0 w P ((m, x) :: M)) (hw : w0.heap.size ≤ w.heap.size) : ∃ vs, Blk w m 66 vs ∧
    RHeld w0 (w.alloc (.cells vs 66)) (fun b => P b ∨ From w.heap.size (w.alloc (.cells vs 66)) b) ((w.heap.size, x) :: (m, x) :: M) := by
  have h0 := h
  obtain ⟨_, Q, h2⟩ := h
  obtain ⟨a, b, c, d, e⟩ := h2 _ List.mem_cons_self
  obtain ⟨A, ca, E, B, g, l, hr⟩ := a
  refine ⟨_, hr.blk, h0.cons (R := Q m) (below_new w _) hw (Nat.le_refl _) ?_ fun b hb => .inl ⟨d b hb, (hr.off b hb).1, fun q hq e' => e q hq (e' ▸ hb)⟩⟩
  have hbn := below_new w (.cells #[.slice A E.length ca, .slice B l.length g, .int .i64 x.cap, .int .u64 x.serial, .bool x.down] 66)
  exact ⟨A, ca, E, B, g, l, Blk.new _ _ _, hr.files.below hbn, hr.last, hr.chgs.below hbn, hr.waits, fun b hb => ⟨Nat.lt_of_lt_of_le (hr.off b hb).1 hbn.size, fun e => by have := (hr.off b hb).1; omega⟩⟩
end
end Go.Proofs.Ytggdkhgpkedbkaa
