/- A region that draws its order, walked in ONE order: what only reads is taken first; what writes or calls comes in the one order that the edges leave; behind each such step those reads that may still be ahead of it are paid for. -/
import Derived.OrdersHeld
import Derived.Tactics
import Derived.KernelRfl
namespace Go.Proofs.YtpjmolnkmlpfeaaGreatDoor
set_option linter.unusedVariables false
set_option linter.unusedSimpArgs false
set_option maxRecDepth 100000
theorem pz0 {α : Type _} (l : List α) (i : Nat) (a : α) : l.toArray.setIfInBounds i a = (l.set i a).toArray := List.setIfInBounds_toArray l i a
theorem pz1 {α : Type _} {x : α} {xs : List α} {a : α} : (x :: xs).set 0 a = a :: xs := List.set_cons_zero
theorem pz2 {α : Type _} {x : α} {xs : List α} {i : Nat} {a : α} : (x :: xs).set (i + 1) a = x :: xs.set i a := List.set_cons_succ
theorem pz : (∀ (a : Act) (t : Tmp) (v : Value), a.put (some t) v = { a with tmps := a.tmps.setIfInBounds t v }) ∧ (∀ (a : Act) (v : Value), a.put none v = a) ∧ (∀ (l : List Value) (i : Nat) (a : Value), l.toArray.setIfInBounds i a = (l.set i a).toArray) ∧ (∀ (x : Value) (xs : List Value) (a : Value), (x :: xs).set 0 a = a :: xs) ∧ (∀ (x : Value) (xs : List Value) (i : Nat) (a : Value), (x :: xs).set (i + 1) a = x :: xs.set i a) :=
 ⟨fun _ _ _ => rfl, fun _ _ => rfl, fun _ _ _ => pz0 _ _ _, fun _ _ _ => pz1, fun _ _ _ _ => pz2⟩
namespace PF

/-- The operations that come up behind number k, whatever order is drawn. -/
def desc (ops : Array Oper) (k : Nat) : List Nat :=
 (List.range ops.size).foldl (fun D i => if ((ops[i]?).map fun o => o.after.any fun e => Region.binds .any e && (e.on == k || D.contains e.on)).getD false then i :: D else D) []

def descOK (ops : Array Oper) (k : Nat) (D : List Nat) : Bool :=
 D.all fun j => ((ops[j]?).map fun o => o.after.any fun e => Region.binds .any e && (e.on == k || D.contains e.on)).getD false

def owes (j : Nat) : List (List Nat × (World → Prop)) → World → Prop
 | [], _ => True
 | x :: T, w => (x.1.contains j = false → x.2 w) ∧ owes j T w

def left (j : Nat) (T : List (List Nat × (World → Prop))) : List (List Nat × (World → Prop)) := T.filter fun x => !x.1.contains j

section
variable {P : Program} {ops : Array Oper} {Q : Exit → Act → World → Prop}

def wpAnyT (P : Program) (ops : Array Oper) (Q : Exit → Act → World → Prop) : Nat → List (List Nat × (World → Prop)) → Array Bool → Act → World → Prop
 | 0, _, L, a, w => Region.ready .any ops L = [] ∧ Q .normal a w
 | f + 1, T, L, a, w => (Region.ready .any ops L = [] → Q .normal a w) ∧
   ∀ i ∈ Region.ready .any ops L, wpOp P ops Q i (fun a' w' => owes i T w' ∧ wpAnyT P ops Q f (left i T) (L.setIfInBounds i true) a' w') a w

theorem wpAny_of_T : ∀ (f : Nat) (T : List (List Nat × (World → Prop))) (L : Array Bool) (a : Act) (w : World), wpAnyT P ops Q f T L a w → wpAny P .any ops Q f L a w
 | 0, _, _, _, _, h => h
 | f + 1, _, _, _, _, h => ⟨h.1, fun i hi => wpOp_mono (fun a' w' h' => wpAny_of_T f _ _ a' w' h'.2) (h.2 i hi)⟩

theorem owes_iff {j : Nat} {T : List (List Nat × (World → Prop))} {w : World} : owes j T w ↔ ∀ x ∈ T, x.1.contains j = false → x.2 w := by
 induction T with
 | nil => simp [owes]
 | cons x T ih => simp only [owes, ih, List.mem_cons, forall_eq_or_imp]

theorem mem_left {j : Nat} {T : List (List Nat × (World → Prop))} {x : List Nat × (World → Prop)} : x ∈ left j T ↔ x ∈ T ∧ x.1.contains j = false := by
 unfold left
 rw [List.mem_filter]
 simp

theorem wpAnyT_weak : ∀ (f : Nat) (T T' : List (List Nat × (World → Prop))) (L : Array Bool) (a : Act) (w : World), (∀ x ∈ T', x ∈ T) → wpAnyT P ops Q f T L a w → wpAnyT P ops Q f T' L a w
 | 0, _, _, _, _, _, _, h => h
 | f + 1, _, _, _, _, _, hs, h => ⟨h.1, fun i hi => wpOp_mono (fun a' w' h' =>
   ⟨owes_iff.2 fun x hx => owes_iff.1 h'.1 x (hs x hx), wpAnyT_weak f _ _ _ a' w' (fun x hx => mem_left.2 ⟨hs x (mem_left.1 hx).1, (mem_left.1 hx).2⟩) h'.2⟩) (h.2 i hi)⟩

theorem getD_lt {L : Array Bool} {k : Nat} (h : L.getD k true = false) : k < L.size := by
 rcases Nat.lt_or_ge k L.size with h' | h'
 ·exact h'
 ·simp [Array.getElem?_eq_none h'] at h

theorem not_desc {k j : Nat} {D : List Nat} {L : Array Bool} (hD : descOK ops k D = true) (hk : L.getD k true = false) (hL : ∀ d ∈ D, L.getD d false = false)
  (hj : j ∈ Region.ready .any ops L) : D.contains j = false := by
 obtain ⟨_, o, ho, hall⟩ := mem_ready.1 hj
 cases hc : D.contains j with
 | false => rfl
 | true =>
  have hm : j ∈ D := by simpa using hc
  have h1 := List.all_eq_true.1 hD j hm
  simp only [ho, Option.map_some, Option.getD_some] at h1
  obtain ⟨e, he, hb⟩ := Array.any_eq_true'.1 h1
  simp only [Bool.and_eq_true, Bool.or_eq_true, beq_iff_eq] at hb
  have h2 := hall e he hb.1
  rcases hb.2 with h3 | h3
  ·rw [h3] at h2
   have := getD_lt hk
   simp [this] at hk h2
   rw [hk] at h2
   cases h2
  ·rw [hL e.on (by simpa using h3)] at h2
   cases h2

theorem wpAnyT_first {k : Nat} {ok : Oper} {v : Value} {C : World → Prop} {D : List Nat} (hi : ops[k]? = some ok) (hsel : ∀ (j : Nat) (o : Oper) cs b, ops[j]? = some o → o.op ≠ .select cs b)
  (hQ : ∀ c a w, Q (.panic c) (a.put ok.dst v) w → Q (.panic c) a w) (hD : descOK ops k D = true) :
  ∀ (fuel : Nat) (T : List (List Nat × (World → Prop))) (L : Array Bool) (a : Act) (w : World),
   (∀ j oj, ops[j]? = some oj → j ≠ k → L.getD j true = false → (∀ e ∈ oj.after, Region.binds .any e = true → e.on ≠ k) → ok.apart ops oj = true) →
   k ∈ Region.ready .any ops L → (∀ d ∈ D, L.getD d false = false) → YieldsIf P ops C ok v a → C w → (∀ x ∈ T, x.2 w) →
   wpAnyT P ops Q fuel ((D, C) :: T) (L.setIfInBounds k true) (a.put ok.dst v) w → wpAnyT P ops Q (fuel + 1) T L a w := by
 intro fuel
 induction fuel with
 | zero =>
  intro T L a w _ hr _ hy hC hT H
  refine ⟨fun h => (by rw [h] at hr; cases hr), fun j hj => ?_⟩
  by_cases hjk : j = k
  ·subst hjk
   exact hy.wpOp hi hC ⟨owes_iff.2 fun x hx _ => hT x hx, wpAnyT_weak _ _ _ _ _ _ (fun x hx => List.mem_cons_of_mem _ (mem_left.1 hx).1) H⟩
  ·have := ready_mono hj hjk
   rw [H.1] at this
   cases this
 | succ fuel ih =>
  intro T L a w hfree hr hLD hy hC hT H
  refine ⟨fun h => (by rw [h] at hr; cases hr), fun j hj => ?_⟩
  by_cases hjk : j = k
  ·subst hjk
   exact hy.wpOp hi hC ⟨owes_iff.2 fun x hx _ => hT x hx, wpAnyT_weak _ _ _ _ _ _ (fun x hx => List.mem_cons_of_mem _ (mem_left.1 hx).1) H⟩
  ·have h1 := H.2 j (ready_mono hj hjk)
   obtain ⟨hjun, oj, hoj, hall⟩ := mem_ready.1 hj
   have hk0 := (mem_ready.1 hr).1
   have hjD := not_desc hD hk0 hLD hj
   have hnot : ∀ e ∈ oj.after, Region.binds .any e = true → e.on ≠ k := fun e he hb heq => by
    have h1 := hall e he hb
    rw [heq] at h1
    have := getD_lt hk0
    simp [this] at hk0 h1
    rw [hk0] at h1
    cases h1
   have h2 := wpOp_putIf hoj (hfree j oj hoj hjk hjun hnot) (fun cs b => hsel k ok cs b hi) (fun cs b => hsel j oj cs b hoj) hQ hy h1
   have hfree' : ∀ m om, ops[m]? = some om → m ≠ k → (L.setIfInBounds j true).getD m true = false →
     (∀ e ∈ om.after, Region.binds .any e = true → e.on ≠ k) → ok.apart ops om = true := fun m om hm hmk hun hno => by
    refine hfree m om hm hmk ?_ hno
    by_cases hjm : j = m
    ·subst hjm; exact hjun
    ·rw [getD_set_ne true hjm] at hun; exact hun
   refine wpOp_mono (fun a' w' h3 => ?_) h2
   obtain ⟨hy', howe, hrest⟩ := h3
   have hC' : C w' := (owes_iff.1 howe (D, C) (List.mem_cons_self ..)) hjD
   refine ⟨owes_iff.2 fun x hx => owes_iff.1 howe x (List.mem_cons_of_mem _ hx), ih (left j T) (L.setIfInBounds j true) a' w' hfree' (ready_mono hr (Ne.symm hjk)) ?_ hy' hC' ?_ ?_⟩
   ·intro d hd
    by_cases hdj : j = d
    ·subst hdj
     have : D.contains j = true := by simpa using hd
     rw [this] at hjD
     cases hjD
    ·rw [getD_set_ne false hdj]; exact hLD d hd
   ·intro x hx
    exact owes_iff.1 howe x (List.mem_cons_of_mem _ (mem_left.1 hx).1) (mem_left.1 hx).2
   ·rw [Array.setIfInBounds_comm _ _ hjk]
    have : left j ((D, C) :: T) = (D, C) :: left j T := by
     unfold left
     exact List.filter_cons_of_pos (by simp only [hjD]; rfl)
    rw [this] at hrest
    exact hrest

/-- Block b is as it was in w. -/
def Same (b : Nat) (w u : World) : Prop := u.heap[b]? = w.heap[b]?
theorem Same.refl (b : Nat) (w : World) : Same b w w := rfl
theorem Same.cell {b : Nat} {w u : World} (h : Same b w u) : ∀ a : Addr, a.block = b → u.cell? a = w.cell? a := fun a e => by
 unfold Same at h
 simp [World.cell?, e, h]

/- What is owed. -/
theorem owes_nil {j : Nat} {w : World} : owes j [] w := trivial
theorem owes_no {j : Nat} {w : World} {D : List Nat} {C : World → Prop} {T : List (List Nat × (World → Prop))} (h : D.contains j = true) (h2 : owes j T w) : owes j ((D, C) :: T) w :=
 ⟨fun h1 => absurd (h.symm.trans h1) (by simp), h2⟩
theorem owes_yes {j : Nat} {w : World} {D : List Nat} {C : World → Prop} {T : List (List Nat × (World → Prop))} (h : C w) (h2 : owes j T w) : owes j ((D, C) :: T) w := ⟨fun _ => h, h2⟩
theorem owes_left {i j : Nat} {w : World} {T : List (List Nat × (World → Prop))} (h : owes j T w) : owes j (left i T) w :=
 owes_iff.2 fun x hx hj => owes_iff.1 h x (mem_left.1 hx).1 hj

/-- What is still to come, at a world in which all that is owed holds. -/
def wpS (P : Program) (l : List Oper) (Q : Exit → Act → World → Prop) (f : Nat) (T : List (List Nat × (World → Prop))) (L : Array Bool) (a : Act) (w : World) : Prop :=
 (∀ x ∈ T, x.2 w) → wpAnyT P l.toArray Q f T L a w

/-- Number k may be taken now. -/
def takeB (l : List Oper) (L : Array Bool) (k : Nat) : Bool :=
 (Region.ready .any l.toArray L).contains k && Region.free .any l.toArray L k && descOK l.toArray k (desc l.toArray k) && (desc l.toArray k).all (fun d => !L.getD d false) && Region.noSelect l.toArray

theorem wpAnyT_more : ∀ (f : Nat) (T T' : List (List Nat × (World → Prop))) (L : Array Bool) (a : Act) (w : World), (∀ x ∈ T', x ∈ T ∨ ∀ u, x.2 u) → wpAnyT P ops Q f T L a w → wpAnyT P ops Q f T' L a w
 | 0, _, _, _, _, _, _, h => h
 | f + 1, T, T', _, _, _, hs, h => ⟨h.1, fun i hi => wpOp_mono (fun a' w' h' =>
   ⟨owes_iff.2 fun x hx hxi => (hs x hx).elim (fun h => owes_iff.1 h'.1 x h hxi) fun h => h w',
    wpAnyT_more f (left i T) (left i T') _ a' w' (fun x hx => (hs x (mem_left.1 hx).1).elim (fun h => .inl (mem_left.2 ⟨h, (mem_left.1 hx).2⟩)) .inr) h'.2⟩) (h.2 i hi)⟩

theorem take_any {l : List Oper} {f k : Nat} {T : List (List Nat × (World → Prop))} {L : Array Bool} {a : Act} {w : World} {o : Oper} {v : Value} {C : World → Prop} (hk : takeB l L k = true) (ho : l[k]? = some o)
  (hQ : ∀ c (a : Act) t v w, Q (.panic c) { tmps := a.tmps.setIfInBounds t v, defers := a.defers } w → Q (.panic c) a w)
  (hy : YieldsIf P l.toArray C o v a) (hC : C w) (h : wpS P l Q f ((desc l.toArray k, C) :: T) (L.setIfInBounds k true) (a.put o.dst v) w) : wpS P l Q (f + 1) T L a w := by
 intro hT
 simp only [takeB, Bool.and_eq_true] at hk
 obtain ⟨⟨⟨⟨hr, hf⟩, hd⟩, hLd⟩, hs⟩ := hk
 have hok : l.toArray[k]? = some o := by rw [List.getElem?_toArray]; exact ho
 have hr' : k ∈ Region.ready .any l.toArray L := by simpa using hr
 refine wpAnyT_first (C := C) (D := desc l.toArray k) hok (Region.noSelect_spec hs) (fun c a w h => ?_) hd f T L a w (Region.free_spec hok hf) hr'
  (fun d hdm => by have := List.all_eq_true.1 hLd d hdm; simpa using this) hy hC hT (h fun x hx => ?_)
 ·cases e : o.dst with
  | none => rw [e] at h; exact h
  | some t => rw [e] at h; exact hQ c a t v w h
 ·rcases List.mem_cons.1 hx with rfl | hx
  ·exact hC
  ·exact hT x hx

/- The steps. -/
theorem pf_begin {id : Nat} {l : List Oper} {a : Act} {w : World} (hm : P.follows .mixedOrders = true)
  (h : wpS P l Q l.length [] (Array.replicate l.length false) a w.drew) : (Code.region id l.toArray true).wp P Q a w := by
 refine wp_region_any hm ?_
 have h2 := wpAny_of_T _ _ _ _ _ (h fun x hx => by cases hx)
 simpa using h2
theorem pf_take0 {l : List Oper} {f : Nat} {T : List (List Nat × (World → Prop))} {L : Array Bool} {a : Act} {w : World} {o : Oper} {v : Value} (k : Nat) (hk : takeB l L k = true) (ho : l[k]? = some o)
  (hQ : ∀ c (a : Act) t v w, Q (.panic c) { tmps := a.tmps.setIfInBounds t v, defers := a.defers } w → Q (.panic c) a w)
  (hw : Region.wanted o (yielded l.toArray a.tmps) = true) (hy : ∀ u, (execOp a.eval o).run P u = .ok (.value v) u)
  (h : wpS P l Q f T (L.setIfInBounds k true) (a.put o.dst v) w) : wpS P l Q (f + 1) T L a w := fun hT =>
 take_any (C := fun _ => True) hk ho hQ (.inl ⟨hw, fun u _ => hy u⟩) trivial (fun _ => wpAnyT_more _ T _ _ _ _ (fun x hx => by
  rcases List.mem_cons.1 hx with rfl | hx
  ·exact .inr fun _ => trivial
  ·exact .inl hx) (h hT)) hT
theorem pf_skip0 {l : List Oper} {f : Nat} {T : List (List Nat × (World → Prop))} {L : Array Bool} {a : Act} {w : World} {o : Oper} (k : Nat) (hk : takeB l L k = true) (ho : l[k]? = some o)
  (hQ : ∀ c (a : Act) t v w, Q (.panic c) { tmps := a.tmps.setIfInBounds t v, defers := a.defers } w → Q (.panic c) a w)
  (hw : Region.wanted o (yielded l.toArray a.tmps) = false)
  (h : wpS P l Q f T (L.setIfInBounds k true) (a.put o.dst undef) w) : wpS P l Q (f + 1) T L a w := fun hT =>
 take_any (C := fun _ => True) hk ho hQ (.inr ⟨hw, rfl⟩) trivial (fun _ => wpAnyT_more _ T _ _ _ _ (fun x hx => by
  rcases List.mem_cons.1 hx with rfl | hx
  ·exact .inr fun _ => trivial
  ·exact .inl hx) (h hT)) hT
theorem pf_take1 {l : List Oper} {f : Nat} {T : List (List Nat × (World → Prop))} {L : Array Bool} {a : Act} {w : World} {o : Oper} {v : Value} (k : Nat) (C : World → Prop) (hk : takeB l L k = true) (ho : l[k]? = some o)
  (hQ : ∀ c (a : Act) t v w, Q (.panic c) { tmps := a.tmps.setIfInBounds t v, defers := a.defers } w → Q (.panic c) a w)
  (hw : Region.wanted o (yielded l.toArray a.tmps) = true) (hC : C w) (hy : ∀ u, C u → (execOp a.eval o).run P u = .ok (.value v) u)
  (h : wpS P l Q f ((desc l.toArray k, C) :: T) (L.setIfInBounds k true) (a.put o.dst v) w) : wpS P l Q (f + 1) T L a w :=
 take_any hk ho hQ (.inl ⟨hw, hy⟩) hC h
theorem step_one {l : List Oper} {f j : Nat} {T : List (List Nat × (World → Prop))} {L : Array Bool} {a : Act} {w : World} {o : Oper} (ho : l[j]? = some o)
  (hw : Region.wanted o (yielded l.toArray a.tmps) = true) (h : ∀ K : Act → World → Prop, (∀ a' w', owes j T w' → wpS P l Q f (left j T) (L.setIfInBounds j true) a' w' → K a' w') → o.wp P a w K Q) :
  wpOp P l.toArray Q j (fun a' w' => owes j T w' ∧ wpAnyT P l.toArray Q f (left j T) (L.setIfInBounds j true) a' w') a w := by
 unfold wpOp
 rw [List.getElem?_toArray, ho]
 simp only [hw, if_true]
 exact .inl (h _ fun a' w' h1 h2 => ⟨h1, h2 fun x hx => owes_iff.1 h1 x (mem_left.1 hx).1 (mem_left.1 hx).2⟩)
theorem pf_exec {l : List Oper} {f : Nat} {T : List (List Nat × (World → Prop))} {L : Array Bool} {a : Act} {w : World} {o : Oper} (j : Nat) (hr : Region.ready .any l.toArray L = [j]) (ho : l[j]? = some o)
  (hw : Region.wanted o (yielded l.toArray a.tmps) = true) (h : ∀ K : Act → World → Prop, (∀ a' w', owes j T w' → wpS P l Q f (left j T) (L.setIfInBounds j true) a' w' → K a' w') → o.wp P a w K Q) :
  wpS P l Q (f + 1) T L a w := fun _ => ⟨fun h0 => (by rw [hr] at h0; cases h0), fun i hi => by
 rw [hr] at hi
 have : i = j := by simpa using hi
 subst this
 exact step_one ho hw h⟩
theorem pf_skip {l : List Oper} {f : Nat} {T : List (List Nat × (World → Prop))} {L : Array Bool} {a : Act} {w : World} {o : Oper} (j : Nat) (hr : Region.ready .any l.toArray L = [j]) (ho : l[j]? = some o)
  (hw : Region.wanted o (yielded l.toArray a.tmps) = false) (h : wpS P l Q f T (L.setIfInBounds j true) (a.put o.dst undef) w) :
  wpS P l Q (f + 1) T L a w := fun hT => ⟨fun h0 => (by rw [hr] at h0; cases h0), fun i hi => by
 rw [hr] at hi
 have : i = j := by simpa using hi
 subst this
 unfold wpOp
 rw [List.getElem?_toArray, ho]
 simp only [hw, Bool.false_eq_true, if_false]
 exact ⟨owes_iff.2 fun x hx _ => hT x hx, wpAnyT_weak _ _ _ _ _ _ (fun x hx => (mem_left.1 hx).1) (h hT)⟩⟩
/-- One of several that may come up: what follows is shown for each. -/
theorem pf_fork {l : List Oper} {f : Nat} {T : List (List Nat × (World → Prop))} {L : Array Bool} {a : Act} {w : World} (rs : List Nat) (hr : Region.ready .any l.toArray L = rs) (hne : rs.isEmpty = false)
  (h : ∀ i ∈ rs, wpOp P l.toArray Q i (fun a' w' => owes i T w' ∧ wpAnyT P l.toArray Q f (left i T) (L.setIfInBounds i true) a' w') a w) : wpS P l Q (f + 1) T L a w := fun _ =>
 ⟨fun h0 => (by rw [← hr, h0] at hne; cases hne), fun i hi => h i (hr ▸ hi)⟩
theorem fork_nil {p : Nat → Prop} : ∀ i ∈ ([] : List Nat), p i := fun _ h => by cases h
theorem fork_cons {p : Nat → Prop} {j : Nat} {rs : List Nat} (h1 : p j) (h2 : ∀ i ∈ rs, p i) : ∀ i ∈ j :: rs, p i := fun i hi => by
 rcases List.mem_cons.1 hi with rfl | hi
 ·exact h1
 ·exact h2 i hi
theorem pf_done {l : List Oper} {T : List (List Nat × (World → Prop))} {L : Array Bool} {a : Act} {w : World} (hr : Region.ready .any l.toArray L = []) (h : Q .normal a w) : wpS P l Q 0 T L a w := fun _ => ⟨hr, h⟩
end
/- The same steps, said shorter: what a panic asks is carried along; one check for each step. -/
section
variable {P : Program} {Q : Exit → Act → World → Prop}
def okQ (Q : Exit → Act → World → Prop) : Prop := ∀ c (a : Act) t v w, Q (.panic c) { tmps := a.tmps.setIfInBounds t v, defers := a.defers } w → Q (.panic c) a w
def wpR (P : Program) (l : List Oper) (Q : Exit → Act → World → Prop) (f : Nat) (T : List (List Nat × (World → Prop))) (L : Array Bool) (a : Act) (w : World) : Prop := okQ Q → wpS P l Q f T L a w
def want (l : List Oper) (k : Nat) (ts : Array Value) : Option Bool := (l[k]?).map fun o => Region.wanted o (yielded l.toArray ts)
def chk (l : List Oper) (L : Array Bool) (k : Nat) (ts : Array Value) (b : Bool) : Bool := takeB l L k && want l k ts == some b
def chj (l : List Oper) (L : Array Bool) (k : Nat) (ts : Array Value) (b : Bool) : Bool := Region.ready .any l.toArray L == [k] && want l k ts == some b
theorem want_eq {l : List Oper} {k : Nat} {ts : Array Value} {b : Bool} {o : Oper} (h : want l k ts = some b) (ho : l[k]? = some o) : Region.wanted o (yielded l.toArray ts) = b := by
 unfold want at h
 rw [ho] at h
 exact Option.some.inj h
theorem chk_eq {l : List Oper} {L : Array Bool} {k : Nat} {ts : Array Value} {b : Bool} {o : Oper} (h : chk l L k ts b = true) (ho : l[k]? = some o) : takeB l L k = true ∧ Region.wanted o (yielded l.toArray ts) = b := by
 unfold chk at h
 rw [Bool.and_eq_true, beq_iff_eq] at h
 exact ⟨h.1, want_eq h.2 ho⟩
theorem chj_eq {l : List Oper} {L : Array Bool} {k : Nat} {ts : Array Value} {b : Bool} {o : Oper} (h : chj l L k ts b = true) (ho : l[k]? = some o) : Region.ready .any l.toArray L = [k] ∧ Region.wanted o (yielded l.toArray ts) = b := by
 unfold chj at h
 rw [Bool.and_eq_true, beq_iff_eq, beq_iff_eq] at h
 exact ⟨h.1, want_eq h.2 ho⟩
theorem n {j : Nat} {w : World} : owes j [] w := trivial
theorem l {i j : Nat} {w : World} {T : List (List Nat × (World → Prop))} (h : owes j T w) : owes j (left i T) w := owes_left h
theorem o {j : Nat} {w : World} {D : List Nat} {C : World → Prop} {T : List (List Nat × (World → Prop))} (h : D.contains j = true) (h2 : owes j T w) : owes j ((D, C) :: T) w := owes_no h h2
theorem y {j : Nat} {w : World} {D : List Nat} {C : World → Prop} {T : List (List Nat × (World → Prop))} (h : C w) (h2 : owes j T w) : owes j ((D, C) :: T) w := owes_yes h h2
theorem b {id : Nat} {l : List Oper} {a : Act} {w : World} (hm : P.follows .mixedOrders = true) (hQ : okQ Q) (h : wpR P l Q l.length [] (Array.replicate l.length false) a w.drew) : (Code.region id l.toArray true).wp P Q a w := pf_begin hm (h hQ)
theorem r {l : List Oper} {z : Nat} {T : List (List Nat × (World → Prop))} {L : Array Bool} {a : Act} {w : World} (hQ : okQ Q) (h : wpR P l Q z T L a w) : wpS P l Q z T L a w := h hQ
theorem d {l : List Oper} {T : List (List Nat × (World → Prop))} {L : Array Bool} {a : Act} {w : World} (hr : Region.ready .any l.toArray L = []) (h : Q .normal a w) : wpR P l Q 0 T L a w := fun _ => pf_done hr h
section
variable {l : List Oper} {z : Nat} {T : List (List Nat × (World → Prop))} {L : Array Bool} {a : Act} {w : World} {o : Oper} {v : Value}
theorem t (k : Nat) (hk : chk l L k a.tmps true = true) (ho : l[k]? = some o) (hy : ∀ {u : World}, (execOp a.eval o).run P u = .ok (.value v) u) (h : wpR P l Q z T (L.setIfInBounds k true) (a.put o.dst v) w) : wpR P l Q (z + 1) T L a w := fun q =>
 pf_take0 k (chk_eq hk ho).1 ho q (chk_eq hk ho).2 (fun _ => hy) (h q)
theorem s (k : Nat) (hk : chk l L k a.tmps false = true) (ho : l[k]? = some o) (h : wpR P l Q z T (L.setIfInBounds k true) (a.put o.dst undef) w) : wpR P l Q (z + 1) T L a w := fun q =>
 pf_skip0 k (chk_eq hk ho).1 ho q (chk_eq hk ho).2 (h q)
theorem k (j : Nat) (hk : chj l L j a.tmps false = true) (ho : l[j]? = some o) (h : wpR P l Q z T (L.setIfInBounds j true) (a.put o.dst undef) w) : wpR P l Q (z + 1) T L a w := fun q =>
 pf_skip j (chj_eq hk ho).1 ho (chj_eq hk ho).2 (h q)
theorem u (k : Nat) (C : World → Prop) (hk : chk l L k a.tmps true = true) (ho : l[k]? = some o) (hC : C w) (hy : ∀ u, C u → (execOp a.eval o).run P u = .ok (.value v) u) (h : wpR P l Q z ((desc l.toArray k, C) :: T) (L.setIfInBounds k true) (a.put o.dst v) w) : wpR P l Q (z + 1) T L a w := fun q =>
 pf_take1 k C (chk_eq hk ho).1 ho q (chk_eq hk ho).2 hC hy (h q)
theorem m (k g : Nat) (hk : chk l L k a.tmps true = true) (ho : l[k]? = some o) (hy : ∀ {u : World}, (∀ p : Addr, p.block = g → u.cell? p = w.cell? p) → (execOp a.eval o).run P u = .ok (.value v) u) (h : wpR P l Q z ((desc l.toArray k, Same g w) :: T) (L.setIfInBounds k true) (a.put o.dst v) w) : wpR P l Q (z + 1) T L a w := fun q =>
 pf_take1 k (Same g w) (chk_eq hk ho).1 ho q (chk_eq hk ho).2 (Same.refl _ _) (fun _ hu => hy hu.cell) (h q)
end
section
variable {l : List Oper} {z : Nat} {T : List (List Nat × (World → Prop))} {L : Array Bool} {a : Act} {w : World} {o : Oper}
def wpF (P : Program) (l : List Oper) (Q : Exit → Act → World → Prop) (z : Nat) (T : List (List Nat × (World → Prop))) (L : Array Bool) (a : Act) (w : World) (j : Nat) : Prop :=
 okQ Q → wpOp P l.toArray Q j (fun a' w' => owes j T w' ∧ wpAnyT P l.toArray Q z (left j T) (L.setIfInBounds j true) a' w') a w
theorem f {j : Nat} (hk : want l j a.tmps = some true) (ho : l[j]? = some o) (h : ∀ K : Act → World → Prop, (∀ {a' w'}, owes j T w' → wpR P l Q z (left j T) (L.setIfInBounds j true) a' w' → K a' w') → o.wp P a w K Q) : wpF P l Q z T L a w j := fun q =>
 step_one ho (want_eq hk ho) fun K hK => h K fun h1 h2 => hK _ _ h1 (h2 q)
theorem e (j : Nat) (hk : chj l L j a.tmps true = true) (ho : l[j]? = some o) (h : ∀ K : Act → World → Prop, (∀ {a' w'}, owes j T w' → wpR P l Q z (left j T) (L.setIfInBounds j true) a' w' → K a' w') → o.wp P a w K Q) : wpR P l Q (z + 1) T L a w := fun q =>
 pf_exec j (chj_eq hk ho).1 ho (chj_eq hk ho).2 fun K hK => h K fun h1 h2 => hK _ _ h1 (h2 q)
theorem g (rs : List Nat) (hr : Region.ready .any l.toArray L = rs) (hne : rs.isEmpty = false) (h : ∀ i ∈ rs, wpF P l Q z T L a w i) : wpR P l Q (z + 1) T L a w := fun q => pf_fork rs hr hne fun i hi => h i hi q
end
end
end PF
end Go.Proofs.YtpjmolnkmlpfeaaGreatDoor
