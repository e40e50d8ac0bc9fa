/- Add, Join, Take: the program's and the reference's. -/
import Derived.Test.YtgdbknbpnlpdnaaSeenL
namespace Go.Proofs.Ytgdbknbpnlpdnaa
set_option linter.unusedVariables false
set_option linter.unusedSimpArgs false
open Go.RowKit

def OutPost (base : Nat) (o : Option (Option (List Mk))) (e : Ending) (w' : World) : Prop :=
  match o with
  | none => e = .returned (.tuple #[.slice none 0 0, .int .i64 1])
  | some g => GoPost base g e w'
theorem OutPost.bad {base : Nat} {o : Option (Option (List Mk))} (h : o = none) {e : Ending} {w' : World} (he : e = .returned (.tuple #[.slice none 0 0, .int .i64 1])) : OutPost base o e w' := by subst h; exact he
theorem OutPost.full {base : Nat} {o : Option (Option (List Mk))} (h : o = some none) {e : Ending} {w' : World} (he : e = .returned (.tuple #[.slice none 0 0, .int .i64 3])) : OutPost base o e w' := by subst h; exact he
theorem OutPost.good {base : Nat} {o : Option (Option (List Mk))} {L : List Mk} (h : o = some (some L)) {e : Ending} {w' : World} {v : Value} (he : e = .returned (.tuple #[v, .int .i64 0])) (ho : OwnM w' base v L) : OutPost base o e w' := by subst h; exact ⟨v, he, ho⟩
theorem GoPost.less {base base' : Nat} {o : Option (List Mk)} {e : Ending} {w' : World} (h : GoPost base o e w') (hb : base' ≤ base) : GoPost base' o e w' := by
  cases o with
  | none => exact h
  | some L =>
    obtain ⟨v, he, ho⟩ := h
    exact ⟨v, he, ho.less hb⟩
def goesR (l more : List Mk) : Option (List Mk) := more.foldl (fun o m => o.bind (goR · m)) (some l)
def addS (ms : List Mk) (m : Mk) : Option (Option (List Mk)) := if mayB ms && m.may then some (goesS ms [m]) else none
def addR (ms : List Mk) (m : Mk) : Option (Option (List Mk)) := if mayB ms && m.may then some (goR ms m) else none
def joinS (a b : List Mk) : Option (Option (List Mk)) := if mayB a && mayB b then some (goesS a b) else none
def joinR (a b : List Mk) : Option (Option (List Mk)) := if mayB a && mayB b then some (goesR a b) else none

theorem goesR_none (more : List Mk) : more.foldl (fun o m => o.bind (goR · m)) (none : Option (List Mk)) = none := by
  induction more with
  | nil => rfl
  | cons m more ih => exact ih
theorem goesR_succ {l more L : List Mk} {k : Nat} (hk : k < more.length) (h : goesR l (more.take k) = some L) : goesR l (more.take (k + 1)) = goR L more[k] := by
  unfold goesR at h ⊢
  rw [List.take_succ_eq_append_getElem hk, List.foldl_append, h]
  rfl
theorem goesR_stop {l more L : List Mk} {k : Nat} (hk : k < more.length) (h : goesR l (more.take k) = some L) (h2 : goR L more[k] = none) : goesR l more = none := by
  have e : more = more.take (k + 1) ++ more.drop (k + 1) := (List.take_append_drop _ _).symm
  have h3 := goesR_succ hk h
  rw [h2] at h3
  unfold goesR at h3 ⊢
  rw [e, List.foldl_append, h3]
  exact goesR_none _
theorem stI_len2 (ms : List Mk) (m : Mk) : ∀ k, k ≤ ms.length → (stI ms m k).1.length ≤ k + (if (stI ms m k).2 then 1 else 0)
  | 0, _ => by simp [stI]
  | k + 1, hk => by
    have := stI_len2 ms m k (by omega)
    rw [stI_succ ms m k (by omega)]
    generalize stI ms m k = st at this
    obtain ⟨l, p⟩ := st
    unfold stepI
    by_cases h1 : m.p.toInt ≤ ms[k].p.toInt <;> by_cases h2 : ms[k].p.toInt = m.p.toInt <;> cases p <;> simp [h1, h2] at this ⊢ <;> (try split) <;> (try simp) <;> omega
theorem goR_len (L : List Mk) (m : Mk) : ∀ L', goR L m = some L' → L'.length ≤ L.length + 1 := by
  intro L' h
  have h1 : (insR L m).length ≤ L.length + 1 := by
    have := stI_len2 L m L.length (Nat.le_refl _)
    unfold insR
    split
    · rename_i hp; rw [if_pos hp] at this; omega
    · rename_i hp; rw [if_neg hp] at this; simp; omega
  unfold goR at h
  split at h
  · split at h
    · injection h with h; subst h; omega
    · injection h with h; subst h; exact h1
  · split at h
    · cases h
    · injection h with h; subst h; exact h1
set_option maxHeartbeats 800000 in
theorem add_any (A : Option Addr) (c : Nat) (ms : List Mk) (m : Mk) (w : World) (hA : Marks w A ms) (hn : ms.length ≤ 100000) :
    Calls Try.prog 15 #[.slice A ms.length c, m.val] w fun e w' => OutPost w.heap.size (addS ms m) e w' ∧ Below w.heap.size w w' := by
  unfold Mk.val
  obtain ⟨r, hr⟩ : ∃ r, r = addS ms m := ⟨_, rfl⟩
  rw [← hr]
  have hmay := seenmay_any A c ms (w.alloc (.cells #[.int .i64 m.p.toInt, .int .u64 (m.s.toNat : Int), .int .u64 (m.o.toNat : Int)] 38)) (hA.below (below_new _ _)) (by omega)
  have HMAY := Lib.hid hmay
  clear hmay
  cases hm : mayB ms with
  | false =>
    rw [hm] at HMAY
    have HR : Hid (r = none) := by
      show _ = _
      rw [hr, addS, hm]; rfl
    clear hr hm
    go_enter Try.func15, Try.ntmps15
    go_wp2_with fail
    refine HMAY.out.mono ?_
    rintro e w1 ⟨rfl, hb1⟩
    go_wp2_with fail
    go_ret2
    exact ⟨OutPost.bad HR.out rfl, below_call (below_new _ _) (by simp) hb1⟩
  | true =>
    rw [hm] at HMAY
    cases hmm : m.may with
    | false =>
      have HR : Hid (r = none) := by
        show _ = _
        rw [hr, addS, hm, hmm]; rfl
      have HMM := Lib.hid hmm
      clear hr hm hmm
      go_enter Try.func15, Try.ntmps15
      go_wp2_with fail
      refine HMAY.out.mono ?_
      rintro e w1 ⟨rfl, hb1⟩
      have hbk := (Blk.new w 38 #[.int .i64 m.p.toInt, .int .u64 (m.s.toNat : Int), .int .u64 (m.o.toNat : Int)]).below hb1 (by simp)
      have hw1 : Below w.heap.size w w1 := below_call (below_new _ _) (by simp) hb1
      have m0 : w1.cell? ⟨w.heap.size, 0, none⟩ = some (.int .i64 m.p.toInt) := hbk.cell 0
      have m1 : w1.cell? ⟨w.heap.size, 1, none⟩ = some (.int .u64 (m.s.toNat : Int)) := hbk.cell 1
      have m2 : w1.cell? ⟨w.heap.size, 2, none⟩ = some (.int .u64 (m.o.toNat : Int)) := hbk.cell 2
      go_wp2_with fail
      refine (may_any m w1).mono ?_
      rintro e w2 ⟨rfl, hb2⟩
      rw [HMM.out]
      go_wp2_with fail
      go_ret2
      exact ⟨OutPost.bad HR.out rfl, below_call hw1 hw1.size hb2⟩
    | true =>
      have HR : Hid (r = some (goesS ms [m])) := by
        show _ = _
        rw [hr, addS, hm, hmm]; rfl
      have HMM := Lib.hid hmm
      clear hr hm hmm
      go_enter Try.func15, Try.ntmps15
      go_wp2_with fail
      refine HMAY.out.mono ?_
      rintro e w1 ⟨rfl, hb1⟩
      have hbk := (Blk.new w 38 #[.int .i64 m.p.toInt, .int .u64 (m.s.toNat : Int), .int .u64 (m.o.toNat : Int)]).below hb1 (by simp)
      have hw1 : Below w.heap.size w w1 := below_call (below_new _ _) (by simp) hb1
      have m0 : w1.cell? ⟨w.heap.size, 0, none⟩ = some (.int .i64 m.p.toInt) := hbk.cell 0
      have m1 : w1.cell? ⟨w.heap.size, 1, none⟩ = some (.int .u64 (m.s.toNat : Int)) := hbk.cell 1
      have m2 : w1.cell? ⟨w.heap.size, 2, none⟩ = some (.int .u64 (m.o.toNat : Int)) := hbk.cell 2
      go_wp2_with fail
      refine (may_any m w1).mono ?_
      rintro e w2 ⟨rfl, hb2⟩
      rw [HMM.out]
      replace hbk := hbk.below hb2 hbk.lt
      have hw2 : Below w.heap.size w w2 := below_call hw1 hw1.size hb2
      clear m0 m1 m2
      have m0 : w2.cell? ⟨w.heap.size, 0, none⟩ = some (.int .i64 m.p.toInt) := hbk.cell 0
      have m1 : w2.cell? ⟨w.heap.size, 1, none⟩ = some (.int .u64 (m.s.toNat : Int)) := hbk.cell 1
      have m2 : w2.cell? ⟨w.heap.size, 2, none⟩ = some (.int .u64 (m.o.toNat : Int)) := hbk.cell 2
      have hgo := goes_any A c ms (some ⟨w2.heap.size, 0, none⟩) 1 [m] (w2.alloc (.cells #[.int .i64 m.p.toInt, .int .u64 (m.s.toNat : Int), .int .u64 (m.o.toNat : Int)] 38)) ((hA.below hw2).below (below_new _ _)) (Marks.new _ _ _ _ _ rfl) (by omega) (by simp)
      have HGO := Lib.hid hgo
      clear hgo
      generalize goesS ms [m] = g at HR HGO
      go_wp2_with fail
      refine HGO.out.mono ?_
      rintro e w3 ⟨hg, hb3⟩
      have hw3 : Below w.heap.size w w3 := below_call (hw2.alloc hw2.size _) (by have := hw2.size; simp; omega) hb3
      cases g with
      | none =>
        obtain rfl := hg
        go_wp2_with fail
        go_ret2
        exact ⟨OutPost.full HR.out rfl, hw3⟩
      | some L =>
        obtain ⟨v, rfl, ho⟩ := hg
        obtain ⟨A4, c4, rfl, _, _⟩ := ho.form
        go_wp2_with fail
        go_ret2
        exact ⟨OutPost.good HR.out rfl (ho.less (by have := hw2.size; simp; omega)), hw3⟩
set_option maxHeartbeats 800000 in
theorem refadd_any (A : Option Addr) (c : Nat) (ms : List Mk) (m : Mk) (w : World) (hA : Marks w A ms) (hn : ms.length ≤ 100000) :
    Calls Try.prog 16 #[.slice A ms.length c, m.val] w fun e w' => OutPost w.heap.size (addR ms m) e w' ∧ Below w.heap.size w w' := by
  unfold Mk.val
  obtain ⟨r, hr⟩ : ∃ r, r = addR ms m := ⟨_, rfl⟩
  rw [← hr]
  have hmay := refmay_any A c ms (w.alloc (.cells #[.int .i64 m.p.toInt, .int .u64 (m.s.toNat : Int), .int .u64 (m.o.toNat : Int)] 38)) (hA.below (below_new _ _)) (by omega)
  have HMAY := Lib.hid hmay
  clear hmay
  cases hm : mayB ms with
  | false =>
    rw [hm] at HMAY
    have HR : Hid (r = none) := by
      show _ = _
      rw [hr, addR, hm]; rfl
    clear hr hm
    go_enter Try.func16, Try.ntmps16
    go_wp2_with fail
    refine HMAY.out.mono ?_
    rintro e w1 ⟨rfl, hb1⟩
    go_wp2_with fail
    go_ret2
    exact ⟨OutPost.bad HR.out rfl, below_call (below_new _ _) (by simp) hb1⟩
  | true =>
    rw [hm] at HMAY
    cases hmm : m.may with
    | false =>
      have HR : Hid (r = none) := by
        show _ = _
        rw [hr, addR, hm, hmm]; rfl
      have HMM := Lib.hid hmm
      clear hr hm hmm
      go_enter Try.func16, Try.ntmps16
      go_wp2_with fail
      refine HMAY.out.mono ?_
      rintro e w1 ⟨rfl, hb1⟩
      have hbk := (Blk.new w 38 #[.int .i64 m.p.toInt, .int .u64 (m.s.toNat : Int), .int .u64 (m.o.toNat : Int)]).below hb1 (by simp)
      have hw1 : Below w.heap.size w w1 := below_call (below_new _ _) (by simp) hb1
      have m0 : w1.cell? ⟨w.heap.size, 0, none⟩ = some (.int .i64 m.p.toInt) := hbk.cell 0
      have m1 : w1.cell? ⟨w.heap.size, 1, none⟩ = some (.int .u64 (m.s.toNat : Int)) := hbk.cell 1
      have m2 : w1.cell? ⟨w.heap.size, 2, none⟩ = some (.int .u64 (m.o.toNat : Int)) := hbk.cell 2
      go_wp2_with fail
      refine (maymark_any m w1).mono ?_
      rintro e w2 ⟨rfl, hb2⟩
      rw [HMM.out]
      go_wp2_with fail
      go_ret2
      exact ⟨OutPost.bad HR.out rfl, below_call hw1 hw1.size hb2⟩
    | true =>
      have HR : Hid (r = some (goR ms m)) := by
        show _ = _
        rw [hr, addR, hm, hmm]; rfl
      have HMM := Lib.hid hmm
      clear hr hm hmm
      go_enter Try.func16, Try.ntmps16
      go_wp2_with fail
      refine HMAY.out.mono ?_
      rintro e w1 ⟨rfl, hb1⟩
      have hbk := (Blk.new w 38 #[.int .i64 m.p.toInt, .int .u64 (m.s.toNat : Int), .int .u64 (m.o.toNat : Int)]).below hb1 (by simp)
      have hw1 : Below w.heap.size w w1 := below_call (below_new _ _) (by simp) hb1
      have m0 : w1.cell? ⟨w.heap.size, 0, none⟩ = some (.int .i64 m.p.toInt) := hbk.cell 0
      have m1 : w1.cell? ⟨w.heap.size, 1, none⟩ = some (.int .u64 (m.s.toNat : Int)) := hbk.cell 1
      have m2 : w1.cell? ⟨w.heap.size, 2, none⟩ = some (.int .u64 (m.o.toNat : Int)) := hbk.cell 2
      go_wp2_with fail
      refine (maymark_any m w1).mono ?_
      rintro e w2 ⟨rfl, hb2⟩
      rw [HMM.out]
      replace hbk := hbk.below hb2 hbk.lt
      have hw2 : Below w.heap.size w w2 := below_call hw1 hw1.size hb2
      clear m0 m1 m2
      have m0 : w2.cell? ⟨w.heap.size, 0, none⟩ = some (.int .i64 m.p.toInt) := hbk.cell 0
      have m1 : w2.cell? ⟨w.heap.size, 1, none⟩ = some (.int .u64 (m.s.toNat : Int)) := hbk.cell 1
      have m2 : w2.cell? ⟨w.heap.size, 2, none⟩ = some (.int .u64 (m.o.toNat : Int)) := hbk.cell 2
      have hgo := refgo_any A c ms m w2 (hA.below hw2) (by omega)
      have HGO := Lib.hid hgo
      clear hgo
      generalize goR ms m = g at HR HGO
      go_wp2_with fail
      refine HGO.out.mono ?_
      rintro e w3 ⟨hg, hb3⟩
      have hw3 : Below w.heap.size w w3 := below_call hw2 hw2.size hb3
      cases g with
      | none =>
        obtain rfl := hg
        go_wp2_with fail
        go_ret2
        exact ⟨OutPost.full HR.out rfl, hw3⟩
      | some L =>
        obtain ⟨v, rfl, ho⟩ := hg
        obtain ⟨A4, c4, rfl, _, _⟩ := ho.form
        go_wp2_with fail
        go_ret2
        exact ⟨OutPost.good HR.out rfl (ho.less hw2.size), hw3⟩
set_option maxHeartbeats 800000 in
theorem join_any (A : Option Addr) (c : Nat) (a : List Mk) (B : Option Addr) (d : Nat) (b : List Mk) (w : World) (hA : Marks w A a) (hB : Marks w B b) (hn : a.length ≤ 10000) (hm : b.length ≤ 10000) :
    Calls Try.prog 19 #[.slice A a.length c, .slice B b.length d] w fun e w' => OutPost w.heap.size (joinS a b) e w' ∧ Below w.heap.size w w' := by
  obtain ⟨r, hr⟩ : ∃ r, r = joinS a b := ⟨_, rfl⟩
  rw [← hr]
  have hmay := seenmay_any A c a w hA (by omega)
  have HMAY := Lib.hid hmay
  clear hmay
  cases hma : mayB a with
  | false =>
    rw [hma] at HMAY
    have HR : Hid (r = none) := by
      show _ = _
      rw [hr, joinS, hma]; rfl
    clear hr hma
    go_enter Try.func19, Try.ntmps19
    go_wp2_with fail
    refine HMAY.out.mono ?_
    rintro e w1 ⟨rfl, hb1⟩
    go_wp2_with fail
    go_ret2
    exact ⟨OutPost.bad HR.out rfl, hb1⟩
  | true =>
    rw [hma] at HMAY
    cases hmb : mayB b with
    | false =>
      have HR : Hid (r = none) := by
        show _ = _
        rw [hr, joinS, hma, hmb]; rfl
      have HMB := Lib.hid hmb
      clear hr hma hmb
      go_enter Try.func19, Try.ntmps19
      go_wp2_with fail
      refine HMAY.out.mono ?_
      rintro e w1 ⟨rfl, hb1⟩
      go_wp2_with fail
      refine (seenmay_any B d b w1 (hB.below hb1) (by omega)).mono ?_
      rintro e w2 ⟨rfl, hb2⟩
      rw [HMB.out]
      go_wp2_with fail
      go_ret2
      exact ⟨OutPost.bad HR.out rfl, below_call hb1 hb1.size hb2⟩
    | true =>
      have HR : Hid (r = some (goesS a b)) := by
        show _ = _
        rw [hr, joinS, hma, hmb]; rfl
      have HMB := Lib.hid hmb
      clear hr hma hmb
      go_enter Try.func19, Try.ntmps19
      go_wp2_with fail
      refine HMAY.out.mono ?_
      rintro e w1 ⟨rfl, hb1⟩
      go_wp2_with fail
      refine (seenmay_any B d b w1 (hB.below hb1) (by omega)).mono ?_
      rintro e w2 ⟨rfl, hb2⟩
      rw [HMB.out]
      have hw2 : Below w.heap.size w w2 := below_call hb1 hb1.size hb2
      have hgo := goes_any A c a B d b w2 (hA.below hw2) (hB.below hw2) (by omega) (by omega)
      have HGO := Lib.hid hgo
      clear hgo
      generalize goesS a b = g at HR HGO
      go_wp2_with fail
      refine HGO.out.mono ?_
      rintro e w3 ⟨hg, hb3⟩
      have hw3 : Below w.heap.size w w3 := below_call hw2 hw2.size hb3
      cases g with
      | none =>
        obtain rfl := hg
        go_wp2_with fail
        go_ret2
        exact ⟨OutPost.full HR.out rfl, hw3⟩
      | some L =>
        obtain ⟨v, rfl, ho⟩ := hg
        obtain ⟨A4, c4, rfl, _, _⟩ := ho.form
        go_wp2_with fail
        go_ret2
        exact ⟨OutPost.good HR.out rfl (ho.less hw2.size), hw3⟩

set_option maxHeartbeats 800000 in
theorem refjoin_any (A : Option Addr) (c : Nat) (a : List Mk) (B : Option Addr) (d : Nat) (b : List Mk) (w : World) (hA : Marks w A a) (hB : Marks w B b) (hn : a.length ≤ 10000) (hm : b.length ≤ 10000) :
    Calls Try.prog 20 #[.slice A a.length c, .slice B b.length d] w fun e w' => OutPost w.heap.size (joinR a b) e w' ∧ Below w.heap.size w w' := by
  obtain ⟨r, hr⟩ : ∃ r, r = joinR a b := ⟨_, rfl⟩
  rw [← hr]
  have hmay := refmay_any A c a w hA (by omega)
  have HMAY := Lib.hid hmay
  clear hmay
  cases hma : mayB a with
  | false =>
    rw [hma] at HMAY
    have HR : Hid (r = none) := by
      show _ = _
      rw [hr, joinR, hma]; rfl
    clear hr hma
    go_enter Try.func20, Try.ntmps20
    go_wp2_with fail
    refine HMAY.out.mono ?_
    rintro e w1 ⟨rfl, hb1⟩
    go_wp2_with fail
    go_ret2
    exact ⟨OutPost.bad HR.out rfl, hb1⟩
  | true =>
    rw [hma] at HMAY
    cases hmb : mayB b with
    | false =>
      have HR : Hid (r = none) := by
        show _ = _
        rw [hr, joinR, hma, hmb]; rfl
      have HMB := Lib.hid hmb
      clear hr hma hmb
      go_enter Try.func20, Try.ntmps20
      go_wp2_with fail
      refine HMAY.out.mono ?_
      rintro e w1 ⟨rfl, hb1⟩
      go_wp2_with fail
      refine (refmay_any B d b w1 (hB.below hb1) (by omega)).mono ?_
      rintro e w2 ⟨rfl, hb2⟩
      rw [HMB.out]
      go_wp2_with fail
      go_ret2
      exact ⟨OutPost.bad HR.out rfl, below_call hb1 hb1.size hb2⟩
    | true =>
      have HR : Hid (r = some (goesR a b)) := by
        show _ = _
        rw [hr, joinR, hma, hmb]; rfl
      have HMB := Lib.hid hmb
      clear hr hma hmb
      go_enter Try.func20, Try.ntmps20
      go_wp2_with fail
      refine HMAY.out.mono ?_
      rintro e w1 ⟨rfl, hb1⟩
      go_wp2_with fail
      refine (refmay_any B d b w1 (hB.below hb1) (by omega)).mono ?_
      rintro e w2 ⟨rfl, hb2⟩
      rw [HMB.out]
      have hw2 : Below w.heap.size w w2 := below_call hb1 hb1.size hb2
      have hown0 : (w2.alloc (.cells #[] 38)).ownsRow w.heap.size 38 3 (.slice (some ⟨w2.heap.size, 0, none⟩) 0 0) 0 [] := World.ownsRow_made _ _ _ hw2.size (by simp [maxLen]) rfl
      have hA' : Marks (w2.alloc (.cells #[] 38)) A a := (hA.below hw2).below (below_new _ _)
      have h1 := Mk.row_one a
      go_wp2_with (first
        | (at_builtin; refine app_list marks_ty rfl rfl hown0 rfl hA' rfl h1 (by omega) (by have := hw2.size; simp; omega) ?_; intro v3 w3 hown3 hg3 _))
      have hw3 : Below w.heap.size w w3 := (hw2.alloc hw2.size _).grown hg3 (by have := hw2.size; simp; omega) (own_ge hown0)
      have ho3 : OwnM w3 w.heap.size v3 a := by unfold OwnM; simpa using hown3
      clear hown3 hg3 hown0 hA' h1 hb1 hb2 hw2 HMAY
      go_loopw [6, 7] (fun v i wr => ∃ k : Nat, k ≤ b.length ∧ i = .int .i64 k ∧ Below w.heap.size w wr ∧ ∃ L, goesR a (b.take k) = some L ∧ L.length ≤ a.length + k ∧ OwnM wr w.heap.size v L) (fun _ i _ => b.length - (intOf i).toNat)
      case atStart => exact ⟨0, by omega, rfl, hw3, a, rfl, by omega, ho3⟩
      case round =>
        clear ho3 hw3
        obtain ⟨k, hk, rfl, hb, L, hL, hle, ho⟩ := hrel
        obtain ⟨A1, c1, rfl, hc1, hc2⟩ := ho.form
        by_cases hlt : k < b.length
        · obtain ⟨bb, o, rfl, had, c0, c1', c2⟩ := hB.at_ hlt
          replace c0 := (hb.cell (p := ⟨bb, o + k * 3, none⟩) had).trans c0
          replace c1' := (hb.cell (p := ⟨bb, o + k * 3 + 1, none⟩) had).trans c1'
          replace c2 := (hb.cell (p := ⟨bb, o + k * 3 + 2, none⟩) had).trans c2
          have HS := Lib.hid (goesR_succ hlt hL)
          have HSTOP := Lib.hid (goesR_stop hlt hL)
          clear hL
          generalize b[k] = m at c0 c1' c2 HS HSTOP
          have hgo := refgo_any A1 c1 L m wr ho.marks (by omega)
          have HGO := Lib.hid hgo
          have HLEN := Lib.hid (goR_len L m)
          clear hgo
          generalize goR L m = g at HGO HS HSTOP HLEN
          go_wp2_with fail
          refine HGO.out.mono ?_
          rintro e w4 ⟨hg, hb4⟩
          have hw4 : Below w.heap.size w w4 := below_call hb hb.size hb4
          cases g with
          | none =>
            obtain rfl := hg
            go_wp2_with fail
            go_ret2
            exact ⟨OutPost.full (by have h1 := HSTOP.out; rw [HR.out]; simp at h1 ⊢; exact h1) rfl, hw4⟩
          | some L2 =>
            obtain ⟨v, rfl, ho4⟩ := hg
            obtain ⟨A4, c4, rfl, _, _⟩ := ho4.form
            have HL2 := Lib.hid (HLEN.out L2 rfl)
            go_wp2_with fail
            go_roundw
            case rel => exact ⟨k + 1, by omega, by go_num, hw4, L2, HS.out, by have := HL2.out; omega, ho4.less hb.size⟩
            case measure => simp [intOf]; omega
        · obtain rfl : k = b.length := by omega
          rw [List.take_length] at hL
          go_wp2_with fail
          go_ret2
          exact ⟨OutPost.good (by rw [HR.out, hL]) rfl ho, hb⟩

end Go.Proofs.Ytgdbknbpnlpdnaa
