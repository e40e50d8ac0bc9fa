/- The reference's Cut and May. -/
import Derived.Test.YtgdbknbpnlpdnaaSeenG
namespace Go.Proofs.Ytgdbknbpnlpdnaa
set_option linter.unusedVariables false
set_option linter.unusedSimpArgs false
open Go.RowKit

theorem OwnM.snoc {w w' : World} {base : Nat} {v' : Value} {ms : List Mk} {m : Mk} {n : Nat} (h : w'.ownsRow base 38 3 v' (n + 1) (Mk.row ms ++ Mk.row [m])) (hn : n = ms.length) : OwnM w' base v' (ms ++ [m]) := by
  subst hn
  unfold OwnM
  rw [Mk.row_append, List.length_append]
  exact h
theorem OwnM.app {w' : World} {base : Nat} {v' : Value} {ms ns : List Mk} {n m : Nat} (h : w'.ownsRow base 38 3 v' (n + m) (Mk.row ms ++ Mk.row ns)) (hn : n = ms.length) (hm : m = ns.length) : OwnM w' base v' (ms ++ ns) := by
  subst hn hm
  unfold OwnM
  rw [Mk.row_append, List.length_append]
  exact h
theorem filter_snoc {α : Type} (p : α → Bool) (l : List α) (k : Nat) (hk : k < l.length) : (l.take (k + 1)).filter p = (l.take k).filter p ++ if p l[k] then [l[k]] else [] := by
  rw [List.take_succ_eq_append_getElem hk, List.filter_append]
  by_cases h : p l[k] <;> simp [h]

set_option maxHeartbeats 400000 in
theorem refcut_any (A : Option Addr) (c : Nat) (ms : List Mk) (q : UInt64) (w : World) (hA : Marks w A ms) (hn : ms.length ≤ 1000000) :
    Calls Try.prog 28 #[.slice A ms.length c, .int .u64 (q.toNat : Int)] w fun e w' => ClonePost w.heap.size (ms.filter fun m => decide (m.o.toNat < q.toNat)) e w' ∧ Below w.heap.size w w' := by
  go_enter Try.func28, Try.ntmps28
  go_wp2_with fail
  go_loopw [5, 6] (fun v i wr => ∃ k : Nat, k ≤ ms.length ∧ i = .int .i64 k ∧ Below w.heap.size w wr ∧ OwnM wr w.heap.size v ((ms.take k).filter fun m => decide (m.o.toNat < q.toNat))) (fun _ i _ => ms.length - (intOf i).toNat)
  case atStart => exact ⟨0, by omega, rfl, Below.refl _ _, OwnM.nil_ _ _⟩
  case round =>
    obtain ⟨k, hk, rfl, hb, ho⟩ := hrel
    by_cases hlt : k < ms.length
    · obtain ⟨b, o, rfl, had, c0, c1, c2⟩ := hA.at_ hlt
      replace c0 := (hb.cell (p := ⟨b, o + k * 3, none⟩) had).trans c0
      replace c1 := (hb.cell (p := ⟨b, o + k * 3 + 1, none⟩) had).trans c1
      replace c2 := (hb.cell (p := ⟨b, o + k * 3 + 2, none⟩) had).trans c2
      have HS := Lib.hid (filter_snoc (fun m : Mk => decide (m.o.toNat < q.toNat)) ms k hlt)
      have hl : ((ms.take k).filter fun m => decide (m.o.toNat < q.toNat)).length ≤ k := Nat.le_trans (List.length_filter_le _ _) (List.length_take_le _ _)
      generalize ms[k] = x at c0 c1 c2 HS
      generalize (ms.take k).filter (fun m => decide (m.o.toNat < q.toNat)) = pre at ho hl HS
      obtain ⟨A1, c1', rfl, hc1, hc2⟩ := ho.form
      by_cases hx : x.o.toNat < q.toNat
      · have HS2 : Hid ((ms.take (k + 1)).filter (fun m => decide (m.o.toNat < q.toNat)) = pre ++ [x]) := by
          show _ = _
          rw [HS.out]; simp [hx]
        have hnew := Marks.new wr 38 [x] #[.int .i64 x.p.toInt, .int .u64 (x.s.toNat : Int), .int .u64 (x.o.toNat : Int)] (0, 0) rfl
        have hrow := Mk.row_one [x]
        have ho2 := ho.alloc (.cells #[.int .i64 x.p.toInt, .int .u64 (x.s.toNat : Int), .int .u64 (x.o.toNat : Int)] 38)
        go_wp2_with (first
          | (at_builtin; refine app_list marks_ty rfl rfl ho2 rfl hnew rfl hrow (by simp; omega) (by have := hb.size; simp; omega) ?_; intro v1 w1 hown1 hg1 _))
        go_roundw
        case rel => exact ⟨k + 1, by omega, by go_num, (hb.alloc hb.size _).grown hg1 (by have := hb.size; simp; omega) (own_ge ho2), by rw [HS2.out]; exact OwnM.snoc (w := wr) hown1 rfl⟩
        case measure => simp [intOf]; omega
      · have HS2 : Hid ((ms.take (k + 1)).filter (fun m => decide (m.o.toNat < q.toNat)) = pre) := by
          show _ = _
          rw [HS.out]; simp [hx]
        go_wp2_with fail
        go_roundw
        case rel => exact ⟨k + 1, by omega, by go_num, hb, by rw [HS2.out]; exact ho⟩
        case measure => simp [intOf]; omega
    · obtain rfl : k = ms.length := by omega
      rw [List.take_length] at ho
      go_wp2_with fail
      go_ret
      exact ⟨⟨_, rfl, ho⟩, hb⟩

/-- May the row be? -/
def MayP (ms : List Mk) : Prop := ms.length ≤ 6 ∧ (∀ m ∈ ms, m.may = true) ∧ ms.Pairwise fun a b => a.p.toInt < b.p.toInt
instance (ms : List Mk) : Decidable (MayP ms) := by unfold MayP; exact inferInstance
def mayB (ms : List Mk) : Bool := decide (MayP ms)
/-- what the first k of them say. -/
def upTo (ms : List Mk) (k : Nat) : Prop := (∀ m ∈ ms.take k, m.may = true) ∧ (ms.take k).Pairwise fun a b => a.p.toInt < b.p.toInt
theorem upTo_succ {ms : List Mk} {k : Nat} (hk : k < ms.length) (h : upTo ms k) (hm : ms[k].may = true) (hp : ∀ (h0 : 0 < k), ms[k - 1].p.toInt < ms[k].p.toInt) : upTo ms (k + 1) := by
  unfold upTo at h ⊢
  rw [List.take_succ_eq_append_getElem hk]
  refine ⟨fun m h' => ?_, ?_⟩
  · rcases List.mem_append.1 h' with h' | h'
    · exact h.1 m h'
    · simp at h'; subst h'; exact hm
  · rw [List.pairwise_append]
    refine ⟨h.2, List.pairwise_singleton _ _, fun a ha b hb => ?_⟩
    simp at hb
    subst hb
    obtain ⟨i, hi, rfl⟩ := List.mem_take_iff_getElem.1 ha
    have h0 : 0 < k := by omega
    have h1 := hp h0
    by_cases e : i = k - 1
    · subst e; exact h1
    · have := (List.pairwise_iff_getElem.1 h.2) i (k - 1) (by rw [List.length_take]; omega) (by rw [List.length_take]; omega) (by omega)
      simp only [List.getElem_take] at this
      omega
theorem not_may {ms : List Mk} {k : Nat} (hk : k < ms.length) (h : ms[k].may = false) : ¬ MayP ms := fun h2 => by
  rw [h2.2.1 _ (List.getElem_mem hk)] at h; cases h
theorem not_rises {ms : List Mk} {k : Nat} (hk : k + 1 < ms.length) (h : ms[k + 1].p.toInt ≤ ms[k].p.toInt) : ¬ MayP ms := fun h2 => by
  have := (List.pairwise_iff_getElem.1 h2.2.2) k (k + 1) (by omega) hk (by omega)
  omega
set_option maxHeartbeats 800000 in
theorem refmay_any (A : Option Addr) (c : Nat) (ms : List Mk) (w : World) (hA : Marks w A ms) (hn : ms.length ≤ 1000000) :
    Calls Try.prog 25 #[.slice A ms.length c] w fun e w' => e = .returned (.bool (mayB ms)) ∧ Below w.heap.size w w' := by
  obtain ⟨r, hr⟩ : ∃ r, r = mayB ms := ⟨_, rfl⟩
  rw [← hr]
  have HR := Lib.hid hr
  clear hr
  go_enter Try.func25, Try.ntmps25
  go_wp2_with fail
  go_loopw [3] (fun i wr => ∃ k : Nat, k ≤ ms.length ∧ i = .int .i64 k ∧ Below w.heap.size w wr ∧ upTo ms k) (fun i _ => ms.length - (intOf i).toNat)
  case atStart => exact ⟨0, by omega, rfl, Below.refl _ _, by simp [upTo]⟩
  case round =>
    obtain ⟨k, hk, rfl, hb, hup⟩ := hrel
    have HUP := Lib.hid hup
    clear hup
    by_cases hlt : k < ms.length
    · obtain ⟨b, o, rfl, had, c0, c1, c2⟩ := hA.at_ hlt
      replace c0 := (hb.cell (p := ⟨b, o + k * 3, none⟩) had).trans c0
      replace c1 := (hb.cell (p := ⟨b, o + k * 3 + 1, none⟩) had).trans c1
      replace c2 := (hb.cell (p := ⟨b, o + k * 3 + 2, none⟩) had).trans c2
      have HNM := Lib.hid (not_may hlt)
      have HS := Lib.hid (upTo_succ hlt HUP.out)
      have hlt' : (k : Int) < (ms.length : Int) := by omega
      cases hm : ms[k].may with
      | false =>
        have HNO := Lib.hid (HNM.out hm)
        clear HNM HS
        generalize ms[k] = x at c0 c1 c2 hm
        have HM := Lib.hid hm
        clear hm
        go_wp2_with fail
        refine PF.pf_begin (by kernel_rfl) ?_
        refine PF.pf_take0 0 (by kernel_rfl) rfl (fun _ _ _ _ _ h => h) (by kernel_rfl) (fun u => by go_simp; try rfl) ?_
        try simp only [Act.put, pz0, pz1, pz2]
        refine PF.pf_take0 1 (by kernel_rfl) rfl (fun _ _ _ _ _ h => h) (by kernel_rfl) (fun u => by go_simp; try rfl) ?_
        try simp only [Act.put, pz0, pz1, pz2]
        refine PF.pf_take0 2 (by kernel_rfl) rfl (fun _ _ _ _ _ h => h) (by kernel_rfl) (fun u => by go_simp; try rfl) ?_
        try simp only [Act.put, pz0, pz1, pz2]
        refine PF.pf_take1 3 (PF.Same (b) _) (by kernel_rfl) rfl (fun _ _ _ _ _ h => h) (by kernel_rfl) (PF.Same.refl _ _) (fun u hu => by have hcu := hu.cell; go_simp; try rfl) ?_
        try simp only [Act.put, pz0, pz1, pz2]
        refine PF.pf_exec 4 (by kernel_rfl) rfl (by kernel_rfl) (fun K hK => ?_)
        go_simp
        refine (maymark_any x _).mono ?_; rintro e w1 ⟨rfl, hb1⟩; rw [HM.out]; have hbw : Below w.heap.size w w1 := below_call hb.drew hb.size hb1
        refine hK _ _ (by repeat (first | exact PF.owes_nil | refine PF.owes_left ?_ | refine PF.owes_no (by decide +kernel) ?_ | refine PF.owes_yes (by first | rfl | assumption | go_simp) ?_)) ?_
        clear hK K
        try simp only [Act.put, pz0, pz1, pz2]
        refine PF.pf_take0 5 (by kernel_rfl) rfl (fun _ _ _ _ _ h => h) (by kernel_rfl) (fun u => by go_simp; try rfl) ?_
        try simp only [Act.put, pz0, pz1, pz2]
        refine PF.pf_take0 6 (by kernel_rfl) rfl (fun _ _ _ _ _ h => h) (by kernel_rfl) (fun u => by go_simp; try rfl) ?_
        try simp only [Act.put, pz0, pz1, pz2]
        refine PF.pf_skip0 7 (by kernel_rfl) rfl (fun _ _ _ _ _ h => h) (by kernel_rfl) ?_
        try simp only [Act.put, pz0, pz1, pz2]
        refine PF.pf_skip0 8 (by kernel_rfl) rfl (fun _ _ _ _ _ h => h) (by kernel_rfl) ?_
        try simp only [Act.put, pz0, pz1, pz2]
        refine PF.pf_skip0 9 (by kernel_rfl) rfl (fun _ _ _ _ _ h => h) (by kernel_rfl) ?_
        try simp only [Act.put, pz0, pz1, pz2]
        refine PF.pf_skip0 10 (by kernel_rfl) rfl (fun _ _ _ _ _ h => h) (by kernel_rfl) ?_
        try simp only [Act.put, pz0, pz1, pz2]
        refine PF.pf_skip0 11 (by kernel_rfl) rfl (fun _ _ _ _ _ h => h) (by kernel_rfl) ?_
        try simp only [Act.put, pz0, pz1, pz2]
        refine PF.pf_skip0 12 (by kernel_rfl) rfl (fun _ _ _ _ _ h => h) (by kernel_rfl) ?_
        try simp only [Act.put, pz0, pz1, pz2]
        refine PF.pf_skip0 13 (by kernel_rfl) rfl (fun _ _ _ _ _ h => h) (by kernel_rfl) ?_
        try simp only [Act.put, pz0, pz1, pz2]
        refine PF.pf_skip0 14 (by kernel_rfl) rfl (fun _ _ _ _ _ h => h) (by kernel_rfl) ?_
        try simp only [Act.put, pz0, pz1, pz2]
        refine PF.pf_skip0 15 (by kernel_rfl) rfl (fun _ _ _ _ _ h => h) (by kernel_rfl) ?_
        try simp only [Act.put, pz0, pz1, pz2]
        refine PF.pf_skip0 16 (by kernel_rfl) rfl (fun _ _ _ _ _ h => h) (by kernel_rfl) ?_
        try simp only [Act.put, pz0, pz1, pz2]
        refine PF.pf_skip0 17 (by kernel_rfl) rfl (fun _ _ _ _ _ h => h) (by kernel_rfl) ?_
        try simp only [Act.put, pz0, pz1, pz2]
        refine PF.pf_skip0 18 (by kernel_rfl) rfl (fun _ _ _ _ _ h => h) (by kernel_rfl) ?_
        try simp only [Act.put, pz0, pz1, pz2]
        refine PF.pf_skip0 19 (by kernel_rfl) rfl (fun _ _ _ _ _ h => h) (by kernel_rfl) ?_
        try simp only [Act.put, pz0, pz1, pz2]
        refine PF.pf_skip0 20 (by kernel_rfl) rfl (fun _ _ _ _ _ h => h) (by kernel_rfl) ?_
        try simp only [Act.put, pz0, pz1, pz2]
        refine PF.pf_skip0 21 (by kernel_rfl) rfl (fun _ _ _ _ _ h => h) (by kernel_rfl) ?_
        try simp only [Act.put, pz0, pz1, pz2]
        refine PF.pf_skip0 22 (by kernel_rfl) rfl (fun _ _ _ _ _ h => h) (by kernel_rfl) ?_
        try simp only [Act.put, pz0, pz1, pz2]
        refine PF.pf_take0 23 (by kernel_rfl) rfl (fun _ _ _ _ _ h => h) (by kernel_rfl) (fun u => by go_simp; try rfl) ?_
        try simp only [Act.put, pz0, pz1, pz2]
        refine PF.pf_done (by kernel_rfl) ?_
        go_wp2_with fail
        go_ret
        exact ⟨by rw [HR.out, mayB, decide_eq_false HNO.out]; rfl, hbw⟩
      | true =>
        rcases Nat.eq_zero_or_pos k with rfl | h0
        · have HU := Lib.hid (HS.out hm fun h => absurd h (by omega))
          clear HNM HS
          generalize ms[0] = x at c0 c1 c2 hm
          have HM := Lib.hid hm
          clear hm
          simp only [Nat.zero_mul, Nat.add_zero] at c0 c1 c2
          go_wp2_with fail
          refine PF.pf_begin (by kernel_rfl) ?_
          refine PF.pf_take0 0 (by kernel_rfl) rfl (fun _ _ _ _ _ h => h) (by kernel_rfl) (fun u => by go_simp; try rfl) ?_
          try simp only [Act.put, pz0, pz1, pz2]
          refine PF.pf_take0 1 (by kernel_rfl) rfl (fun _ _ _ _ _ h => h) (by kernel_rfl) (fun u => by go_simp; try rfl) ?_
          try simp only [Act.put, pz0, pz1, pz2]
          refine PF.pf_take0 2 (by kernel_rfl) rfl (fun _ _ _ _ _ h => h) (by kernel_rfl) (fun u => by go_simp; try rfl) ?_
          try simp only [Act.put, pz0, pz1, pz2]
          refine PF.pf_take1 3 (PF.Same (b) _) (by kernel_rfl) rfl (fun _ _ _ _ _ h => h) (by kernel_rfl) (PF.Same.refl _ _) (fun u hu => by have hcu := hu.cell; go_simp; try rfl) ?_
          try simp only [Act.put, pz0, pz1, pz2]
          refine PF.pf_exec 4 (by kernel_rfl) rfl (by kernel_rfl) (fun K hK => ?_)
          go_simp
          refine (maymark_any x _).mono ?_; rintro e w1 ⟨rfl, hb1⟩; rw [HM.out]; have hbw : Below w.heap.size w w1 := below_call hb.drew hb.size hb1
          refine hK _ _ (by repeat (first | exact PF.owes_nil | refine PF.owes_left ?_ | refine PF.owes_no (by decide +kernel) ?_ | refine PF.owes_yes (by first | rfl | assumption | go_simp) ?_)) ?_
          clear hK K
          try simp only [Act.put, pz0, pz1, pz2]
          refine PF.pf_take0 5 (by kernel_rfl) rfl (fun _ _ _ _ _ h => h) (by kernel_rfl) (fun u => by go_simp; try rfl) ?_
          try simp only [Act.put, pz0, pz1, pz2]
          refine PF.pf_take0 6 (by kernel_rfl) rfl (fun _ _ _ _ _ h => h) (by kernel_rfl) (fun u => by go_simp; try rfl) ?_
          try simp only [Act.put, pz0, pz1, pz2]
          refine PF.pf_take0 7 (by kernel_rfl) rfl (fun _ _ _ _ _ h => h) (by kernel_rfl) (fun u => by go_simp; try rfl) ?_
          try simp only [Act.put, pz0, pz1, pz2]
          refine PF.pf_take0 8 (by kernel_rfl) rfl (fun _ _ _ _ _ h => h) (by kernel_rfl) (fun u => by go_simp; try rfl) ?_
          try simp only [Act.put, pz0, pz1, pz2]
          refine PF.pf_take0 9 (by kernel_rfl) rfl (fun _ _ _ _ _ h => h) (by kernel_rfl) (fun u => by go_simp; try rfl) ?_
          try simp only [Act.put, pz0, pz1, pz2]
          refine PF.pf_skip0 10 (by kernel_rfl) rfl (fun _ _ _ _ _ h => h) (by kernel_rfl) ?_
          try simp only [Act.put, pz0, pz1, pz2]
          refine PF.pf_skip0 11 (by kernel_rfl) rfl (fun _ _ _ _ _ h => h) (by kernel_rfl) ?_
          try simp only [Act.put, pz0, pz1, pz2]
          refine PF.pf_skip0 12 (by kernel_rfl) rfl (fun _ _ _ _ _ h => h) (by kernel_rfl) ?_
          try simp only [Act.put, pz0, pz1, pz2]
          refine PF.pf_skip0 13 (by kernel_rfl) rfl (fun _ _ _ _ _ h => h) (by kernel_rfl) ?_
          try simp only [Act.put, pz0, pz1, pz2]
          refine PF.pf_skip0 14 (by kernel_rfl) rfl (fun _ _ _ _ _ h => h) (by kernel_rfl) ?_
          try simp only [Act.put, pz0, pz1, pz2]
          refine PF.pf_skip0 15 (by kernel_rfl) rfl (fun _ _ _ _ _ h => h) (by kernel_rfl) ?_
          try simp only [Act.put, pz0, pz1, pz2]
          refine PF.pf_skip0 16 (by kernel_rfl) rfl (fun _ _ _ _ _ h => h) (by kernel_rfl) ?_
          try simp only [Act.put, pz0, pz1, pz2]
          refine PF.pf_skip0 17 (by kernel_rfl) rfl (fun _ _ _ _ _ h => h) (by kernel_rfl) ?_
          try simp only [Act.put, pz0, pz1, pz2]
          refine PF.pf_skip0 18 (by kernel_rfl) rfl (fun _ _ _ _ _ h => h) (by kernel_rfl) ?_
          try simp only [Act.put, pz0, pz1, pz2]
          refine PF.pf_skip0 19 (by kernel_rfl) rfl (fun _ _ _ _ _ h => h) (by kernel_rfl) ?_
          try simp only [Act.put, pz0, pz1, pz2]
          refine PF.pf_skip0 20 (by kernel_rfl) rfl (fun _ _ _ _ _ h => h) (by kernel_rfl) ?_
          try simp only [Act.put, pz0, pz1, pz2]
          refine PF.pf_skip0 21 (by kernel_rfl) rfl (fun _ _ _ _ _ h => h) (by kernel_rfl) ?_
          try simp only [Act.put, pz0, pz1, pz2]
          refine PF.pf_take0 22 (by kernel_rfl) rfl (fun _ _ _ _ _ h => h) (by kernel_rfl) (fun u => by go_simp; try rfl) ?_
          try simp only [Act.put, pz0, pz1, pz2]
          refine PF.pf_take0 23 (by kernel_rfl) rfl (fun _ _ _ _ _ h => h) (by kernel_rfl) (fun u => by go_simp; try rfl) ?_
          try simp only [Act.put, pz0, pz1, pz2]
          refine PF.pf_done (by kernel_rfl) ?_
          go_wp2_with fail
          go_roundw
          case rel => exact ⟨1, by omega, by go_num, hbw, HU.out⟩
          case measure => simp [intOf]; try omega
        · obtain ⟨j, rfl⟩ : ∃ j, k = j + 1 := ⟨k - 1, by omega⟩
          have hj : j < ms.length := by omega
          obtain ⟨b', o', e, _, d0, d1, d2⟩ := hA.at_ hj
          injection e with e
          injection e with e1 e2
          subst e1 e2
          replace d0 := (hb.cell (p := ⟨b, o + j * 3, none⟩) had).trans d0
          have HU : Hid (ms[j].p.toInt < ms[j + 1].p.toInt → upTo ms (j + 1 + 1)) := fun h => HS.out hm fun _ => h
          have HN := Lib.hid (not_rises hlt)
          clear HNM HS
          generalize ms[j + 1] = x at c0 c1 c2 hm HU HN
          generalize ms[j] = y at d0 d1 d2 HU HN
          have HM := Lib.hid hm
          clear hm d1 d2
          have hs1 : IntKind.i64.wrap (j : Int) = (j : Int) := IntWalk.i64_in _ (by omega)
          have hs2 : ((j : Int) + 1).toNat = j + 1 := by omega
          have hs3 : 0 ≤ (j : Int) + 1 := by omega
          have hs4 : (j : Int) + 1 < (ms.length : Int) := by omega
          have hs5 : (j : Int) < (ms.length : Int) := by omega
          have hs6 : (0 : Int) < (j : Int) + 1 := by omega
          go_wp2_with fail
          refine PF.pf_begin (by kernel_rfl) ?_
          refine PF.pf_take0 0 (by kernel_rfl) rfl (fun _ _ _ _ _ h => h) (by kernel_rfl) (fun u => by go_simp; try rfl) ?_
          try simp only [Act.put, pz0, pz1, pz2]
          refine PF.pf_take0 1 (by kernel_rfl) rfl (fun _ _ _ _ _ h => h) (by kernel_rfl) (fun u => by go_simp; try rfl) ?_
          try simp only [Act.put, pz0, pz1, pz2]
          refine PF.pf_take0 2 (by kernel_rfl) rfl (fun _ _ _ _ _ h => h) (by kernel_rfl) (fun u => by go_simp; try rfl) ?_
          try simp only [Act.put, pz0, pz1, pz2]
          refine PF.pf_take1 3 (PF.Same (b) _) (by kernel_rfl) rfl (fun _ _ _ _ _ h => h) (by kernel_rfl) (PF.Same.refl _ _) (fun u hu => by have hcu := hu.cell; go_simp; try rfl) ?_
          try simp only [Act.put, pz0, pz1, pz2]
          refine PF.pf_exec 4 (by kernel_rfl) rfl (by kernel_rfl) (fun K hK => ?_)
          go_simp
          refine (maymark_any x _).mono ?_; rintro e w1 ⟨rfl, hb1⟩; rw [HM.out]; have hbw : Below w.heap.size w w1 := below_call hb.drew hb.size hb1; replace c0 := (hb1.cell (p := ⟨b, o + (j + 1) * 3, none⟩) (by have := hb.size; show b < wr.heap.size; omega)).trans c0; replace d0 := (hb1.cell (p := ⟨b, o + j * 3, none⟩) (by have := hb.size; show b < wr.heap.size; omega)).trans d0
          refine hK _ _ (by repeat (first | exact PF.owes_nil | refine PF.owes_left ?_ | refine PF.owes_no (by decide +kernel) ?_ | refine PF.owes_yes (by first | rfl | assumption | go_simp) ?_)) ?_
          clear hK K
          try simp only [Act.put, pz0, pz1, pz2]
          refine PF.pf_take0 5 (by kernel_rfl) rfl (fun _ _ _ _ _ h => h) (by kernel_rfl) (fun u => by go_simp; try rfl) ?_
          try simp only [Act.put, pz0, pz1, pz2]
          refine PF.pf_take0 6 (by kernel_rfl) rfl (fun _ _ _ _ _ h => h) (by kernel_rfl) (fun u => by go_simp; try rfl) ?_
          try simp only [Act.put, pz0, pz1, pz2]
          refine PF.pf_take0 7 (by kernel_rfl) rfl (fun _ _ _ _ _ h => h) (by kernel_rfl) (fun u => by go_simp; try rfl) ?_
          try simp only [Act.put, pz0, pz1, pz2]
          refine PF.pf_take0 8 (by kernel_rfl) rfl (fun _ _ _ _ _ h => h) (by kernel_rfl) (fun u => by go_simp; try rfl) ?_
          try simp only [Act.put, pz0, pz1, pz2]
          refine PF.pf_take0 9 (by kernel_rfl) rfl (fun _ _ _ _ _ h => h) (by kernel_rfl) (fun u => by go_simp; try rfl) ?_
          try simp only [Act.put, pz0, pz1, pz2]
          refine PF.pf_take0 10 (by kernel_rfl) rfl (fun _ _ _ _ _ h => h) (by kernel_rfl) (fun u => by go_simp; try rfl) ?_
          try simp only [Act.put, pz0, pz1, pz2]
          refine PF.pf_take0 11 (by kernel_rfl) rfl (fun _ _ _ _ _ h => h) (by kernel_rfl) (fun u => by go_simp; try rfl) ?_
          try simp only [Act.put, pz0, pz1, pz2]
          refine PF.pf_take0 12 (by kernel_rfl) rfl (fun _ _ _ _ _ h => h) (by kernel_rfl) (fun u => by go_simp; try rfl) ?_
          try simp only [Act.put, pz0, pz1, pz2]
          refine PF.pf_take0 13 (by kernel_rfl) rfl (fun _ _ _ _ _ h => h) (by kernel_rfl) (fun u => by go_simp; try rfl) ?_
          try simp only [Act.put, pz0, pz1, pz2]
          refine PF.pf_take0 14 (by kernel_rfl) rfl (fun _ _ _ _ _ h => h) (by kernel_rfl) (fun u => by go_simp; try rfl) ?_
          try simp only [Act.put, pz0, pz1, pz2]
          refine PF.pf_take1 15 (PF.Same (b) _) (by kernel_rfl) rfl (fun _ _ _ _ _ h => h) (by kernel_rfl) (PF.Same.refl _ _) (fun u hu => by have hcu := hu.cell; go_simp; try rfl) ?_
          try simp only [Act.put, pz0, pz1, pz2]
          refine PF.pf_take0 16 (by kernel_rfl) rfl (fun _ _ _ _ _ h => h) (by kernel_rfl) (fun u => by go_simp; try rfl) ?_
          try simp only [Act.put, pz0, pz1, pz2]
          refine PF.pf_take0 17 (by kernel_rfl) rfl (fun _ _ _ _ _ h => h) (by kernel_rfl) (fun u => by go_simp; try rfl) ?_
          try simp only [Act.put, pz0, pz1, pz2]
          refine PF.pf_take0 18 (by kernel_rfl) rfl (fun _ _ _ _ _ h => h) (by kernel_rfl) (fun u => by go_simp; try rfl) ?_
          try simp only [Act.put, pz0, pz1, pz2]
          refine PF.pf_take0 19 (by kernel_rfl) rfl (fun _ _ _ _ _ h => h) (by kernel_rfl) (fun u => by go_simp; try rfl) ?_
          try simp only [Act.put, pz0, pz1, pz2]
          refine PF.pf_take1 20 (PF.Same (b) _) (by kernel_rfl) rfl (fun _ _ _ _ _ h => h) (by kernel_rfl) (PF.Same.refl _ _) (fun u hu => by have hcu := hu.cell; go_simp; try rfl) ?_
          try simp only [Act.put, pz0, pz1, pz2]
          refine PF.pf_take0 21 (by kernel_rfl) rfl (fun _ _ _ _ _ h => h) (by kernel_rfl) (fun u => by go_simp; try rfl) ?_
          try simp only [Act.put, pz0, pz1, pz2]
          refine PF.pf_take0 22 (by kernel_rfl) rfl (fun _ _ _ _ _ h => h) (by kernel_rfl) (fun u => by go_simp; try rfl) ?_
          try simp only [Act.put, pz0, pz1, pz2]
          refine PF.pf_take0 23 (by kernel_rfl) rfl (fun _ _ _ _ _ h => h) (by kernel_rfl) (fun u => by go_simp; try rfl) ?_
          try simp only [Act.put, pz0, pz1, pz2]
          refine PF.pf_done (by kernel_rfl) ?_
          by_cases hx : y.p.toInt < x.p.toInt
          · have HV := Lib.hid (HU.out hx)
            clear HU HN
            go_wp2_with fail
            go_roundw
            case rel => exact ⟨j + 1 + 1, by omega, by go_num, hbw, HV.out⟩
            case measure => simp [intOf]; try omega
          · have HV := Lib.hid (HN.out (by omega))
            clear HU HN
            go_wp2_with fail
            go_ret
            exact ⟨by rw [HR.out, mayB, decide_eq_false HV.out]; rfl, hbw⟩
    · obtain rfl : k = ms.length := by omega
      go_wp2_with fail
      go_ret
      refine ⟨ret_bool ?_, hb⟩
      have := HUP.out
      unfold upTo at this
      rw [List.take_length] at this
      rw [HR.out, mayB, Bool.eq_iff_iff, decide_eq_true_iff, decide_eq_true_iff]
      unfold MayP
      constructor
      · exact fun h => ⟨by omega, this⟩
      · exact fun h => by have := h.1; omega
end Go.Proofs.Ytgdbknbpnlpdnaa
