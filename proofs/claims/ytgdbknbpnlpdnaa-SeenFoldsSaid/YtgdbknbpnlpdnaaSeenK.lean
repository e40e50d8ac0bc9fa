/- seen.May, seen.Cut, seen.at, both Asks. -/
import Derived.Test.YtgdbknbpnlpdnaaSeenF
import Derived.Test.YtgdbknbpnlpdnaaSeenH
import Derived.Test.YtgdbknbpnlpdnaaSeenJ
namespace Go.Proofs.Ytgdbknbpnlpdnaa
set_option linter.unusedVariables false
set_option linter.unusedSimpArgs false
open Go.RowKit

theorem findI_neg {α : Type} (p : α → Bool) (l : List α) : findI p l < 0 ↔ ∀ x ∈ l, p x = false := by
  unfold findI
  split
  · rename_i i h
    obtain ⟨hi, h1, _⟩ := List.findIdx?_eq_some_iff_getElem.1 h
    constructor
    · intro h; omega
    · intro h
      rw [h _ (List.getElem_mem hi)] at h1
      cases h1
  · rename_i h
    rw [List.findIdx?_eq_none_iff] at h
    simp only [Int.reduceNeg, Int.reduceLT, true_iff]
    exact h
theorem mayP_iff (ms : List Mk) : MayP ms ↔ (ms.length ≤ 6 ∧ findI (fun m => !m.may) ms < 0 ∧ upP ms ∧ apartP ms) := by
  rw [findI_neg]
  constructor
  · rintro ⟨h1, h2, h3⟩
    have adj : ∀ i (h : i + 1 < ms.length), ms[i].p.toInt < ms[i + 1].p.toInt := fun i h => (List.pairwise_iff_getElem.1 h3) i (i + 1) (by omega) h (by omega)
    refine ⟨h1, fun x hx => by simp [h2 x hx], fun i h => ?_, fun i h => ?_⟩
    · have a := adj i h
      have m1 := h2 _ (List.getElem_mem h)
      have m2 := h2 _ (List.getElem_mem (show i < ms.length by omega))
      unfold Mk.may at m1 m2
      simp only [decide_eq_true_eq] at m1 m2
      rw [show wrap64 (ms[i + 1].p.toInt - ms[i].p.toInt) = ms[i + 1].p.toInt - ms[i].p.toInt from by unfold wrap64; omega]
      omega
    · have a := adj i h
      rw [beq_eq_false_iff_ne]
      omega
  · rintro ⟨h1, h2, h3, h4⟩
    have hm : ∀ m ∈ ms, m.may = true := fun m hm => by have := h2 m hm; simpa using this
    have : ∀ k, k ≤ ms.length → upTo ms k := by
      intro k
      induction k with
      | zero => intro _; simp [upTo]
      | succ k ih =>
        intro hk
        refine upTo_succ (by omega) (ih (by omega)) (hm _ (List.getElem_mem _)) fun h0 => ?_
        obtain ⟨j, rfl⟩ : ∃ j, k = j + 1 := ⟨k - 1, by omega⟩
        have a := h3 j (by omega)
        have b := h4 j (by omega)
        have m1 := hm _ (List.getElem_mem (show j + 1 < ms.length by omega))
        have m2 := hm _ (List.getElem_mem (show j < ms.length by omega))
        unfold Mk.may at m1 m2
        simp only [decide_eq_true_eq] at m1 m2
        rw [show wrap64 (ms[j + 1].p.toInt - ms[j].p.toInt) = ms[j + 1].p.toInt - ms[j].p.toInt from by unfold wrap64; omega] at a
        rw [beq_eq_false_iff_ne] at b
        show ms[j].p.toInt < ms[j + 1].p.toInt
        omega
    have h5 := this ms.length (Nat.le_refl _)
    unfold upTo at h5
    rw [List.take_length] at h5
    exact ⟨h1, h5⟩

set_option maxHeartbeats 800000 in
theorem seenmay_any (A : Option Addr) (c : Nat) (ms : List Mk) (w : World) (hA : Marks w A ms) (hn : ms.length ≤ 5864062014634) :
    Calls Try.prog 14 #[.slice A ms.length c] w fun e w' => e = .returned (.bool (mayB ms)) ∧ Below w.heap.size w w' := by
  obtain ⟨r, hr⟩ : ∃ r, r = mayB ms := ⟨_, rfl⟩
  rw [← hr]
  have HR : Hid (r = true ↔ (ms.length ≤ 6 ∧ findI (fun m => !m.may) ms < 0 ∧ upP ms ∧ apartP ms)) := by
    show _ ↔ _
    rw [hr, mayB, decide_eq_true_iff]; exact mayP_iff ms
  clear hr
  have eg : ∀ args w, (callFunc 43 args).run Try.prog w = .ok (.enter 43 args) w := enters_of Try.func43 (by kernel_rfl) rfl
  go_enter Try.func14, Try.ntmps14
  go_wp2_with fail
  refine (issorted_any A c ms w hA hn).mono ?_
  rintro e w1 ⟨⟨b1, rfl, hs⟩, hb1⟩
  have hA1 := hA.below hb1
  go_wp2_with fail
  refine (clone_any A c ms w1 hA1 hn).mono ?_
  rintro e w2 ⟨⟨v, rfl, hown⟩, hb2⟩
  obtain ⟨A2, c2, rfl, _, _⟩ := hown.form
  have hw2 := below_call hb1 hb1.size hb2
  have HS := Lib.hid hs
  clear hs
  go_wp2_with fail
  refine (compact_any A2 ms.length c2 w1.heap.size ms rfl w2 hown hn hb2.size).mono ?_
  rintro e w3 ⟨⟨A3, n3, c3, rfl, hle, hap⟩, hb3⟩
  have hw3 : Below w.heap.size w w3 := hw2.trans (hb3.mono hb1.size)
  have hA3 := hA.below hw3
  have hfirst := firstM A c ms (fun m => !m.may) 43 #[] eg w3 hA3 (by omega) (mayno_pred w3)
  have HF := Lib.hid hfirst
  have HAP := Lib.hid hap
  clear hfirst hap hb2 hb3 hown hA hA1 hA3 hw2
  generalize findI (fun m => !m.may) ms = f at HR HF
  by_cases h6 : ms.length ≤ 6
  · by_cases hf : f < 0
    · have HF2 := Lib.hid hf
      go_wp2_with fail
      refine HF.out.mono ?_
      rintro e w4 ⟨rfl, hb4⟩
      clear HF
      go_wp2_with fail
      all_goals
        go_ret
        refine ⟨ret_bool ?_, below_call hw3 hw3.size hb4⟩
        rw [Bool.eq_iff_iff, HR.out, ← HS.out, ← HAP.out]
        have := HF2.out
        clear HR HF2
        simp_all <;> omega
    · have HF2 := Lib.hid hf
      go_wp2_with fail
      refine HF.out.mono ?_
      rintro e w4 ⟨rfl, hb4⟩
      clear HF
      go_wp2_with fail
      all_goals
        go_ret
        refine ⟨ret_bool ?_, below_call hw3 hw3.size hb4⟩
        rw [Bool.eq_iff_iff, HR.out]
        exact ⟨fun h => (by simp at h), fun h => by have h1 := h.2.1; have h2 := HF2.out; omega⟩
  · go_wp2_with fail
    go_ret
    refine ⟨ret_bool ?_, hw3⟩
    rw [Bool.eq_iff_iff, HR.out]
    exact ⟨fun h => (by cases h), fun h => absurd h.1 h6⟩

theorem at_any (A : Option Addr) (c : Nat) (ms : List Mk) (q : Int64) (w : World) (hA : Marks w A ms) (hn : ms.length ≤ 1000000) :
    Calls Try.prog 59 #[.slice A ms.length c, .int .i64 q.toInt] w fun e w' => e = .returned (.int .i64 (findI (fun m => m.p.toInt == q.toInt) ms)) ∧ Below w.heap.size w w' := by
  have eg : ∀ args w, (callFunc 67 args).run Try.prog w = .ok (.enter 67 args) w := enters_of Try.func67 (by kernel_rfl) rfl
  have hfirst := firstM A c ms (fun m => m.p.toInt == q.toInt) 67 #[.pointer (some ⟨w.heap.size, 0, none⟩)] eg (w.alloc (.cells #[.int .i64 q.toInt] 3)) (hA.below (below_new _ _)) (by omega) (at_pred q w.heap.size _ (by simp) (by simp))
  generalize findI (fun m => m.p.toInt == q.toInt) ms = f at hfirst ⊢
  have HF := Lib.hid hfirst
  clear hfirst hA
  go_enter Try.func59, Try.ntmps59
  go_wp2_with fail
  refine HF.out.mono ?_
  rintro e w1 ⟨rfl, hb1⟩
  go_wp2_with fail
  go_ret
  exact ⟨rfl, below_call (below_new _ _) (by simp) hb1⟩

theorem cut_any (A : Option Addr) (c : Nat) (ms : List Mk) (q : UInt64) (w : World) (hA : Marks w A ms) (hn : ms.length ≤ 1000000) :
    Calls Try.prog 27 #[.slice A ms.length c, .int .u64 (q.toNat : Int)] w fun e w' => ClonePost w.heap.size (ms.filter fun m => decide (m.o.toNat < q.toNat)) e w' ∧ Below w.heap.size w w' := by
  have eg : ∀ args w, (callFunc 51 args).run Try.prog w = .ok (.enter 51 args) w := enters_of Try.func51 (by kernel_rfl) rfl
  have hclone := clone_any A c ms (w.alloc (.cells #[.int .u64 (q.toNat : Int)] 27)) (hA.below (below_new _ _)) (by omega)
  have HC := Lib.hid hclone
  clear hclone hA
  go_enter Try.func27, Try.ntmps27
  go_wp2_with fail
  refine HC.out.mono ?_
  rintro e w1 ⟨⟨v, rfl, hown⟩, hb1⟩
  obtain ⟨A1, c1, rfl, _, _⟩ := hown.form
  have hbk := (Blk.new w 27 #[.int .u64 (q.toNat : Int)]).below hb1 (by simp)
  have hw1 : Below w.heap.size w w1 := below_call (below_new _ _) (by simp) hb1
  have hs1 : w.heap.size + 1 ≤ w1.heap.size := hbk.lt
  have hpk : PredK 51 #[.pointer (some ⟨w.heap.size, 0, none⟩)] (fun m => decide (q.toNat ≤ m.o.toNat)) (A1.map (·.block)) (fun W => Blk W w.heap.size 27 #[.int .u64 (q.toNat : Int)]) := by
    refine ⟨fun W x hK => cut_pred q w.heap.size W hK.lt (hK.cell 0) W x (Below.refl _ _), fun W W' hK h => hK.below h hK.lt, fun W W' hK h => hK.grown h fun e => ?_⟩
    have h0 := own_ge hown w.heap.size
    rcases A1 with _ | ad
    · simp at e
    · simp at e
      have := h0 (by simp [Value.ownBlock, e])
      simp at this
      omega
  have hdel := delete_any A1 ms.length c1 (w.heap.size + 1) ms rfl (fun m => decide (q.toNat ≤ m.o.toNat)) 51 #[.pointer (some ⟨w.heap.size, 0, none⟩)] eg _ w1 (by simpa using hown) hpk hbk hn hs1
  have HD := Lib.hid hdel
  have hge := own_ge hown
  clear hdel HC hpk eg
  go_wp2_with fail
  refine HD.out.mono ?_
  rintro e w2 ⟨⟨v2, rfl, hown2⟩, hg2⟩
  go_wp2_with fail
  go_ret
  have hf : (ms.filter fun x => !decide (q.toNat ≤ x.o.toNat)) = ms.filter fun m => decide (m.o.toNat < q.toNat) := by
    congr 1
    funext x
    rw [Bool.eq_iff_iff]
    simp
  rw [hf] at hown2
  refine ⟨⟨_, rfl, hown2.less (by omega)⟩, hw1.grown hg2 hw1.size fun k hk => ?_⟩
  rcases A1 with _ | ad
  · simp at hk
  · simp at hk
    have := hge k (by simp [Value.ownBlock, hk])
    simp at this
    omega

/-- What is said of a message. -/
def askOf (o : Option Mk) (n : Nat) (s : UInt64) : Int × UInt64 :=
  match o with
  | some m => if m.s = s then (1, m.o) else if s.toNat < m.s.toNat then (2, 0) else (0, 0)
  | none => if 6 ≤ n then (3, 0) else (0, 0)
def askV (r : Int × UInt64) : Value := .tuple #[.int .i64 r.1, .int .u64 (r.2.toNat : Int)]
theorem lastV_some' (l : Mk) : lastV (some l) = .tuple #[.agg #[.int .i64 l.p.toInt, .int .u64 (l.s.toNat : Int), .int .u64 (l.o.toNat : Int)], .bool true] := rfl
theorem lastV_none' : lastV none = .tuple #[.agg #[.int .i64 0, .int .u64 0, .int .u64 0], .bool false] := rfl
set_option maxHeartbeats 400000 in
theorem ask_any (A : Option Addr) (c : Nat) (ms : List Mk) (q : Int64) (s : UInt64) (w : World) (hA : Marks w A ms) (hn : ms.length ≤ 1000000) :
    Calls Try.prog 12 #[.slice A ms.length c, .int .i64 q.toInt, .int .u64 (s.toNat : Int)] w fun e w' => e = .returned (askV (askOf (lastM ms q) ms.length s)) ∧ Below w.heap.size w w' := by
  have hlast := last_any A c ms q w hA hn
  have HL := Lib.hid hlast
  clear hlast hA
  generalize lastM ms q = o at HL ⊢
  obtain ⟨r, hr⟩ : ∃ r, r = askOf o ms.length s := ⟨_, rfl⟩
  rw [← hr]
  cases o with
  | some m =>
    rw [lastV_some'] at HL
    by_cases h1 : m.s = s
    · have HR : Hid (r = (1, m.o)) := by
        show _ = _
        rw [hr, askOf, if_pos h1]
      have hd : ((m.s.toNat : Int) == (s.toNat : Int)) = true := by simp [h1]
      clear hr h1
      go_enter Try.func12, Try.ntmps12
      go_wp2_with fail
      refine HL.out.mono ?_
      rintro e w1 ⟨rfl, hb1⟩
      go_wp2_with fail
      refine PF.pf_begin (by kernel_rfl) ?_
      refine PF.pf_take0 0 (by kernel_rfl) rfl (fun _ _ _ _ _ h => h) (by kernel_rfl) (fun u => by go_simp; try rfl) ?_
      try simp only [Act.put, pz0, pz1, pz2]
      refine PF.pf_take1 1 (PF.Same (w1.heap.size) _) (by kernel_rfl) rfl (fun _ _ _ _ _ h => h) (by kernel_rfl) (PF.Same.refl _ _) (fun u hu => by have hcu := hu.cell; go_simp; try rfl) ?_
      try simp only [Act.put, pz0, pz1, pz2]
      refine PF.pf_take0 2 (by kernel_rfl) rfl (fun _ _ _ _ _ h => h) (by kernel_rfl) (fun u => by go_simp; try rfl) ?_
      try simp only [Act.put, pz0, pz1, pz2]
      refine PF.pf_take0 3 (by kernel_rfl) rfl (fun _ _ _ _ _ h => h) (by kernel_rfl) (fun u => by go_simp; try rfl) ?_
      try simp only [Act.put, pz0, pz1, pz2]
      refine PF.pf_done (by kernel_rfl) ?_
      go_wp2_with fail
      go_ret2
      rw [HR.out]
      exact ⟨rfl, (hb1.alloc hb1.size _).drew⟩
    · have hne : m.s.toNat ≠ s.toNat := fun h => h1 (UInt64.toNat_inj.1 h)
      have hd : ((m.s.toNat : Int) == (s.toNat : Int)) = false := by rw [beq_eq_false_iff_ne]; omega
      by_cases h2 : s.toNat < m.s.toNat
      · have HR : Hid (r = (2, 0)) := by
          show _ = _
          rw [hr, askOf, if_neg h1, if_pos h2]
        clear hr h1 hne
        go_enter Try.func12, Try.ntmps12
        go_wp2_with fail
        refine HL.out.mono ?_
        rintro e w1 ⟨rfl, hb1⟩
        go_wp2_with fail
        go_ret2
        rw [HR.out]
        exact ⟨rfl, hb1.alloc hb1.size _⟩
      · have HR : Hid (r = (0, 0)) := by
          show _ = _
          rw [hr, askOf, if_neg h1, if_neg h2]
        clear hr h1 hne
        go_enter Try.func12, Try.ntmps12
        go_wp2_with fail
        refine HL.out.mono ?_
        rintro e w1 ⟨rfl, hb1⟩
        go_wp2_with fail
        go_ret2
        rw [HR.out]
        exact ⟨rfl, hb1.alloc hb1.size _⟩
  | none =>
    rw [lastV_none'] at HL
    by_cases h2 : 6 ≤ ms.length
    · have HR : Hid (r = (3, 0)) := by
        show _ = _
        rw [hr, askOf, if_pos h2]
      clear hr
      go_enter Try.func12, Try.ntmps12
      go_wp2_with fail
      refine HL.out.mono ?_
      rintro e w1 ⟨rfl, hb1⟩
      go_wp2_with fail
      go_ret2
      rw [HR.out]
      exact ⟨rfl, hb1.alloc hb1.size _⟩
    · have HR : Hid (r = (0, 0)) := by
        show _ = _
        rw [hr, askOf, if_neg h2]
      clear hr
      go_enter Try.func12, Try.ntmps12
      go_wp2_with fail
      refine HL.out.mono ?_
      rintro e w1 ⟨rfl, hb1⟩
      go_wp2_with fail
      go_ret2
      rw [HR.out]
      exact ⟨rfl, hb1.alloc hb1.size _⟩

set_option maxHeartbeats 400000 in
theorem refask_any (A : Option Addr) (c : Nat) (ms : List Mk) (q : Int64) (s : UInt64) (w : World) (hA : Marks w A ms) (hn : ms.length ≤ 1000000) :
    Calls Try.prog 24 #[.slice A ms.length c, .int .i64 q.toInt, .int .u64 (s.toNat : Int)] w fun e w' => e = .returned (askV (askOf (lastM ms q) ms.length s)) ∧ Below w.heap.size w w' := by
  have hlast := reflast_any A c ms q w hA hn
  have HL := Lib.hid hlast
  clear hlast hA
  generalize lastM ms q = o at HL ⊢
  obtain ⟨r, hr⟩ : ∃ r, r = askOf o ms.length s := ⟨_, rfl⟩
  rw [← hr]
  cases o with
  | some m =>
    rw [lastV_some'] at HL
    by_cases h1 : m.s = s
    · have HR : Hid (r = (1, m.o)) := by
        show _ = _
        rw [hr, askOf, if_pos h1]
      have hd : ((m.s.toNat : Int) == (s.toNat : Int)) = true := by simp [h1]
      clear hr h1
      go_enter Try.func24, Try.ntmps24
      go_wp2_with fail
      refine HL.out.mono ?_
      rintro e w1 ⟨rfl, hb1⟩
      go_wp2_with fail
      refine PF.pf_begin (by kernel_rfl) ?_
      refine PF.pf_take0 0 (by kernel_rfl) rfl (fun _ _ _ _ _ h => h) (by kernel_rfl) (fun u => by go_simp; try rfl) ?_
      try simp only [Act.put, pz0, pz1, pz2]
      refine PF.pf_take1 1 (PF.Same (w1.heap.size) _) (by kernel_rfl) rfl (fun _ _ _ _ _ h => h) (by kernel_rfl) (PF.Same.refl _ _) (fun u hu => by have hcu := hu.cell; go_simp; try rfl) ?_
      try simp only [Act.put, pz0, pz1, pz2]
      refine PF.pf_take0 2 (by kernel_rfl) rfl (fun _ _ _ _ _ h => h) (by kernel_rfl) (fun u => by go_simp; try rfl) ?_
      try simp only [Act.put, pz0, pz1, pz2]
      refine PF.pf_take0 3 (by kernel_rfl) rfl (fun _ _ _ _ _ h => h) (by kernel_rfl) (fun u => by go_simp; try rfl) ?_
      try simp only [Act.put, pz0, pz1, pz2]
      refine PF.pf_done (by kernel_rfl) ?_
      go_wp2_with fail
      go_ret2
      rw [HR.out]
      exact ⟨rfl, (hb1.alloc hb1.size _).drew⟩
    · have hne : m.s.toNat ≠ s.toNat := fun h => h1 (UInt64.toNat_inj.1 h)
      have hd : ((m.s.toNat : Int) == (s.toNat : Int)) = false := by rw [beq_eq_false_iff_ne]; omega
      by_cases h2 : s.toNat < m.s.toNat
      · have HR : Hid (r = (2, 0)) := by
          show _ = _
          rw [hr, askOf, if_neg h1, if_pos h2]
        clear hr h1 hne
        go_enter Try.func24, Try.ntmps24
        go_wp2_with fail
        refine HL.out.mono ?_
        rintro e w1 ⟨rfl, hb1⟩
        go_wp2_with fail
        go_ret2
        rw [HR.out]
        exact ⟨rfl, hb1.alloc hb1.size _⟩
      · have HR : Hid (r = (0, 0)) := by
          show _ = _
          rw [hr, askOf, if_neg h1, if_neg h2]
        clear hr h1 hne
        go_enter Try.func24, Try.ntmps24
        go_wp2_with fail
        refine HL.out.mono ?_
        rintro e w1 ⟨rfl, hb1⟩
        go_wp2_with fail
        go_ret2
        rw [HR.out]
        exact ⟨rfl, hb1.alloc hb1.size _⟩
  | none =>
    rw [lastV_none'] at HL
    by_cases h2 : 6 ≤ ms.length
    · have HR : Hid (r = (3, 0)) := by
        show _ = _
        rw [hr, askOf, if_pos h2]
      clear hr
      go_enter Try.func24, Try.ntmps24
      go_wp2_with fail
      refine HL.out.mono ?_
      rintro e w1 ⟨rfl, hb1⟩
      go_wp2_with fail
      go_ret2
      rw [HR.out]
      exact ⟨rfl, hb1.alloc hb1.size _⟩
    · have HR : Hid (r = (0, 0)) := by
        show _ = _
        rw [hr, askOf, if_neg h2]
      clear hr
      go_enter Try.func24, Try.ntmps24
      go_wp2_with fail
      refine HL.out.mono ?_
      rintro e w1 ⟨rfl, hb1⟩
      go_wp2_with fail
      go_ret2
      rw [HR.out]
      exact ⟨rfl, hb1.alloc hb1.size _⟩

end Go.Proofs.Ytgdbknbpnlpdnaa
