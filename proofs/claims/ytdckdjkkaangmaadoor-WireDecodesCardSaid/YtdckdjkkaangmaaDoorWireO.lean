/- The writing walker over the fields. -/
import Derived.Test.YtdckdjkkaangmaaDoorWireM
namespace Go.Proofs.YtdckdjkkaangmaaDoor
set_option linter.unusedVariables false
set_option linter.unusedSimpArgs false
set_option maxRecDepth 100000
open Go.RowKit

theorem same_set {w : World} {pb : Nat} {T : TypeId} {cs : Array Value} {o : Nat} {v : Value} {S : Nat → Prop} (h : Blk w pb T cs) (hv : cs[o]? = some v) : Mod S w (w.setCell ⟨pb, o, none⟩ v) := by
  refine ⟨rfl, rfl, rfl, by simp [World.setCell], fun k _ _ => ?_⟩
  by_cases e : k = pb
  · subst e
    have h2 := h.put o v
    rw [set_self hv] at h2
    exact h2.trans h.symm
  · exact Below.heap_setCell w ⟨pb, o, none⟩ v k e
theorem WSt.kept_ {w w' : World} {K : Nat → Prop} {xb wb pb : Nat} {T : TypeId} {cs : Array Value} {S : WS} (h : WSt w K xb wb pb T cs S) (hm : Mod (fun _ => False) w w') : WSt w' K xb wb pb T cs S := h.same (hm.to_below (Nat.le_refl _) fun _ _ e => e)
set_option maxHeartbeats 16000000 in
theorem wfields_call {w0 : World} {K : Nat → Prop} {xb wb pb : Nat} {T : TypeId} {cs : Array Value} {S0 : WS} (h : WSt w0 K xb wb pb T cs S0) (hk : cs[0]? = some (.int .i64 5)) (ht : PkT cs) (hl : S0.1.length ≤ 1000) {A : Option Addr} {b : List UInt8} {c : Nat} (ho : cs[46]? = some (.slice A b.length c)) (hb : ∀ w', Mod (fun b => ¬ K b) w0 w' → Bytes w' A b) (hbl : b.length ≤ 1000000) :
    Calls Tryd.prog 22 #[.iface 128 (.pointer (some ⟨xb, 0, none⟩)), pc pb 0] w0 fun e w' => e = .returned (.bool true) ∧ WSt w' K xb wb pb T cs (gText b (callW cs S0)) ∧ Mod (fun b => ¬ K b) w0 w' := by
  have hm1 := wr_ints xb
  have hm2 := wr_nums xb
  have hm3 := wr_text xb
  have hm4 := wr_list xb
  have k0 := h.pk.cell 0
  rw [hk] at k0
  have HS0 := Lib.hid h
  have HL0 : Hid (S0.1.length ≤ 1000) := hl
  have HM0 : Hid (Mod (fun b => ¬ K b) w0 w0) := Mod.refl _ _
  have HTI := Lib.hid ht.1
  have HTN := Lib.hid ht.2
  have HBL : Hid (∀ o ∈ [3, 9, 12, 15], IsBal cs o) := ht.bal
  have HP : Hid (∀ o ∈ [19, 29], IsPl cs o) := ht.pl
  have HB := Lib.hid hb
  have HO := Lib.hid ho
  clear h hk ht hl hb ho
  unfold pc
  go_enter Tryd.func22, Tryd.ntmps22
  go_wp2_with fail
  clear k0
  apply share (S := fun w' => WSt w' K xb wb pb T cs (gInt cs S0 38) ∧ Mod (fun b => ¬ K b) w0 w')
  case walk =>
    have hc := wints_var HS0.out [38] (by simp) (fun o' ho' => HTI.out o' (by simp at ho'; subst ho'; decide)) (below_var w0 _) (by show _ < (w0.alloc _).heap.size; simp) (ptrs_row [38] 109) (Nat.le_trans HL0.out (by omega))
    simp only [List.map_cons, List.map_nil, List.length_cons, List.length_nil, List.foldl_cons, List.foldl_nil, pc, Nat.zero_add, Nat.reduceAdd] at hc
    refine PF.pf_begin (by kernel_rfl) ?_
    refine PF.pf_take0 0 (by kernel_rfl) rfl (fun _ _ _ _ _ h => h) (by kernel_rfl) (fun u => by go_simp; try rfl) ?_
    try simp only [Act.put, pz0, pz1, pz2]
    refine PF.pf_take0 1 (by kernel_rfl) rfl (fun _ _ _ _ _ h => h) (by kernel_rfl) (fun u => by go_simp; try rfl) ?_
    try simp only [Act.put, pz0, pz1, pz2]
    refine PF.pf_take0 2 (by kernel_rfl) rfl (fun _ _ _ _ _ h => h) (by kernel_rfl) (fun u => by go_simp; try rfl) ?_
    try simp only [Act.put, pz0, pz1, pz2]
    refine PF.pf_take0 3 (by kernel_rfl) rfl (fun _ _ _ _ _ h => h) (by kernel_rfl) (fun u => by go_simp; try rfl) ?_
    try simp only [Act.put, pz0, pz1, pz2]
    refine PF.pf_fork [4, 5] (by kernel_rfl) rfl (PF.fork_cons ?_ (PF.fork_cons ?_ PF.fork_nil))
    -- number 4 first
    · refine PF.step_one rfl (by kernel_rfl) (fun K hK => ?_)
      go_simp
      refine hK _ _ (by repeat (first | exact PF.owes_nil | refine PF.owes_left ?_ | refine PF.owes_no (by decide +kernel) ?_ | refine PF.owes_yes (by first | rfl | assumption | go_simp) ?_)) ?_
      clear hK K
      try simp only [Act.put, pz0, pz1, pz2]
      refine PF.pf_exec 5 (by kernel_rfl) rfl (by kernel_rfl) (fun K hK => ?_)
      go_simp
      refine hK _ _ (by repeat (first | exact PF.owes_nil | refine PF.owes_left ?_ | refine PF.owes_no (by decide +kernel) ?_ | refine PF.owes_yes (by first | rfl | assumption | go_simp) ?_)) ?_
      clear hK K
      try simp only [Act.put, pz0, pz1, pz2]
      refine PF.pf_take0 6 (by kernel_rfl) rfl (fun _ _ _ _ _ h => h) (by kernel_rfl) (fun u => by go_simp; try rfl) ?_
      try simp only [Act.put, pz0, pz1, pz2]
      refine PF.pf_take0 7 (by kernel_rfl) rfl (fun _ _ _ _ _ h => h) (by kernel_rfl) (fun u => by go_simp; try rfl) ?_
      try simp only [Act.put, pz0, pz1, pz2]
      refine PF.pf_exec 8 (by kernel_rfl) rfl (by kernel_rfl) (fun K hK => ?_)
      go_simp
      refine hc.mono ?_
      rintro e w' ⟨rfl, hS', hM'⟩
      refine hK _ _ (by repeat (first | exact PF.owes_nil | refine PF.owes_left ?_ | refine PF.owes_no (by decide +kernel) ?_ | refine PF.owes_yes (by first | rfl | assumption | go_simp) ?_)) ?_
      clear hK K
      try simp only [Act.put, pz0, pz1, pz2]
      refine PF.pf_done (by kernel_rfl) ?_
      exact ⟨rfl, hS', HM0.out.trans hM'⟩
    -- number 5 first
    · refine PF.step_one rfl (by kernel_rfl) (fun K hK => ?_)
      go_simp
      refine hK _ _ (by repeat (first | exact PF.owes_nil | refine PF.owes_left ?_ | refine PF.owes_no (by decide +kernel) ?_ | refine PF.owes_yes (by first | rfl | assumption | go_simp) ?_)) ?_
      clear hK K
      try simp only [Act.put, pz0, pz1, pz2]
      refine PF.pf_take0 6 (by kernel_rfl) rfl (fun _ _ _ _ _ h => h) (by kernel_rfl) (fun u => by go_simp; try rfl) ?_
      try simp only [Act.put, pz0, pz1, pz2]
      refine PF.pf_take0 7 (by kernel_rfl) rfl (fun _ _ _ _ _ h => h) (by kernel_rfl) (fun u => by go_simp; try rfl) ?_
      try simp only [Act.put, pz0, pz1, pz2]
      refine PF.pf_exec 4 (by kernel_rfl) rfl (by kernel_rfl) (fun K hK => ?_)
      go_simp
      refine hK _ _ (by repeat (first | exact PF.owes_nil | refine PF.owes_left ?_ | refine PF.owes_no (by decide +kernel) ?_ | refine PF.owes_yes (by first | rfl | assumption | go_simp) ?_)) ?_
      clear hK K
      try simp only [Act.put, pz0, pz1, pz2]
      refine PF.pf_exec 8 (by kernel_rfl) rfl (by kernel_rfl) (fun K hK => ?_)
      go_simp
      refine hc.mono ?_
      rintro e w' ⟨rfl, hS', hM'⟩
      refine hK _ _ (by repeat (first | exact PF.owes_nil | refine PF.owes_left ?_ | refine PF.owes_no (by decide +kernel) ?_ | refine PF.owes_yes (by first | rfl | assumption | go_simp) ?_)) ?_
      clear hK K
      try simp only [Act.put, pz0, pz1, pz2]
      refine PF.pf_done (by kernel_rfl) ?_
      exact ⟨rfl, hS', HM0.out.trans hM'⟩
  rintro w1 ⟨hS', hM'⟩
  have hz' : (gInt cs S0 38).1.length ≤ 1010 := by
    have h1 := gInts_len (os := [38]) (fun o' ho' => HTI.out o' (by simp at ho'; subst ho'; decide)) S0
    have h2 := HL0.out
    try simp only [List.length_cons, List.length_nil, List.foldl_cons, List.foldl_nil] at h1
    try simp only [List.foldl_cons, List.foldl_nil]
    omega
  obtain ⟨S1, e'⟩ : ∃ S, S = gInt cs S0 38 := ⟨_, rfl⟩
  rw [← e'] at hS' hz'
  have HS1 := Lib.hid hS'
  have HM1 := Lib.hid hM'
  have HL1 := Lib.hid hz'
  have HE1 := Lib.hid e'
  clear hS' hM' hz' e' 
  go_wp2_with fail
  apply share (S := fun w' => WSt w' K xb wb pb T cs ([39, 40].foldl (gNum cs) S1) ∧ Mod (fun b => ¬ K b) w0 w')
  case walk =>
    have hc := wnums_var HS1.out [39, 40] (by simp) (fun o' ho' => HTN.out o' (by simp at ho'; rcases ho' with rfl | rfl <;> decide)) (below_var w1 _) (by show _ < (w1.alloc _).heap.size; simp) (ptrs_row [39, 40] 118) (Nat.le_trans HL1.out (by omega))
    simp only [List.map_cons, List.map_nil, List.length_cons, List.length_nil, List.foldl_cons, List.foldl_nil, pc, Nat.zero_add, Nat.reduceAdd] at hc
    refine PF.pf_begin (by kernel_rfl) ?_
    refine PF.pf_take0 0 (by kernel_rfl) rfl (fun _ _ _ _ _ h => h) (by kernel_rfl) (fun u => by go_simp; try rfl) ?_
    try simp only [Act.put, pz0, pz1, pz2]
    refine PF.pf_take0 1 (by kernel_rfl) rfl (fun _ _ _ _ _ h => h) (by kernel_rfl) (fun u => by go_simp; try rfl) ?_
    try simp only [Act.put, pz0, pz1, pz2]
    refine PF.pf_take0 2 (by kernel_rfl) rfl (fun _ _ _ _ _ h => h) (by kernel_rfl) (fun u => by go_simp; try rfl) ?_
    try simp only [Act.put, pz0, pz1, pz2]
    refine PF.pf_take0 3 (by kernel_rfl) rfl (fun _ _ _ _ _ h => h) (by kernel_rfl) (fun u => by go_simp; try rfl) ?_
    try simp only [Act.put, pz0, pz1, pz2]
    refine PF.pf_take0 4 (by kernel_rfl) rfl (fun _ _ _ _ _ h => h) (by kernel_rfl) (fun u => by go_simp; try rfl) ?_
    try simp only [Act.put, pz0, pz1, pz2]
    refine PF.pf_take0 5 (by kernel_rfl) rfl (fun _ _ _ _ _ h => h) (by kernel_rfl) (fun u => by go_simp; try rfl) ?_
    try simp only [Act.put, pz0, pz1, pz2]
    refine PF.pf_take0 6 (by kernel_rfl) rfl (fun _ _ _ _ _ h => h) (by kernel_rfl) (fun u => by go_simp; try rfl) ?_
    try simp only [Act.put, pz0, pz1, pz2]
    refine PF.pf_fork [7, 8] (by kernel_rfl) rfl (PF.fork_cons ?_ (PF.fork_cons ?_ PF.fork_nil))
    -- number 7 first
    · refine PF.step_one rfl (by kernel_rfl) (fun K hK => ?_)
      go_simp
      refine hK _ _ (by repeat (first | exact PF.owes_nil | refine PF.owes_left ?_ | refine PF.owes_no (by decide +kernel) ?_ | refine PF.owes_yes (by first | rfl | assumption | go_simp) ?_)) ?_
      clear hK K
      try simp only [Act.put, pz0, pz1, pz2]
      refine PF.pf_exec 8 (by kernel_rfl) rfl (by kernel_rfl) (fun K hK => ?_)
      go_simp
      refine hK _ _ (by repeat (first | exact PF.owes_nil | refine PF.owes_left ?_ | refine PF.owes_no (by decide +kernel) ?_ | refine PF.owes_yes (by first | rfl | assumption | go_simp) ?_)) ?_
      clear hK K
      try simp only [Act.put, pz0, pz1, pz2]
      refine PF.pf_take0 9 (by kernel_rfl) rfl (fun _ _ _ _ _ h => h) (by kernel_rfl) (fun u => by go_simp; try rfl) ?_
      try simp only [Act.put, pz0, pz1, pz2]
      refine PF.pf_take0 10 (by kernel_rfl) rfl (fun _ _ _ _ _ h => h) (by kernel_rfl) (fun u => by go_simp; try rfl) ?_
      try simp only [Act.put, pz0, pz1, pz2]
      refine PF.pf_exec 11 (by kernel_rfl) rfl (by kernel_rfl) (fun K hK => ?_)
      go_simp
      refine hc.mono ?_
      rintro e w' ⟨rfl, hS', hM'⟩
      refine hK _ _ (by repeat (first | exact PF.owes_nil | refine PF.owes_left ?_ | refine PF.owes_no (by decide +kernel) ?_ | refine PF.owes_yes (by first | rfl | assumption | go_simp) ?_)) ?_
      clear hK K
      try simp only [Act.put, pz0, pz1, pz2]
      refine PF.pf_done (by kernel_rfl) ?_
      exact ⟨rfl, hS', HM1.out.trans hM'⟩
    -- number 8 first
    · refine PF.step_one rfl (by kernel_rfl) (fun K hK => ?_)
      go_simp
      refine hK _ _ (by repeat (first | exact PF.owes_nil | refine PF.owes_left ?_ | refine PF.owes_no (by decide +kernel) ?_ | refine PF.owes_yes (by first | rfl | assumption | go_simp) ?_)) ?_
      clear hK K
      try simp only [Act.put, pz0, pz1, pz2]
      refine PF.pf_take0 9 (by kernel_rfl) rfl (fun _ _ _ _ _ h => h) (by kernel_rfl) (fun u => by go_simp; try rfl) ?_
      try simp only [Act.put, pz0, pz1, pz2]
      refine PF.pf_take0 10 (by kernel_rfl) rfl (fun _ _ _ _ _ h => h) (by kernel_rfl) (fun u => by go_simp; try rfl) ?_
      try simp only [Act.put, pz0, pz1, pz2]
      refine PF.pf_exec 7 (by kernel_rfl) rfl (by kernel_rfl) (fun K hK => ?_)
      go_simp
      refine hK _ _ (by repeat (first | exact PF.owes_nil | refine PF.owes_left ?_ | refine PF.owes_no (by decide +kernel) ?_ | refine PF.owes_yes (by first | rfl | assumption | go_simp) ?_)) ?_
      clear hK K
      try simp only [Act.put, pz0, pz1, pz2]
      refine PF.pf_exec 11 (by kernel_rfl) rfl (by kernel_rfl) (fun K hK => ?_)
      go_simp
      refine hc.mono ?_
      rintro e w' ⟨rfl, hS', hM'⟩
      refine hK _ _ (by repeat (first | exact PF.owes_nil | refine PF.owes_left ?_ | refine PF.owes_no (by decide +kernel) ?_ | refine PF.owes_yes (by first | rfl | assumption | go_simp) ?_)) ?_
      clear hK K
      try simp only [Act.put, pz0, pz1, pz2]
      refine PF.pf_done (by kernel_rfl) ?_
      exact ⟨rfl, hS', HM1.out.trans hM'⟩
  rintro w2 ⟨hS', hM'⟩
  have hz' : ([39, 40].foldl (gNum cs) S1).1.length ≤ 1030 := by
    have h1 := gNums_len (os := [39, 40]) (fun o' ho' => HTN.out o' (by simp at ho'; rcases ho' with rfl | rfl <;> decide)) S1
    have h2 := HL1.out
    try simp only [List.length_cons, List.length_nil, List.foldl_cons, List.foldl_nil] at h1
    try simp only [List.foldl_cons, List.foldl_nil]
    omega
  obtain ⟨S2, e'⟩ : ∃ S, S = [39, 40].foldl (gNum cs) S1 := ⟨_, rfl⟩
  rw [← e'] at hS' hz'
  have HS2 := Lib.hid hS'
  have HM2 := Lib.hid hM'
  have HL2 := Lib.hid hz'
  have HE2 := Lib.hid e'
  clear hS' hM' hz' e' 
  go_wp2_with fail
  apply share (S := fun w' => WSt w' K xb wb pb T cs ([41, 42, 43].foldl (gInt cs) S2) ∧ Mod (fun b => ¬ K b) w0 w')
  case walk =>
    have hc := wints_var HS2.out [41, 42, 43] (by simp) (fun o' ho' => HTI.out o' (by simp at ho'; rcases ho' with rfl | rfl | rfl <;> decide)) (below_var w2 _) (by show _ < (w2.alloc _).heap.size; simp) (ptrs_row [41, 42, 43] 109) (Nat.le_trans HL2.out (by omega))
    simp only [List.map_cons, List.map_nil, List.length_cons, List.length_nil, List.foldl_cons, List.foldl_nil, pc, Nat.zero_add, Nat.reduceAdd] at hc
    refine PF.pf_begin (by kernel_rfl) ?_
    refine PF.pf_take0 0 (by kernel_rfl) rfl (fun _ _ _ _ _ h => h) (by kernel_rfl) (fun u => by go_simp; try rfl) ?_
    try simp only [Act.put, pz0, pz1, pz2]
    refine PF.pf_take0 1 (by kernel_rfl) rfl (fun _ _ _ _ _ h => h) (by kernel_rfl) (fun u => by go_simp; try rfl) ?_
    try simp only [Act.put, pz0, pz1, pz2]
    refine PF.pf_take0 2 (by kernel_rfl) rfl (fun _ _ _ _ _ h => h) (by kernel_rfl) (fun u => by go_simp; try rfl) ?_
    try simp only [Act.put, pz0, pz1, pz2]
    refine PF.pf_take0 3 (by kernel_rfl) rfl (fun _ _ _ _ _ h => h) (by kernel_rfl) (fun u => by go_simp; try rfl) ?_
    try simp only [Act.put, pz0, pz1, pz2]
    refine PF.pf_take0 4 (by kernel_rfl) rfl (fun _ _ _ _ _ h => h) (by kernel_rfl) (fun u => by go_simp; try rfl) ?_
    try simp only [Act.put, pz0, pz1, pz2]
    refine PF.pf_take0 5 (by kernel_rfl) rfl (fun _ _ _ _ _ h => h) (by kernel_rfl) (fun u => by go_simp; try rfl) ?_
    try simp only [Act.put, pz0, pz1, pz2]
    refine PF.pf_take0 6 (by kernel_rfl) rfl (fun _ _ _ _ _ h => h) (by kernel_rfl) (fun u => by go_simp; try rfl) ?_
    try simp only [Act.put, pz0, pz1, pz2]
    refine PF.pf_take0 7 (by kernel_rfl) rfl (fun _ _ _ _ _ h => h) (by kernel_rfl) (fun u => by go_simp; try rfl) ?_
    try simp only [Act.put, pz0, pz1, pz2]
    refine PF.pf_take0 8 (by kernel_rfl) rfl (fun _ _ _ _ _ h => h) (by kernel_rfl) (fun u => by go_simp; try rfl) ?_
    try simp only [Act.put, pz0, pz1, pz2]
    refine PF.pf_take0 9 (by kernel_rfl) rfl (fun _ _ _ _ _ h => h) (by kernel_rfl) (fun u => by go_simp; try rfl) ?_
    try simp only [Act.put, pz0, pz1, pz2]
    refine PF.pf_fork [10, 11] (by kernel_rfl) rfl (PF.fork_cons ?_ (PF.fork_cons ?_ PF.fork_nil))
    -- number 10 first
    · refine PF.step_one rfl (by kernel_rfl) (fun K hK => ?_)
      go_simp
      refine hK _ _ (by repeat (first | exact PF.owes_nil | refine PF.owes_left ?_ | refine PF.owes_no (by decide +kernel) ?_ | refine PF.owes_yes (by first | rfl | assumption | go_simp) ?_)) ?_
      clear hK K
      try simp only [Act.put, pz0, pz1, pz2]
      refine PF.pf_exec 11 (by kernel_rfl) rfl (by kernel_rfl) (fun K hK => ?_)
      go_simp
      refine hK _ _ (by repeat (first | exact PF.owes_nil | refine PF.owes_left ?_ | refine PF.owes_no (by decide +kernel) ?_ | refine PF.owes_yes (by first | rfl | assumption | go_simp) ?_)) ?_
      clear hK K
      try simp only [Act.put, pz0, pz1, pz2]
      refine PF.pf_take0 12 (by kernel_rfl) rfl (fun _ _ _ _ _ h => h) (by kernel_rfl) (fun u => by go_simp; try rfl) ?_
      try simp only [Act.put, pz0, pz1, pz2]
      refine PF.pf_take0 13 (by kernel_rfl) rfl (fun _ _ _ _ _ h => h) (by kernel_rfl) (fun u => by go_simp; try rfl) ?_
      try simp only [Act.put, pz0, pz1, pz2]
      refine PF.pf_exec 14 (by kernel_rfl) rfl (by kernel_rfl) (fun K hK => ?_)
      go_simp
      refine hc.mono ?_
      rintro e w' ⟨rfl, hS', hM'⟩
      refine hK _ _ (by repeat (first | exact PF.owes_nil | refine PF.owes_left ?_ | refine PF.owes_no (by decide +kernel) ?_ | refine PF.owes_yes (by first | rfl | assumption | go_simp) ?_)) ?_
      clear hK K
      try simp only [Act.put, pz0, pz1, pz2]
      refine PF.pf_done (by kernel_rfl) ?_
      exact ⟨rfl, hS', HM2.out.trans hM'⟩
    -- number 11 first
    · refine PF.step_one rfl (by kernel_rfl) (fun K hK => ?_)
      go_simp
      refine hK _ _ (by repeat (first | exact PF.owes_nil | refine PF.owes_left ?_ | refine PF.owes_no (by decide +kernel) ?_ | refine PF.owes_yes (by first | rfl | assumption | go_simp) ?_)) ?_
      clear hK K
      try simp only [Act.put, pz0, pz1, pz2]
      refine PF.pf_take0 12 (by kernel_rfl) rfl (fun _ _ _ _ _ h => h) (by kernel_rfl) (fun u => by go_simp; try rfl) ?_
      try simp only [Act.put, pz0, pz1, pz2]
      refine PF.pf_take0 13 (by kernel_rfl) rfl (fun _ _ _ _ _ h => h) (by kernel_rfl) (fun u => by go_simp; try rfl) ?_
      try simp only [Act.put, pz0, pz1, pz2]
      refine PF.pf_exec 10 (by kernel_rfl) rfl (by kernel_rfl) (fun K hK => ?_)
      go_simp
      refine hK _ _ (by repeat (first | exact PF.owes_nil | refine PF.owes_left ?_ | refine PF.owes_no (by decide +kernel) ?_ | refine PF.owes_yes (by first | rfl | assumption | go_simp) ?_)) ?_
      clear hK K
      try simp only [Act.put, pz0, pz1, pz2]
      refine PF.pf_exec 14 (by kernel_rfl) rfl (by kernel_rfl) (fun K hK => ?_)
      go_simp
      refine hc.mono ?_
      rintro e w' ⟨rfl, hS', hM'⟩
      refine hK _ _ (by repeat (first | exact PF.owes_nil | refine PF.owes_left ?_ | refine PF.owes_no (by decide +kernel) ?_ | refine PF.owes_yes (by first | rfl | assumption | go_simp) ?_)) ?_
      clear hK K
      try simp only [Act.put, pz0, pz1, pz2]
      refine PF.pf_done (by kernel_rfl) ?_
      exact ⟨rfl, hS', HM2.out.trans hM'⟩
  rintro w3 ⟨hS', hM'⟩
  have hz' : ([41, 42, 43].foldl (gInt cs) S2).1.length ≤ 1060 := by
    have h1 := gInts_len (os := [41, 42, 43]) (fun o' ho' => HTI.out o' (by simp at ho'; rcases ho' with rfl | rfl | rfl <;> decide)) S2
    have h2 := HL2.out
    try simp only [List.length_cons, List.length_nil, List.foldl_cons, List.foldl_nil] at h1
    try simp only [List.foldl_cons, List.foldl_nil]
    omega
  obtain ⟨S3, e'⟩ : ∃ S, S = [41, 42, 43].foldl (gInt cs) S2 := ⟨_, rfl⟩
  rw [← e'] at hS' hz'
  have HS3 := Lib.hid hS'
  have HM3 := Lib.hid hM'
  have HL3 := Lib.hid hz'
  have HE3 := Lib.hid e'
  clear hS' hM' hz' e' 
  go_wp2_with fail
  apply share (S := fun w' => WSt w' K xb wb pb T cs ([44, 45].foldl (gNum cs) S3) ∧ Mod (fun b => ¬ K b) w0 w')
  case walk =>
    have hc := wnums_var HS3.out [44, 45] (by simp) (fun o' ho' => HTN.out o' (by simp at ho'; rcases ho' with rfl | rfl <;> decide)) (below_var w3 _) (by show _ < (w3.alloc _).heap.size; simp) (ptrs_row [44, 45] 118) (Nat.le_trans HL3.out (by omega))
    simp only [List.map_cons, List.map_nil, List.length_cons, List.length_nil, List.foldl_cons, List.foldl_nil, pc, Nat.zero_add, Nat.reduceAdd] at hc
    refine PF.pf_begin (by kernel_rfl) ?_
    refine PF.pf_take0 0 (by kernel_rfl) rfl (fun _ _ _ _ _ h => h) (by kernel_rfl) (fun u => by go_simp; try rfl) ?_
    try simp only [Act.put, pz0, pz1, pz2]
    refine PF.pf_take0 1 (by kernel_rfl) rfl (fun _ _ _ _ _ h => h) (by kernel_rfl) (fun u => by go_simp; try rfl) ?_
    try simp only [Act.put, pz0, pz1, pz2]
    refine PF.pf_take0 2 (by kernel_rfl) rfl (fun _ _ _ _ _ h => h) (by kernel_rfl) (fun u => by go_simp; try rfl) ?_
    try simp only [Act.put, pz0, pz1, pz2]
    refine PF.pf_take0 3 (by kernel_rfl) rfl (fun _ _ _ _ _ h => h) (by kernel_rfl) (fun u => by go_simp; try rfl) ?_
    try simp only [Act.put, pz0, pz1, pz2]
    refine PF.pf_take0 4 (by kernel_rfl) rfl (fun _ _ _ _ _ h => h) (by kernel_rfl) (fun u => by go_simp; try rfl) ?_
    try simp only [Act.put, pz0, pz1, pz2]
    refine PF.pf_take0 5 (by kernel_rfl) rfl (fun _ _ _ _ _ h => h) (by kernel_rfl) (fun u => by go_simp; try rfl) ?_
    try simp only [Act.put, pz0, pz1, pz2]
    refine PF.pf_take0 6 (by kernel_rfl) rfl (fun _ _ _ _ _ h => h) (by kernel_rfl) (fun u => by go_simp; try rfl) ?_
    try simp only [Act.put, pz0, pz1, pz2]
    refine PF.pf_fork [7, 8] (by kernel_rfl) rfl (PF.fork_cons ?_ (PF.fork_cons ?_ PF.fork_nil))
    -- number 7 first
    · refine PF.step_one rfl (by kernel_rfl) (fun K hK => ?_)
      go_simp
      refine hK _ _ (by repeat (first | exact PF.owes_nil | refine PF.owes_left ?_ | refine PF.owes_no (by decide +kernel) ?_ | refine PF.owes_yes (by first | rfl | assumption | go_simp) ?_)) ?_
      clear hK K
      try simp only [Act.put, pz0, pz1, pz2]
      refine PF.pf_exec 8 (by kernel_rfl) rfl (by kernel_rfl) (fun K hK => ?_)
      go_simp
      refine hK _ _ (by repeat (first | exact PF.owes_nil | refine PF.owes_left ?_ | refine PF.owes_no (by decide +kernel) ?_ | refine PF.owes_yes (by first | rfl | assumption | go_simp) ?_)) ?_
      clear hK K
      try simp only [Act.put, pz0, pz1, pz2]
      refine PF.pf_take0 9 (by kernel_rfl) rfl (fun _ _ _ _ _ h => h) (by kernel_rfl) (fun u => by go_simp; try rfl) ?_
      try simp only [Act.put, pz0, pz1, pz2]
      refine PF.pf_take0 10 (by kernel_rfl) rfl (fun _ _ _ _ _ h => h) (by kernel_rfl) (fun u => by go_simp; try rfl) ?_
      try simp only [Act.put, pz0, pz1, pz2]
      refine PF.pf_exec 11 (by kernel_rfl) rfl (by kernel_rfl) (fun K hK => ?_)
      go_simp
      refine hc.mono ?_
      rintro e w' ⟨rfl, hS', hM'⟩
      refine hK _ _ (by repeat (first | exact PF.owes_nil | refine PF.owes_left ?_ | refine PF.owes_no (by decide +kernel) ?_ | refine PF.owes_yes (by first | rfl | assumption | go_simp) ?_)) ?_
      clear hK K
      try simp only [Act.put, pz0, pz1, pz2]
      refine PF.pf_done (by kernel_rfl) ?_
      exact ⟨rfl, hS', HM3.out.trans hM'⟩
    -- number 8 first
    · refine PF.step_one rfl (by kernel_rfl) (fun K hK => ?_)
      go_simp
      refine hK _ _ (by repeat (first | exact PF.owes_nil | refine PF.owes_left ?_ | refine PF.owes_no (by decide +kernel) ?_ | refine PF.owes_yes (by first | rfl | assumption | go_simp) ?_)) ?_
      clear hK K
      try simp only [Act.put, pz0, pz1, pz2]
      refine PF.pf_take0 9 (by kernel_rfl) rfl (fun _ _ _ _ _ h => h) (by kernel_rfl) (fun u => by go_simp; try rfl) ?_
      try simp only [Act.put, pz0, pz1, pz2]
      refine PF.pf_take0 10 (by kernel_rfl) rfl (fun _ _ _ _ _ h => h) (by kernel_rfl) (fun u => by go_simp; try rfl) ?_
      try simp only [Act.put, pz0, pz1, pz2]
      refine PF.pf_exec 7 (by kernel_rfl) rfl (by kernel_rfl) (fun K hK => ?_)
      go_simp
      refine hK _ _ (by repeat (first | exact PF.owes_nil | refine PF.owes_left ?_ | refine PF.owes_no (by decide +kernel) ?_ | refine PF.owes_yes (by first | rfl | assumption | go_simp) ?_)) ?_
      clear hK K
      try simp only [Act.put, pz0, pz1, pz2]
      refine PF.pf_exec 11 (by kernel_rfl) rfl (by kernel_rfl) (fun K hK => ?_)
      go_simp
      refine hc.mono ?_
      rintro e w' ⟨rfl, hS', hM'⟩
      refine hK _ _ (by repeat (first | exact PF.owes_nil | refine PF.owes_left ?_ | refine PF.owes_no (by decide +kernel) ?_ | refine PF.owes_yes (by first | rfl | assumption | go_simp) ?_)) ?_
      clear hK K
      try simp only [Act.put, pz0, pz1, pz2]
      refine PF.pf_done (by kernel_rfl) ?_
      exact ⟨rfl, hS', HM3.out.trans hM'⟩
  rintro w4 ⟨hS', hM'⟩
  have hz' : ([44, 45].foldl (gNum cs) S3).1.length ≤ 1080 := by
    have h1 := gNums_len (os := [44, 45]) (fun o' ho' => HTN.out o' (by simp at ho'; rcases ho' with rfl | rfl <;> decide)) S3
    have h2 := HL3.out
    try simp only [List.length_cons, List.length_nil, List.foldl_cons, List.foldl_nil] at h1
    try simp only [List.foldl_cons, List.foldl_nil]
    omega
  obtain ⟨S4, e'⟩ : ∃ S, S = [44, 45].foldl (gNum cs) S3 := ⟨_, rfl⟩
  rw [← e'] at hS' hz'
  have HS4 := Lib.hid hS'
  have HM4 := Lib.hid hM'
  have HL4 := Lib.hid hz'
  have HE4 := Lib.hid e'
  clear hS' hM' hz' e' 
  go_wp2_with fail
  have hfin : callW cs S0 = S4 := by unfold callW; rw [HE4.out, HE3.out, HE2.out, HE1.out]
  have hc := wtextm_any (HS4.out.same (Below.refl _ _).drew) 46 A b c HO.out ((HB.out _ HM4.out).below (Below.refl _ _).drew) hbl (Nat.le_trans HL4.out (by omega))
  unfold pc at hc
  refine PF.pf_begin (by kernel_rfl) ?_
  refine PF.pf_take0 0 (by kernel_rfl) rfl (fun _ _ _ _ _ h => h) (by kernel_rfl) (fun u => by go_simp; try rfl) ?_
  try simp only [Act.put, pz0, pz1, pz2]
  refine PF.pf_take0 1 (by kernel_rfl) rfl (fun _ _ _ _ _ h => h) (by kernel_rfl) (fun u => by go_simp; try rfl) ?_
  try simp only [Act.put, pz0, pz1, pz2]
  refine PF.pf_take0 2 (by kernel_rfl) rfl (fun _ _ _ _ _ h => h) (by kernel_rfl) (fun u => by go_simp; try rfl) ?_
  try simp only [Act.put, pz0, pz1, pz2]
  refine PF.pf_take0 3 (by kernel_rfl) rfl (fun _ _ _ _ _ h => h) (by kernel_rfl) (fun u => by go_simp; try rfl) ?_
  try simp only [Act.put, pz0, pz1, pz2]
  refine PF.pf_exec 4 (by kernel_rfl) rfl (by kernel_rfl) (fun K hK => ?_)
  go_simp
  refine hK _ _ (by repeat (first | exact PF.owes_nil | refine PF.owes_left ?_ | refine PF.owes_no (by decide +kernel) ?_ | refine PF.owes_yes (by first | rfl | assumption | go_simp) ?_)) ?_
  clear hK K
  try simp only [Act.put, pz0, pz1, pz2]
  refine PF.pf_take0 5 (by kernel_rfl) rfl (fun _ _ _ _ _ h => h) (by kernel_rfl) (fun u => by go_simp; try rfl) ?_
  try simp only [Act.put, pz0, pz1, pz2]
  refine PF.pf_take0 6 (by kernel_rfl) rfl (fun _ _ _ _ _ h => h) (by kernel_rfl) (fun u => by go_simp; try rfl) ?_
  try simp only [Act.put, pz0, pz1, pz2]
  refine PF.pf_exec 7 (by kernel_rfl) rfl (by kernel_rfl) (fun K hK => ?_)
  go_simp
  refine hc.mono ?_
  rintro e wt ⟨rfl, hS', hM'⟩
  refine hK _ _ (by repeat (first | exact PF.owes_nil | refine PF.owes_left ?_ | refine PF.owes_no (by decide +kernel) ?_ | refine PF.owes_yes (by first | rfl | assumption | go_simp) ?_)) ?_
  clear hK K
  try simp only [Act.put, pz0, pz1, pz2]
  refine PF.pf_done (by kernel_rfl) ?_
  have hMt := HM4.out.trans (((Mod.refl _ w4).drew).trans hM')
  have HS' := Lib.hid hS'
  have HMt := Lib.hid hMt
  have HFI := Lib.hid hfin
  clear hc hS' hM' hMt hfin
  go_wp2_with fail
  go_ret
  rw [HFI.out]
  exact ⟨rfl, HS'.out, HMt.out⟩

set_option maxHeartbeats 16000000 in
theorem wfields_reply {w0 : World} {K : Nat → Prop} {xb wb pb : Nat} {T : TypeId} {cs : Array Value} {S0 : WS} (h : WSt w0 K xb wb pb T cs S0) (hk : cs[0]? = some (.int .i64 6)) (ht : PkT cs) (hl : S0.1.length ≤ 1000) {A : Option Addr} {b : List UInt8} {c : Nat} (ho : cs[55]? = some (.slice A b.length c)) (hb : ∀ w', Mod (fun b => ¬ K b) w0 w' → Bytes w' A b) (hbl : b.length ≤ 1000000) {v0 : Int} (hv : cs[50]? = some (.int .i64 v0)) :
    Calls Tryd.prog 22 #[.iface 128 (.pointer (some ⟨xb, 0, none⟩)), pc pb 0] w0 fun e w' => e = .returned (.bool true) ∧ WSt w' K xb wb pb T cs (gText b (replyW cs S0)) ∧ Mod (fun b => ¬ K b) w0 w' := by
  have hm1 := wr_ints xb
  have hm2 := wr_nums xb
  have hm3 := wr_text xb
  have hm4 := wr_list xb
  have k0 := h.pk.cell 0
  rw [hk] at k0
  have HS0 := Lib.hid h
  have HL0 : Hid (S0.1.length ≤ 1000) := hl
  have HM0 : Hid (Mod (fun b => ¬ K b) w0 w0) := Mod.refl _ _
  have HTI := Lib.hid ht.1
  have HTN := Lib.hid ht.2
  have HBL : Hid (∀ o ∈ [3, 9, 12, 15], IsBal cs o) := ht.bal
  have HP : Hid (∀ o ∈ [19, 29], IsPl cs o) := ht.pl
  have HB := Lib.hid hb
  have HO := Lib.hid ho
  have k50 := h.pk.cell 50
  rw [hv] at k50
  have HV := Lib.hid hv
  clear h hk ht hl hb ho hv
  unfold pc
  go_enter Tryd.func22, Tryd.ntmps22
  go_wp2_with fail
  clear k0
  clear k50
  have hbA := below_new w0 (.cells #[.int .i64 v0] 3)
  have kb := Blk.new w0 3 #[.int .i64 v0]
  have hS1 := HS0.out.below hbA
  have hMx : ∀ w', Mod (fun b => ¬ (K b ∨ From w0.heap.size (w0.alloc (.cells #[.int .i64 v0] 3)) b)) (w0.alloc (.cells #[.int .i64 v0] 3)) w' → Mod (fun b => ¬ K b) w0 w' := fun w' hm => (Mod.below hbA (Nat.le_refl _)).trans (hm.mono fun b _ hn hk => hn (.inl hk))
  have hkx : K w0.heap.size ∨ From w0.heap.size (w0.alloc (.cells #[.int .i64 v0] 3)) w0.heap.size := .inr ⟨Nat.le_refl _, by simp⟩
  generalize w0.alloc (.cells #[.int .i64 v0] 3) = w1 at *
  obtain ⟨K1, hK1⟩ : ∃ K1 : Nat → Prop, K1 = fun b => K b ∨ From w0.heap.size w1 b := ⟨_, rfl⟩
  have hM01 : ∀ w', Mod (fun b => ¬ K1 b) w1 w' → Mod (fun b => ¬ K b) w0 w' := by rw [hK1]; exact hMx
  have hkr : K1 w0.heap.size := by rw [hK1]; exact hkx
  have hK01 : ∀ b, K b → K1 b := by rw [hK1]; exact fun b => .inl
  rw [← hK1] at hS1
  clear hK1 hMx hkx
  generalize w0.heap.size = rb at *
  have HBX : Hid (∀ w', Mod (fun b => ¬ K1 b) w1 w' → Blk w' rb 3 #[.int .i64 v0]) := fun w' hm => kb.mod hm fun e => e hkr
  have HKR := Lib.hid hkr
  have HM01 := Lib.hid hM01
  have HK01 := Lib.hid hK01
  have HS1 := Lib.hid hS1
  have HVI : Hid (IsInt #[.int .i64 v0] 0) := by
    obtain ⟨n, h1, h2, h3⟩ := HTI.out 50 (by decide)
    rw [HV.out] at h1
    injection h1 with h1
    injection h1 with _ h1
    subst h1
    exact ⟨_, rfl, h2, h3⟩
  clear hbA kb hS1 hM01 hkr hK01
  have HM1 : Hid (Mod (fun b => ¬ K1 b) w1 w1) := Mod.refl _ _
  obtain ⟨S1, e'⟩ : ∃ S, S = S0 := ⟨_, rfl⟩
  rw [← e'] at HS1
  have HL1 : Hid (S1.1.length ≤ 1000) := by show _ ≤ _; rw [e']; exact HL0.out
  have HE1 := Lib.hid e'
  clear e' 
  apply share (S := fun w' => WSt w' K1 xb wb pb T cs (gInt cs S1 47) ∧ Mod (fun b => ¬ K1 b) w1 w')
  case walk =>
    have hc := wints_var HS1.out [47] (by simp) (fun o' ho' => HTI.out o' (by simp at ho'; subst ho'; decide)) (below_var w1 _) (by show _ < (w1.alloc _).heap.size; simp) (ptrs_row [47] 109) (Nat.le_trans HL1.out (by omega))
    simp only [List.map_cons, List.map_nil, List.length_cons, List.length_nil, List.foldl_cons, List.foldl_nil, pc, Nat.zero_add, Nat.reduceAdd] at hc
    refine PF.pf_begin (by kernel_rfl) ?_
    refine PF.pf_take0 0 (by kernel_rfl) rfl (fun _ _ _ _ _ h => h) (by kernel_rfl) (fun u => by go_simp; try rfl) ?_
    try simp only [Act.put, pz0, pz1, pz2]
    refine PF.pf_take0 1 (by kernel_rfl) rfl (fun _ _ _ _ _ h => h) (by kernel_rfl) (fun u => by go_simp; try rfl) ?_
    try simp only [Act.put, pz0, pz1, pz2]
    refine PF.pf_take0 2 (by kernel_rfl) rfl (fun _ _ _ _ _ h => h) (by kernel_rfl) (fun u => by go_simp; try rfl) ?_
    try simp only [Act.put, pz0, pz1, pz2]
    refine PF.pf_take0 3 (by kernel_rfl) rfl (fun _ _ _ _ _ h => h) (by kernel_rfl) (fun u => by go_simp; try rfl) ?_
    try simp only [Act.put, pz0, pz1, pz2]
    refine PF.pf_fork [4, 5] (by kernel_rfl) rfl (PF.fork_cons ?_ (PF.fork_cons ?_ PF.fork_nil))
    -- number 4 first
    · refine PF.step_one rfl (by kernel_rfl) (fun K hK => ?_)
      go_simp
      refine hK _ _ (by repeat (first | exact PF.owes_nil | refine PF.owes_left ?_ | refine PF.owes_no (by decide +kernel) ?_ | refine PF.owes_yes (by first | rfl | assumption | go_simp) ?_)) ?_
      clear hK K
      try simp only [Act.put, pz0, pz1, pz2]
      refine PF.pf_exec 5 (by kernel_rfl) rfl (by kernel_rfl) (fun K hK => ?_)
      go_simp
      refine hK _ _ (by repeat (first | exact PF.owes_nil | refine PF.owes_left ?_ | refine PF.owes_no (by decide +kernel) ?_ | refine PF.owes_yes (by first | rfl | assumption | go_simp) ?_)) ?_
      clear hK K
      try simp only [Act.put, pz0, pz1, pz2]
      refine PF.pf_take0 6 (by kernel_rfl) rfl (fun _ _ _ _ _ h => h) (by kernel_rfl) (fun u => by go_simp; try rfl) ?_
      try simp only [Act.put, pz0, pz1, pz2]
      refine PF.pf_take0 7 (by kernel_rfl) rfl (fun _ _ _ _ _ h => h) (by kernel_rfl) (fun u => by go_simp; try rfl) ?_
      try simp only [Act.put, pz0, pz1, pz2]
      refine PF.pf_exec 8 (by kernel_rfl) rfl (by kernel_rfl) (fun K hK => ?_)
      go_simp
      refine hc.mono ?_
      rintro e w' ⟨rfl, hS', hM'⟩
      refine hK _ _ (by repeat (first | exact PF.owes_nil | refine PF.owes_left ?_ | refine PF.owes_no (by decide +kernel) ?_ | refine PF.owes_yes (by first | rfl | assumption | go_simp) ?_)) ?_
      clear hK K
      try simp only [Act.put, pz0, pz1, pz2]
      refine PF.pf_done (by kernel_rfl) ?_
      exact ⟨rfl, hS', HM1.out.trans hM'⟩
    -- number 5 first
    · refine PF.step_one rfl (by kernel_rfl) (fun K hK => ?_)
      go_simp
      refine hK _ _ (by repeat (first | exact PF.owes_nil | refine PF.owes_left ?_ | refine PF.owes_no (by decide +kernel) ?_ | refine PF.owes_yes (by first | rfl | assumption | go_simp) ?_)) ?_
      clear hK K
      try simp only [Act.put, pz0, pz1, pz2]
      refine PF.pf_take0 6 (by kernel_rfl) rfl (fun _ _ _ _ _ h => h) (by kernel_rfl) (fun u => by go_simp; try rfl) ?_
      try simp only [Act.put, pz0, pz1, pz2]
      refine PF.pf_take0 7 (by kernel_rfl) rfl (fun _ _ _ _ _ h => h) (by kernel_rfl) (fun u => by go_simp; try rfl) ?_
      try simp only [Act.put, pz0, pz1, pz2]
      refine PF.pf_exec 4 (by kernel_rfl) rfl (by kernel_rfl) (fun K hK => ?_)
      go_simp
      refine hK _ _ (by repeat (first | exact PF.owes_nil | refine PF.owes_left ?_ | refine PF.owes_no (by decide +kernel) ?_ | refine PF.owes_yes (by first | rfl | assumption | go_simp) ?_)) ?_
      clear hK K
      try simp only [Act.put, pz0, pz1, pz2]
      refine PF.pf_exec 8 (by kernel_rfl) rfl (by kernel_rfl) (fun K hK => ?_)
      go_simp
      refine hc.mono ?_
      rintro e w' ⟨rfl, hS', hM'⟩
      refine hK _ _ (by repeat (first | exact PF.owes_nil | refine PF.owes_left ?_ | refine PF.owes_no (by decide +kernel) ?_ | refine PF.owes_yes (by first | rfl | assumption | go_simp) ?_)) ?_
      clear hK K
      try simp only [Act.put, pz0, pz1, pz2]
      refine PF.pf_done (by kernel_rfl) ?_
      exact ⟨rfl, hS', HM1.out.trans hM'⟩
  rintro w2 ⟨hS', hM'⟩
  have hz' : (gInt cs S1 47).1.length ≤ 1010 := by
    have h1 := gInts_len (os := [47]) (fun o' ho' => HTI.out o' (by simp at ho'; subst ho'; decide)) S1
    have h2 := HL1.out
    try simp only [List.length_cons, List.length_nil, List.foldl_cons, List.foldl_nil] at h1
    try simp only [List.foldl_cons, List.foldl_nil]
    omega
  obtain ⟨S2, e'⟩ : ∃ S, S = gInt cs S1 47 := ⟨_, rfl⟩
  rw [← e'] at hS' hz'
  have HS2 := Lib.hid hS'
  have HM2 := Lib.hid hM'
  have HL2 := Lib.hid hz'
  have HE2 := Lib.hid e'
  clear hS' hM' hz' e' 
  go_wp2_with fail
  apply share (S := fun w' => WSt w' K1 xb wb pb T cs ([48, 49].foldl (gNum cs) S2) ∧ Mod (fun b => ¬ K1 b) w1 w')
  case walk =>
    have hc := wnums_var HS2.out [48, 49] (by simp) (fun o' ho' => HTN.out o' (by simp at ho'; rcases ho' with rfl | rfl <;> decide)) (below_var w2 _) (by show _ < (w2.alloc _).heap.size; simp) (ptrs_row [48, 49] 118) (Nat.le_trans HL2.out (by omega))
    simp only [List.map_cons, List.map_nil, List.length_cons, List.length_nil, List.foldl_cons, List.foldl_nil, pc, Nat.zero_add, Nat.reduceAdd] at hc
    refine PF.pf_begin (by kernel_rfl) ?_
    refine PF.pf_take0 0 (by kernel_rfl) rfl (fun _ _ _ _ _ h => h) (by kernel_rfl) (fun u => by go_simp; try rfl) ?_
    try simp only [Act.put, pz0, pz1, pz2]
    refine PF.pf_take0 1 (by kernel_rfl) rfl (fun _ _ _ _ _ h => h) (by kernel_rfl) (fun u => by go_simp; try rfl) ?_
    try simp only [Act.put, pz0, pz1, pz2]
    refine PF.pf_take0 2 (by kernel_rfl) rfl (fun _ _ _ _ _ h => h) (by kernel_rfl) (fun u => by go_simp; try rfl) ?_
    try simp only [Act.put, pz0, pz1, pz2]
    refine PF.pf_take0 3 (by kernel_rfl) rfl (fun _ _ _ _ _ h => h) (by kernel_rfl) (fun u => by go_simp; try rfl) ?_
    try simp only [Act.put, pz0, pz1, pz2]
    refine PF.pf_take0 4 (by kernel_rfl) rfl (fun _ _ _ _ _ h => h) (by kernel_rfl) (fun u => by go_simp; try rfl) ?_
    try simp only [Act.put, pz0, pz1, pz2]
    refine PF.pf_take0 5 (by kernel_rfl) rfl (fun _ _ _ _ _ h => h) (by kernel_rfl) (fun u => by go_simp; try rfl) ?_
    try simp only [Act.put, pz0, pz1, pz2]
    refine PF.pf_take0 6 (by kernel_rfl) rfl (fun _ _ _ _ _ h => h) (by kernel_rfl) (fun u => by go_simp; try rfl) ?_
    try simp only [Act.put, pz0, pz1, pz2]
    refine PF.pf_fork [7, 8] (by kernel_rfl) rfl (PF.fork_cons ?_ (PF.fork_cons ?_ PF.fork_nil))
    -- number 7 first
    · refine PF.step_one rfl (by kernel_rfl) (fun K hK => ?_)
      go_simp
      refine hK _ _ (by repeat (first | exact PF.owes_nil | refine PF.owes_left ?_ | refine PF.owes_no (by decide +kernel) ?_ | refine PF.owes_yes (by first | rfl | assumption | go_simp) ?_)) ?_
      clear hK K
      try simp only [Act.put, pz0, pz1, pz2]
      refine PF.pf_exec 8 (by kernel_rfl) rfl (by kernel_rfl) (fun K hK => ?_)
      go_simp
      refine hK _ _ (by repeat (first | exact PF.owes_nil | refine PF.owes_left ?_ | refine PF.owes_no (by decide +kernel) ?_ | refine PF.owes_yes (by first | rfl | assumption | go_simp) ?_)) ?_
      clear hK K
      try simp only [Act.put, pz0, pz1, pz2]
      refine PF.pf_take0 9 (by kernel_rfl) rfl (fun _ _ _ _ _ h => h) (by kernel_rfl) (fun u => by go_simp; try rfl) ?_
      try simp only [Act.put, pz0, pz1, pz2]
      refine PF.pf_take0 10 (by kernel_rfl) rfl (fun _ _ _ _ _ h => h) (by kernel_rfl) (fun u => by go_simp; try rfl) ?_
      try simp only [Act.put, pz0, pz1, pz2]
      refine PF.pf_exec 11 (by kernel_rfl) rfl (by kernel_rfl) (fun K hK => ?_)
      go_simp
      refine hc.mono ?_
      rintro e w' ⟨rfl, hS', hM'⟩
      refine hK _ _ (by repeat (first | exact PF.owes_nil | refine PF.owes_left ?_ | refine PF.owes_no (by decide +kernel) ?_ | refine PF.owes_yes (by first | rfl | assumption | go_simp) ?_)) ?_
      clear hK K
      try simp only [Act.put, pz0, pz1, pz2]
      refine PF.pf_done (by kernel_rfl) ?_
      exact ⟨rfl, hS', HM2.out.trans hM'⟩
    -- number 8 first
    · refine PF.step_one rfl (by kernel_rfl) (fun K hK => ?_)
      go_simp
      refine hK _ _ (by repeat (first | exact PF.owes_nil | refine PF.owes_left ?_ | refine PF.owes_no (by decide +kernel) ?_ | refine PF.owes_yes (by first | rfl | assumption | go_simp) ?_)) ?_
      clear hK K
      try simp only [Act.put, pz0, pz1, pz2]
      refine PF.pf_take0 9 (by kernel_rfl) rfl (fun _ _ _ _ _ h => h) (by kernel_rfl) (fun u => by go_simp; try rfl) ?_
      try simp only [Act.put, pz0, pz1, pz2]
      refine PF.pf_take0 10 (by kernel_rfl) rfl (fun _ _ _ _ _ h => h) (by kernel_rfl) (fun u => by go_simp; try rfl) ?_
      try simp only [Act.put, pz0, pz1, pz2]
      refine PF.pf_exec 7 (by kernel_rfl) rfl (by kernel_rfl) (fun K hK => ?_)
      go_simp
      refine hK _ _ (by repeat (first | exact PF.owes_nil | refine PF.owes_left ?_ | refine PF.owes_no (by decide +kernel) ?_ | refine PF.owes_yes (by first | rfl | assumption | go_simp) ?_)) ?_
      clear hK K
      try simp only [Act.put, pz0, pz1, pz2]
      refine PF.pf_exec 11 (by kernel_rfl) rfl (by kernel_rfl) (fun K hK => ?_)
      go_simp
      refine hc.mono ?_
      rintro e w' ⟨rfl, hS', hM'⟩
      refine hK _ _ (by repeat (first | exact PF.owes_nil | refine PF.owes_left ?_ | refine PF.owes_no (by decide +kernel) ?_ | refine PF.owes_yes (by first | rfl | assumption | go_simp) ?_)) ?_
      clear hK K
      try simp only [Act.put, pz0, pz1, pz2]
      refine PF.pf_done (by kernel_rfl) ?_
      exact ⟨rfl, hS', HM2.out.trans hM'⟩
  rintro w3 ⟨hS', hM'⟩
  have hz' : ([48, 49].foldl (gNum cs) S2).1.length ≤ 1030 := by
    have h1 := gNums_len (os := [48, 49]) (fun o' ho' => HTN.out o' (by simp at ho'; rcases ho' with rfl | rfl <;> decide)) S2
    have h2 := HL2.out
    try simp only [List.length_cons, List.length_nil, List.foldl_cons, List.foldl_nil] at h1
    try simp only [List.foldl_cons, List.foldl_nil]
    omega
  obtain ⟨S3, e'⟩ : ∃ S, S = [48, 49].foldl (gNum cs) S2 := ⟨_, rfl⟩
  rw [← e'] at hS' hz'
  have HS3 := Lib.hid hS'
  have HM3 := Lib.hid hM'
  have HL3 := Lib.hid hz'
  have HE3 := Lib.hid e'
  clear hS' hM' hz' e' 
  go_wp2_with fail
  have hRb : WSt w3 K1 xb wb rb 3 #[.int .i64 v0] S3 := ⟨HS3.out.wr, HS3.out.me, HBX.out _ HM3.out, HS3.out.ne, HKR.out, HS3.out.kx⟩
  have hc := wints_var hRb [0] (by simp) (by intro o' ho'; simp at ho'; subst ho'; exact HVI.out) (below_new w3 _) (by simp) (ptrs_row0 [0] 109) (Nat.le_trans HL3.out (by omega))
  simp only [List.map_cons, List.map_nil, List.length_cons, List.length_nil, List.foldl_cons, List.foldl_nil, pc, Nat.zero_add] at hc
  rw [show gInt #[.int .i64 v0] S3 0 = gInt cs S3 50 by unfold gInt cellN; rw [HV.out]; rfl] at hc
  refine hc.mono ?_
  rintro e wb' ⟨rfl, hS', hM0⟩
  have b0 : wb'.cell? ⟨rb, 0, none⟩ = some (.int .i64 v0) := hS'.pk.cell 0
  have hP0 : WSt wb' K1 xb wb pb T cs (gInt cs S3 50) := ⟨hS'.wr, hS'.me, HS3.out.pk.mod hM0 (fun e => e HS3.out.kp), HS3.out.ne, HS3.out.kp, hS'.kx⟩
  have m1 := hP0.pk.cell 50
  have f1 := hP0.pk.free 50
  rw [HV.out] at m1
  have hsm := same_set (S := fun b => ¬ K1 b) hP0.pk HV.out
  have hP1 : WSt (wb'.setCell ⟨pb, 50, none⟩ (.int .i64 v0)) K1 xb wb pb T cs (gInt cs S3 50) := hP0.kept_ (same_set (S := fun _ => False) hP0.pk HV.out) 
  have hM' := (HM3.out.trans hM0).trans hsm
  have hz' : (gInt cs S3 50).1.length ≤ 1040 := by
    have h1 := gInt_len (HTI.out 50 (by decide)) S3
    have h2 := HL3.out
    omega
  obtain ⟨S4, e'⟩ : ∃ S, S = gInt cs S3 50 := ⟨_, rfl⟩
  rw [← e'] at hP1 hz'
  have HS4 := Lib.hid hP1
  have HM4 := Lib.hid hM'
  have HL4 := Lib.hid hz'
  have HE4 := Lib.hid e'
  clear hc hS' hM0 hP0 hRb hsm hP1 hM' hz' e'
  go_wp2_with fail
  generalize wb'.setCell ⟨pb, 50, none⟩ (.int .i64 v0) = w4 at *
  clear m1 f1 b0
  apply share (S := fun w' => WSt w' K1 xb wb pb T cs (gNum cs S4 51) ∧ Mod (fun b => ¬ K1 b) w1 w')
  case walk =>
    have hc := wnums_var HS4.out [51] (by simp) (fun o' ho' => HTN.out o' (by simp at ho'; subst ho'; decide)) (below_var w4 _) (by show _ < (w4.alloc _).heap.size; simp) (ptrs_row [51] 118) (Nat.le_trans HL4.out (by omega))
    simp only [List.map_cons, List.map_nil, List.length_cons, List.length_nil, List.foldl_cons, List.foldl_nil, pc, Nat.zero_add, Nat.reduceAdd] at hc
    refine PF.pf_begin (by kernel_rfl) ?_
    refine PF.pf_take0 0 (by kernel_rfl) rfl (fun _ _ _ _ _ h => h) (by kernel_rfl) (fun u => by go_simp; try rfl) ?_
    try simp only [Act.put, pz0, pz1, pz2]
    refine PF.pf_take0 1 (by kernel_rfl) rfl (fun _ _ _ _ _ h => h) (by kernel_rfl) (fun u => by go_simp; try rfl) ?_
    try simp only [Act.put, pz0, pz1, pz2]
    refine PF.pf_take0 2 (by kernel_rfl) rfl (fun _ _ _ _ _ h => h) (by kernel_rfl) (fun u => by go_simp; try rfl) ?_
    try simp only [Act.put, pz0, pz1, pz2]
    refine PF.pf_take0 3 (by kernel_rfl) rfl (fun _ _ _ _ _ h => h) (by kernel_rfl) (fun u => by go_simp; try rfl) ?_
    try simp only [Act.put, pz0, pz1, pz2]
    refine PF.pf_fork [4, 5] (by kernel_rfl) rfl (PF.fork_cons ?_ (PF.fork_cons ?_ PF.fork_nil))
    -- number 4 first
    · refine PF.step_one rfl (by kernel_rfl) (fun K hK => ?_)
      go_simp
      refine hK _ _ (by repeat (first | exact PF.owes_nil | refine PF.owes_left ?_ | refine PF.owes_no (by decide +kernel) ?_ | refine PF.owes_yes (by first | rfl | assumption | go_simp) ?_)) ?_
      clear hK K
      try simp only [Act.put, pz0, pz1, pz2]
      refine PF.pf_exec 5 (by kernel_rfl) rfl (by kernel_rfl) (fun K hK => ?_)
      go_simp
      refine hK _ _ (by repeat (first | exact PF.owes_nil | refine PF.owes_left ?_ | refine PF.owes_no (by decide +kernel) ?_ | refine PF.owes_yes (by first | rfl | assumption | go_simp) ?_)) ?_
      clear hK K
      try simp only [Act.put, pz0, pz1, pz2]
      refine PF.pf_take0 6 (by kernel_rfl) rfl (fun _ _ _ _ _ h => h) (by kernel_rfl) (fun u => by go_simp; try rfl) ?_
      try simp only [Act.put, pz0, pz1, pz2]
      refine PF.pf_take0 7 (by kernel_rfl) rfl (fun _ _ _ _ _ h => h) (by kernel_rfl) (fun u => by go_simp; try rfl) ?_
      try simp only [Act.put, pz0, pz1, pz2]
      refine PF.pf_exec 8 (by kernel_rfl) rfl (by kernel_rfl) (fun K hK => ?_)
      go_simp
      refine hc.mono ?_
      rintro e w' ⟨rfl, hS', hM'⟩
      refine hK _ _ (by repeat (first | exact PF.owes_nil | refine PF.owes_left ?_ | refine PF.owes_no (by decide +kernel) ?_ | refine PF.owes_yes (by first | rfl | assumption | go_simp) ?_)) ?_
      clear hK K
      try simp only [Act.put, pz0, pz1, pz2]
      refine PF.pf_done (by kernel_rfl) ?_
      exact ⟨rfl, hS', HM4.out.trans hM'⟩
    -- number 5 first
    · refine PF.step_one rfl (by kernel_rfl) (fun K hK => ?_)
      go_simp
      refine hK _ _ (by repeat (first | exact PF.owes_nil | refine PF.owes_left ?_ | refine PF.owes_no (by decide +kernel) ?_ | refine PF.owes_yes (by first | rfl | assumption | go_simp) ?_)) ?_
      clear hK K
      try simp only [Act.put, pz0, pz1, pz2]
      refine PF.pf_take0 6 (by kernel_rfl) rfl (fun _ _ _ _ _ h => h) (by kernel_rfl) (fun u => by go_simp; try rfl) ?_
      try simp only [Act.put, pz0, pz1, pz2]
      refine PF.pf_take0 7 (by kernel_rfl) rfl (fun _ _ _ _ _ h => h) (by kernel_rfl) (fun u => by go_simp; try rfl) ?_
      try simp only [Act.put, pz0, pz1, pz2]
      refine PF.pf_exec 4 (by kernel_rfl) rfl (by kernel_rfl) (fun K hK => ?_)
      go_simp
      refine hK _ _ (by repeat (first | exact PF.owes_nil | refine PF.owes_left ?_ | refine PF.owes_no (by decide +kernel) ?_ | refine PF.owes_yes (by first | rfl | assumption | go_simp) ?_)) ?_
      clear hK K
      try simp only [Act.put, pz0, pz1, pz2]
      refine PF.pf_exec 8 (by kernel_rfl) rfl (by kernel_rfl) (fun K hK => ?_)
      go_simp
      refine hc.mono ?_
      rintro e w' ⟨rfl, hS', hM'⟩
      refine hK _ _ (by repeat (first | exact PF.owes_nil | refine PF.owes_left ?_ | refine PF.owes_no (by decide +kernel) ?_ | refine PF.owes_yes (by first | rfl | assumption | go_simp) ?_)) ?_
      clear hK K
      try simp only [Act.put, pz0, pz1, pz2]
      refine PF.pf_done (by kernel_rfl) ?_
      exact ⟨rfl, hS', HM4.out.trans hM'⟩
  rintro w5 ⟨hS', hM'⟩
  have hz' : (gNum cs S4 51).1.length ≤ 1050 := by
    have h1 := gNums_len (os := [51]) (fun o' ho' => HTN.out o' (by simp at ho'; subst ho'; decide)) S4
    have h2 := HL4.out
    try simp only [List.length_cons, List.length_nil, List.foldl_cons, List.foldl_nil] at h1
    try simp only [List.foldl_cons, List.foldl_nil]
    omega
  obtain ⟨S5, e'⟩ : ∃ S, S = gNum cs S4 51 := ⟨_, rfl⟩
  rw [← e'] at hS' hz'
  have HS5 := Lib.hid hS'
  have HM5 := Lib.hid hM'
  have HL5 := Lib.hid hz'
  have HE5 := Lib.hid e'
  clear hS' hM' hz' e' 
  go_wp2_with fail
  apply share (S := fun w' => WSt w' K1 xb wb pb T cs ([52, 53].foldl (gInt cs) S5) ∧ Mod (fun b => ¬ K1 b) w1 w')
  case walk =>
    have hc := wints_var HS5.out [52, 53] (by simp) (fun o' ho' => HTI.out o' (by simp at ho'; rcases ho' with rfl | rfl <;> decide)) (below_var w5 _) (by show _ < (w5.alloc _).heap.size; simp) (ptrs_row [52, 53] 109) (Nat.le_trans HL5.out (by omega))
    simp only [List.map_cons, List.map_nil, List.length_cons, List.length_nil, List.foldl_cons, List.foldl_nil, pc, Nat.zero_add, Nat.reduceAdd] at hc
    refine PF.pf_begin (by kernel_rfl) ?_
    refine PF.pf_take0 0 (by kernel_rfl) rfl (fun _ _ _ _ _ h => h) (by kernel_rfl) (fun u => by go_simp; try rfl) ?_
    try simp only [Act.put, pz0, pz1, pz2]
    refine PF.pf_take0 1 (by kernel_rfl) rfl (fun _ _ _ _ _ h => h) (by kernel_rfl) (fun u => by go_simp; try rfl) ?_
    try simp only [Act.put, pz0, pz1, pz2]
    refine PF.pf_take0 2 (by kernel_rfl) rfl (fun _ _ _ _ _ h => h) (by kernel_rfl) (fun u => by go_simp; try rfl) ?_
    try simp only [Act.put, pz0, pz1, pz2]
    refine PF.pf_take0 3 (by kernel_rfl) rfl (fun _ _ _ _ _ h => h) (by kernel_rfl) (fun u => by go_simp; try rfl) ?_
    try simp only [Act.put, pz0, pz1, pz2]
    refine PF.pf_take0 4 (by kernel_rfl) rfl (fun _ _ _ _ _ h => h) (by kernel_rfl) (fun u => by go_simp; try rfl) ?_
    try simp only [Act.put, pz0, pz1, pz2]
    refine PF.pf_take0 5 (by kernel_rfl) rfl (fun _ _ _ _ _ h => h) (by kernel_rfl) (fun u => by go_simp; try rfl) ?_
    try simp only [Act.put, pz0, pz1, pz2]
    refine PF.pf_take0 6 (by kernel_rfl) rfl (fun _ _ _ _ _ h => h) (by kernel_rfl) (fun u => by go_simp; try rfl) ?_
    try simp only [Act.put, pz0, pz1, pz2]
    refine PF.pf_fork [7, 8] (by kernel_rfl) rfl (PF.fork_cons ?_ (PF.fork_cons ?_ PF.fork_nil))
    -- number 7 first
    · refine PF.step_one rfl (by kernel_rfl) (fun K hK => ?_)
      go_simp
      refine hK _ _ (by repeat (first | exact PF.owes_nil | refine PF.owes_left ?_ | refine PF.owes_no (by decide +kernel) ?_ | refine PF.owes_yes (by first | rfl | assumption | go_simp) ?_)) ?_
      clear hK K
      try simp only [Act.put, pz0, pz1, pz2]
      refine PF.pf_exec 8 (by kernel_rfl) rfl (by kernel_rfl) (fun K hK => ?_)
      go_simp
      refine hK _ _ (by repeat (first | exact PF.owes_nil | refine PF.owes_left ?_ | refine PF.owes_no (by decide +kernel) ?_ | refine PF.owes_yes (by first | rfl | assumption | go_simp) ?_)) ?_
      clear hK K
      try simp only [Act.put, pz0, pz1, pz2]
      refine PF.pf_take0 9 (by kernel_rfl) rfl (fun _ _ _ _ _ h => h) (by kernel_rfl) (fun u => by go_simp; try rfl) ?_
      try simp only [Act.put, pz0, pz1, pz2]
      refine PF.pf_take0 10 (by kernel_rfl) rfl (fun _ _ _ _ _ h => h) (by kernel_rfl) (fun u => by go_simp; try rfl) ?_
      try simp only [Act.put, pz0, pz1, pz2]
      refine PF.pf_exec 11 (by kernel_rfl) rfl (by kernel_rfl) (fun K hK => ?_)
      go_simp
      refine hc.mono ?_
      rintro e w' ⟨rfl, hS', hM'⟩
      refine hK _ _ (by repeat (first | exact PF.owes_nil | refine PF.owes_left ?_ | refine PF.owes_no (by decide +kernel) ?_ | refine PF.owes_yes (by first | rfl | assumption | go_simp) ?_)) ?_
      clear hK K
      try simp only [Act.put, pz0, pz1, pz2]
      refine PF.pf_done (by kernel_rfl) ?_
      exact ⟨rfl, hS', HM5.out.trans hM'⟩
    -- number 8 first
    · refine PF.step_one rfl (by kernel_rfl) (fun K hK => ?_)
      go_simp
      refine hK _ _ (by repeat (first | exact PF.owes_nil | refine PF.owes_left ?_ | refine PF.owes_no (by decide +kernel) ?_ | refine PF.owes_yes (by first | rfl | assumption | go_simp) ?_)) ?_
      clear hK K
      try simp only [Act.put, pz0, pz1, pz2]
      refine PF.pf_take0 9 (by kernel_rfl) rfl (fun _ _ _ _ _ h => h) (by kernel_rfl) (fun u => by go_simp; try rfl) ?_
      try simp only [Act.put, pz0, pz1, pz2]
      refine PF.pf_take0 10 (by kernel_rfl) rfl (fun _ _ _ _ _ h => h) (by kernel_rfl) (fun u => by go_simp; try rfl) ?_
      try simp only [Act.put, pz0, pz1, pz2]
      refine PF.pf_exec 7 (by kernel_rfl) rfl (by kernel_rfl) (fun K hK => ?_)
      go_simp
      refine hK _ _ (by repeat (first | exact PF.owes_nil | refine PF.owes_left ?_ | refine PF.owes_no (by decide +kernel) ?_ | refine PF.owes_yes (by first | rfl | assumption | go_simp) ?_)) ?_
      clear hK K
      try simp only [Act.put, pz0, pz1, pz2]
      refine PF.pf_exec 11 (by kernel_rfl) rfl (by kernel_rfl) (fun K hK => ?_)
      go_simp
      refine hc.mono ?_
      rintro e w' ⟨rfl, hS', hM'⟩
      refine hK _ _ (by repeat (first | exact PF.owes_nil | refine PF.owes_left ?_ | refine PF.owes_no (by decide +kernel) ?_ | refine PF.owes_yes (by first | rfl | assumption | go_simp) ?_)) ?_
      clear hK K
      try simp only [Act.put, pz0, pz1, pz2]
      refine PF.pf_done (by kernel_rfl) ?_
      exact ⟨rfl, hS', HM5.out.trans hM'⟩
  rintro w6 ⟨hS', hM'⟩
  have hz' : ([52, 53].foldl (gInt cs) S5).1.length ≤ 1070 := by
    have h1 := gInts_len (os := [52, 53]) (fun o' ho' => HTI.out o' (by simp at ho'; rcases ho' with rfl | rfl <;> decide)) S5
    have h2 := HL5.out
    try simp only [List.length_cons, List.length_nil, List.foldl_cons, List.foldl_nil] at h1
    try simp only [List.foldl_cons, List.foldl_nil]
    omega
  obtain ⟨S6, e'⟩ : ∃ S, S = [52, 53].foldl (gInt cs) S5 := ⟨_, rfl⟩
  rw [← e'] at hS' hz'
  have HS6 := Lib.hid hS'
  have HM6 := Lib.hid hM'
  have HL6 := Lib.hid hz'
  have HE6 := Lib.hid e'
  clear hS' hM' hz' e' 
  go_wp2_with fail
  apply share (S := fun w' => WSt w' K1 xb wb pb T cs (gNum cs S6 54) ∧ Mod (fun b => ¬ K1 b) w1 w')
  case walk =>
    have hc := wnums_var HS6.out [54] (by simp) (fun o' ho' => HTN.out o' (by simp at ho'; subst ho'; decide)) (below_var w6 _) (by show _ < (w6.alloc _).heap.size; simp) (ptrs_row [54] 118) (Nat.le_trans HL6.out (by omega))
    simp only [List.map_cons, List.map_nil, List.length_cons, List.length_nil, List.foldl_cons, List.foldl_nil, pc, Nat.zero_add, Nat.reduceAdd] at hc
    refine PF.pf_begin (by kernel_rfl) ?_
    refine PF.pf_take0 0 (by kernel_rfl) rfl (fun _ _ _ _ _ h => h) (by kernel_rfl) (fun u => by go_simp; try rfl) ?_
    try simp only [Act.put, pz0, pz1, pz2]
    refine PF.pf_take0 1 (by kernel_rfl) rfl (fun _ _ _ _ _ h => h) (by kernel_rfl) (fun u => by go_simp; try rfl) ?_
    try simp only [Act.put, pz0, pz1, pz2]
    refine PF.pf_take0 2 (by kernel_rfl) rfl (fun _ _ _ _ _ h => h) (by kernel_rfl) (fun u => by go_simp; try rfl) ?_
    try simp only [Act.put, pz0, pz1, pz2]
    refine PF.pf_take0 3 (by kernel_rfl) rfl (fun _ _ _ _ _ h => h) (by kernel_rfl) (fun u => by go_simp; try rfl) ?_
    try simp only [Act.put, pz0, pz1, pz2]
    refine PF.pf_fork [4, 5] (by kernel_rfl) rfl (PF.fork_cons ?_ (PF.fork_cons ?_ PF.fork_nil))
    -- number 4 first
    · refine PF.step_one rfl (by kernel_rfl) (fun K hK => ?_)
      go_simp
      refine hK _ _ (by repeat (first | exact PF.owes_nil | refine PF.owes_left ?_ | refine PF.owes_no (by decide +kernel) ?_ | refine PF.owes_yes (by first | rfl | assumption | go_simp) ?_)) ?_
      clear hK K
      try simp only [Act.put, pz0, pz1, pz2]
      refine PF.pf_exec 5 (by kernel_rfl) rfl (by kernel_rfl) (fun K hK => ?_)
      go_simp
      refine hK _ _ (by repeat (first | exact PF.owes_nil | refine PF.owes_left ?_ | refine PF.owes_no (by decide +kernel) ?_ | refine PF.owes_yes (by first | rfl | assumption | go_simp) ?_)) ?_
      clear hK K
      try simp only [Act.put, pz0, pz1, pz2]
      refine PF.pf_take0 6 (by kernel_rfl) rfl (fun _ _ _ _ _ h => h) (by kernel_rfl) (fun u => by go_simp; try rfl) ?_
      try simp only [Act.put, pz0, pz1, pz2]
      refine PF.pf_take0 7 (by kernel_rfl) rfl (fun _ _ _ _ _ h => h) (by kernel_rfl) (fun u => by go_simp; try rfl) ?_
      try simp only [Act.put, pz0, pz1, pz2]
      refine PF.pf_exec 8 (by kernel_rfl) rfl (by kernel_rfl) (fun K hK => ?_)
      go_simp
      refine hc.mono ?_
      rintro e w' ⟨rfl, hS', hM'⟩
      refine hK _ _ (by repeat (first | exact PF.owes_nil | refine PF.owes_left ?_ | refine PF.owes_no (by decide +kernel) ?_ | refine PF.owes_yes (by first | rfl | assumption | go_simp) ?_)) ?_
      clear hK K
      try simp only [Act.put, pz0, pz1, pz2]
      refine PF.pf_done (by kernel_rfl) ?_
      exact ⟨rfl, hS', HM6.out.trans hM'⟩
    -- number 5 first
    · refine PF.step_one rfl (by kernel_rfl) (fun K hK => ?_)
      go_simp
      refine hK _ _ (by repeat (first | exact PF.owes_nil | refine PF.owes_left ?_ | refine PF.owes_no (by decide +kernel) ?_ | refine PF.owes_yes (by first | rfl | assumption | go_simp) ?_)) ?_
      clear hK K
      try simp only [Act.put, pz0, pz1, pz2]
      refine PF.pf_take0 6 (by kernel_rfl) rfl (fun _ _ _ _ _ h => h) (by kernel_rfl) (fun u => by go_simp; try rfl) ?_
      try simp only [Act.put, pz0, pz1, pz2]
      refine PF.pf_take0 7 (by kernel_rfl) rfl (fun _ _ _ _ _ h => h) (by kernel_rfl) (fun u => by go_simp; try rfl) ?_
      try simp only [Act.put, pz0, pz1, pz2]
      refine PF.pf_exec 4 (by kernel_rfl) rfl (by kernel_rfl) (fun K hK => ?_)
      go_simp
      refine hK _ _ (by repeat (first | exact PF.owes_nil | refine PF.owes_left ?_ | refine PF.owes_no (by decide +kernel) ?_ | refine PF.owes_yes (by first | rfl | assumption | go_simp) ?_)) ?_
      clear hK K
      try simp only [Act.put, pz0, pz1, pz2]
      refine PF.pf_exec 8 (by kernel_rfl) rfl (by kernel_rfl) (fun K hK => ?_)
      go_simp
      refine hc.mono ?_
      rintro e w' ⟨rfl, hS', hM'⟩
      refine hK _ _ (by repeat (first | exact PF.owes_nil | refine PF.owes_left ?_ | refine PF.owes_no (by decide +kernel) ?_ | refine PF.owes_yes (by first | rfl | assumption | go_simp) ?_)) ?_
      clear hK K
      try simp only [Act.put, pz0, pz1, pz2]
      refine PF.pf_done (by kernel_rfl) ?_
      exact ⟨rfl, hS', HM6.out.trans hM'⟩
  rintro w7 ⟨hS', hM'⟩
  have hz' : (gNum cs S6 54).1.length ≤ 1080 := by
    have h1 := gNums_len (os := [54]) (fun o' ho' => HTN.out o' (by simp at ho'; subst ho'; decide)) S6
    have h2 := HL6.out
    try simp only [List.length_cons, List.length_nil, List.foldl_cons, List.foldl_nil] at h1
    try simp only [List.foldl_cons, List.foldl_nil]
    omega
  obtain ⟨S7, e'⟩ : ∃ S, S = gNum cs S6 54 := ⟨_, rfl⟩
  rw [← e'] at hS' hz'
  have HS7 := Lib.hid hS'
  have HM7 := Lib.hid hM'
  have HL7 := Lib.hid hz'
  have HE7 := Lib.hid e'
  clear hS' hM' hz' e' 
  go_wp2_with fail
  have HM8 := Lib.hid (HM01.out _ HM7.out)
  have HS8 : Hid (WSt w7 K xb wb pb T cs S7) := HS7.out.less HK01.out HS0.out.kp
  have hfin : replyW cs S0 = S7 := by unfold replyW; rw [HE7.out, HE6.out, HE5.out, HE4.out, HE3.out, HE2.out, HE1.out]
  have hc := wtextm_any (HS8.out.same (Below.refl _ _).drew) 55 A b c HO.out ((HB.out _ HM8.out).below (Below.refl _ _).drew) hbl (Nat.le_trans HL7.out (by omega))
  unfold pc at hc
  refine PF.pf_begin (by kernel_rfl) ?_
  refine PF.pf_take0 0 (by kernel_rfl) rfl (fun _ _ _ _ _ h => h) (by kernel_rfl) (fun u => by go_simp; try rfl) ?_
  try simp only [Act.put, pz0, pz1, pz2]
  refine PF.pf_take0 1 (by kernel_rfl) rfl (fun _ _ _ _ _ h => h) (by kernel_rfl) (fun u => by go_simp; try rfl) ?_
  try simp only [Act.put, pz0, pz1, pz2]
  refine PF.pf_take0 2 (by kernel_rfl) rfl (fun _ _ _ _ _ h => h) (by kernel_rfl) (fun u => by go_simp; try rfl) ?_
  try simp only [Act.put, pz0, pz1, pz2]
  refine PF.pf_take0 3 (by kernel_rfl) rfl (fun _ _ _ _ _ h => h) (by kernel_rfl) (fun u => by go_simp; try rfl) ?_
  try simp only [Act.put, pz0, pz1, pz2]
  refine PF.pf_exec 4 (by kernel_rfl) rfl (by kernel_rfl) (fun K hK => ?_)
  go_simp
  refine hK _ _ (by repeat (first | exact PF.owes_nil | refine PF.owes_left ?_ | refine PF.owes_no (by decide +kernel) ?_ | refine PF.owes_yes (by first | rfl | assumption | go_simp) ?_)) ?_
  clear hK K
  try simp only [Act.put, pz0, pz1, pz2]
  refine PF.pf_take0 5 (by kernel_rfl) rfl (fun _ _ _ _ _ h => h) (by kernel_rfl) (fun u => by go_simp; try rfl) ?_
  try simp only [Act.put, pz0, pz1, pz2]
  refine PF.pf_take0 6 (by kernel_rfl) rfl (fun _ _ _ _ _ h => h) (by kernel_rfl) (fun u => by go_simp; try rfl) ?_
  try simp only [Act.put, pz0, pz1, pz2]
  refine PF.pf_exec 7 (by kernel_rfl) rfl (by kernel_rfl) (fun K hK => ?_)
  go_simp
  refine hc.mono ?_
  rintro e wt ⟨rfl, hS', hM'⟩
  refine hK _ _ (by repeat (first | exact PF.owes_nil | refine PF.owes_left ?_ | refine PF.owes_no (by decide +kernel) ?_ | refine PF.owes_yes (by first | rfl | assumption | go_simp) ?_)) ?_
  clear hK K
  try simp only [Act.put, pz0, pz1, pz2]
  refine PF.pf_done (by kernel_rfl) ?_
  have hMt := HM8.out.trans (((Mod.refl _ w7).drew).trans hM')
  have HS' := Lib.hid hS'
  have HMt := Lib.hid hMt
  have HFI := Lib.hid hfin
  clear hc hS' hM' hMt hfin
  go_wp2_with fail
  go_ret
  rw [HFI.out]
  exact ⟨rfl, HS'.out, HMt.out⟩

end Go.Proofs.YtdckdjkkaangmaaDoor
