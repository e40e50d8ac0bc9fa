/- The writing walker over the fields. -/
import Derived.Test.YtdckdjkkaangmaaDoorWireM
namespace Go.Proofs.YtdckdjkkaangmaaDoor
set_option linter.unusedVariables false
set_option linter.unusedSimpArgs false
set_option maxRecDepth 100000
open Go.RowKit

set_option maxHeartbeats 16000000 in
theorem wfields_req {w0 : World} {K : Nat → Prop} {xb wb pb : Nat} {T : TypeId} {cs : Array Value} {S0 : WS} (h : WSt w0 K xb wb pb T cs S0) (hk : cs[0]? = some (.int .i64 3)) (ht : PkT cs) (hl : S0.1.length ≤ 1000) {A : Option Addr} {b : List UInt8} {c : Nat} (ho : cs[27]? = some (.slice A b.length c)) (hb : ∀ w', Mod (fun b => ¬ K b) w0 w' → Bytes w' A b) (hbl : b.length ≤ 1000000) {A2 : Option Addr} {xs : List Nat} {c2 : Nat} (ho2 : cs[28]? = some (.slice A2 xs.length c2)) (hr2 : ∀ w', Mod (fun b => ¬ K b) w0 w' → Reads w' 1 A2 xs.length (xs.map u64v)) (hx2 : ∀ x ∈ xs, x < 18446744073709551616) (hB2 : ∀ ad, A2 = some ad → K ad.block) (hxl : xs.length ≤ 1000000) :
    Calls Tryd.prog 22 #[.iface 128 (.pointer (some ⟨xb, 0, none⟩)), pc pb 0] w0 fun e w' => e = .returned (.bool true) ∧ WSt w' K xb wb pb T cs (gList xs (gText b (reqW cs S0))) ∧ Mod (fun b => ¬ K b) w0 w' := by
  have hm1 := wr_ints xb
  have hm2 := wr_nums xb
  have hm3 := wr_text xb
  have hm4 := wr_list xb
  have k0 := h.pk.cell 0
  rw [hk] at k0
  have HS0 := Lib.hid h
  have HL0 : Hid (S0.1.length ≤ 1000) := hl
  have HM0 : Hid (Mod (fun b => ¬ K b) w0 w0) := Mod.refl _ _
  have HTI := Lib.hid ht.1
  have HTN := Lib.hid ht.2
  have HBL : Hid (∀ o ∈ [3, 9, 12, 15], IsBal cs o) := ht.bal
  have HP : Hid (∀ o ∈ [19, 29], IsPl cs o) := ht.pl
  have HB := Lib.hid hb
  have HO := Lib.hid ho
  have HO2 := Lib.hid ho2
  have HR2 := Lib.hid hr2
  have HBB := Lib.hid hB2
  clear ho2 hr2 hB2
  clear h hk ht hl hb ho
  unfold pc
  go_enter Tryd.func22, Tryd.ntmps22
  go_wp2_with fail
  clear k0
  have hc := wplace_any HS0.out 19 (HP.out 19 (by decide)) (Nat.le_trans HL0.out (by omega))
  unfold pc at hc
  refine hc.mono ?_
  rintro e w1 ⟨rfl, hS', hM0⟩
  have hM' := HM0.out.trans hM0
  clear hM0 hc
  have hz' : (gPl cs S0 19).1.length ≤ 1020 := by
    have h1 := gPl_len (HP.out 19 (by decide)) S0
    have h2 := HL0.out
    try simp only [List.length_cons, List.length_nil, List.foldl_cons, List.foldl_nil] at h1
    try simp only [List.foldl_cons, List.foldl_nil]
    omega
  obtain ⟨S1, e'⟩ : ∃ S, S = gPl cs S0 19 := ⟨_, rfl⟩
  rw [← e'] at hS' hz'
  have HS1 := Lib.hid hS'
  have HM1 := Lib.hid hM'
  have HL1 := Lib.hid hz'
  have HE1 := Lib.hid e'
  clear hS' hM' hz' e' 
  go_wp2_with fail
  apply share (S := fun w' => WSt w' K xb wb pb T cs (gInt cs S1 21) ∧ Mod (fun b => ¬ K b) w0 w')
  case walk =>
    have hc := wints_var HS1.out [21] (by simp) (fun o' ho' => HTI.out o' (by simp at ho'; subst ho'; decide)) (below_var w1 _) (by show _ < (w1.alloc _).heap.size; simp) (ptrs_row [21] 109) (Nat.le_trans HL1.out (by omega))
    simp only [List.map_cons, List.map_nil, List.length_cons, List.length_nil, List.foldl_cons, List.foldl_nil, pc, Nat.zero_add, Nat.reduceAdd] at hc
    refine PF.pf_begin (by kernel_rfl) ?_
    refine PF.pf_take0 0 (by kernel_rfl) rfl (fun _ _ _ _ _ h => h) (by kernel_rfl) (fun u => by go_simp; try rfl) ?_
    try simp only [Act.put, pz0, pz1, pz2]
    refine PF.pf_take0 1 (by kernel_rfl) rfl (fun _ _ _ _ _ h => h) (by kernel_rfl) (fun u => by go_simp; try rfl) ?_
    try simp only [Act.put, pz0, pz1, pz2]
    refine PF.pf_take0 2 (by kernel_rfl) rfl (fun _ _ _ _ _ h => h) (by kernel_rfl) (fun u => by go_simp; try rfl) ?_
    try simp only [Act.put, pz0, pz1, pz2]
    refine PF.pf_take0 3 (by kernel_rfl) rfl (fun _ _ _ _ _ h => h) (by kernel_rfl) (fun u => by go_simp; try rfl) ?_
    try simp only [Act.put, pz0, pz1, pz2]
    refine PF.pf_fork [4, 5] (by kernel_rfl) rfl (PF.fork_cons ?_ (PF.fork_cons ?_ PF.fork_nil))
    -- number 4 first
    · refine PF.step_one rfl (by kernel_rfl) (fun K hK => ?_)
      go_simp
      refine hK _ _ (by repeat (first | exact PF.owes_nil | refine PF.owes_left ?_ | refine PF.owes_no (by decide +kernel) ?_ | refine PF.owes_yes (by first | rfl | assumption | go_simp) ?_)) ?_
      clear hK K
      try simp only [Act.put, pz0, pz1, pz2]
      refine PF.pf_exec 5 (by kernel_rfl) rfl (by kernel_rfl) (fun K hK => ?_)
      go_simp
      refine hK _ _ (by repeat (first | exact PF.owes_nil | refine PF.owes_left ?_ | refine PF.owes_no (by decide +kernel) ?_ | refine PF.owes_yes (by first | rfl | assumption | go_simp) ?_)) ?_
      clear hK K
      try simp only [Act.put, pz0, pz1, pz2]
      refine PF.pf_take0 6 (by kernel_rfl) rfl (fun _ _ _ _ _ h => h) (by kernel_rfl) (fun u => by go_simp; try rfl) ?_
      try simp only [Act.put, pz0, pz1, pz2]
      refine PF.pf_take0 7 (by kernel_rfl) rfl (fun _ _ _ _ _ h => h) (by kernel_rfl) (fun u => by go_simp; try rfl) ?_
      try simp only [Act.put, pz0, pz1, pz2]
      refine PF.pf_exec 8 (by kernel_rfl) rfl (by kernel_rfl) (fun K hK => ?_)
      go_simp
      refine hc.mono ?_
      rintro e w' ⟨rfl, hS', hM'⟩
      refine hK _ _ (by repeat (first | exact PF.owes_nil | refine PF.owes_left ?_ | refine PF.owes_no (by decide +kernel) ?_ | refine PF.owes_yes (by first | rfl | assumption | go_simp) ?_)) ?_
      clear hK K
      try simp only [Act.put, pz0, pz1, pz2]
      refine PF.pf_done (by kernel_rfl) ?_
      exact ⟨rfl, hS', HM1.out.trans hM'⟩
    -- number 5 first
    · refine PF.step_one rfl (by kernel_rfl) (fun K hK => ?_)
      go_simp
      refine hK _ _ (by repeat (first | exact PF.owes_nil | refine PF.owes_left ?_ | refine PF.owes_no (by decide +kernel) ?_ | refine PF.owes_yes (by first | rfl | assumption | go_simp) ?_)) ?_
      clear hK K
      try simp only [Act.put, pz0, pz1, pz2]
      refine PF.pf_take0 6 (by kernel_rfl) rfl (fun _ _ _ _ _ h => h) (by kernel_rfl) (fun u => by go_simp; try rfl) ?_
      try simp only [Act.put, pz0, pz1, pz2]
      refine PF.pf_take0 7 (by kernel_rfl) rfl (fun _ _ _ _ _ h => h) (by kernel_rfl) (fun u => by go_simp; try rfl) ?_
      try simp only [Act.put, pz0, pz1, pz2]
      refine PF.pf_exec 4 (by kernel_rfl) rfl (by kernel_rfl) (fun K hK => ?_)
      go_simp
      refine hK _ _ (by repeat (first | exact PF.owes_nil | refine PF.owes_left ?_ | refine PF.owes_no (by decide +kernel) ?_ | refine PF.owes_yes (by first | rfl | assumption | go_simp) ?_)) ?_
      clear hK K
      try simp only [Act.put, pz0, pz1, pz2]
      refine PF.pf_exec 8 (by kernel_rfl) rfl (by kernel_rfl) (fun K hK => ?_)
      go_simp
      refine hc.mono ?_
      rintro e w' ⟨rfl, hS', hM'⟩
      refine hK _ _ (by repeat (first | exact PF.owes_nil | refine PF.owes_left ?_ | refine PF.owes_no (by decide +kernel) ?_ | refine PF.owes_yes (by first | rfl | assumption | go_simp) ?_)) ?_
      clear hK K
      try simp only [Act.put, pz0, pz1, pz2]
      refine PF.pf_done (by kernel_rfl) ?_
      exact ⟨rfl, hS', HM1.out.trans hM'⟩
  rintro w2 ⟨hS', hM'⟩
  have hz' : (gInt cs S1 21).1.length ≤ 1030 := by
    have h1 := gInts_len (os := [21]) (fun o' ho' => HTI.out o' (by simp at ho'; subst ho'; decide)) S1
    have h2 := HL1.out
    try simp only [List.length_cons, List.length_nil, List.foldl_cons, List.foldl_nil] at h1
    try simp only [List.foldl_cons, List.foldl_nil]
    omega
  obtain ⟨S2, e'⟩ : ∃ S, S = gInt cs S1 21 := ⟨_, rfl⟩
  rw [← e'] at hS' hz'
  have HS2 := Lib.hid hS'
  have HM2 := Lib.hid hM'
  have HL2 := Lib.hid hz'
  have HE2 := Lib.hid e'
  clear hS' hM' hz' e' 
  go_wp2_with fail
  apply share (S := fun w' => WSt w' K xb wb pb T cs ([22, 23, 24, 25].foldl (gNum cs) S2) ∧ Mod (fun b => ¬ K b) w0 w')
  case walk =>
    have hc := wnums_var HS2.out [22, 23, 24, 25] (by simp) (fun o' ho' => HTN.out o' (by simp at ho'; rcases ho' with rfl | rfl | rfl | rfl <;> decide)) (below_var w2 _) (by show _ < (w2.alloc _).heap.size; simp) (ptrs_row [22, 23, 24, 25] 118) (Nat.le_trans HL2.out (by omega))
    simp only [List.map_cons, List.map_nil, List.length_cons, List.length_nil, List.foldl_cons, List.foldl_nil, pc, Nat.zero_add, Nat.reduceAdd] at hc
    refine PF.pf_begin (by kernel_rfl) ?_
    refine PF.pf_take0 0 (by kernel_rfl) rfl (fun _ _ _ _ _ h => h) (by kernel_rfl) (fun u => by go_simp; try rfl) ?_
    try simp only [Act.put, pz0, pz1, pz2]
    refine PF.pf_take0 1 (by kernel_rfl) rfl (fun _ _ _ _ _ h => h) (by kernel_rfl) (fun u => by go_simp; try rfl) ?_
    try simp only [Act.put, pz0, pz1, pz2]
    refine PF.pf_take0 2 (by kernel_rfl) rfl (fun _ _ _ _ _ h => h) (by kernel_rfl) (fun u => by go_simp; try rfl) ?_
    try simp only [Act.put, pz0, pz1, pz2]
    refine PF.pf_take0 3 (by kernel_rfl) rfl (fun _ _ _ _ _ h => h) (by kernel_rfl) (fun u => by go_simp; try rfl) ?_
    try simp only [Act.put, pz0, pz1, pz2]
    refine PF.pf_take0 4 (by kernel_rfl) rfl (fun _ _ _ _ _ h => h) (by kernel_rfl) (fun u => by go_simp; try rfl) ?_
    try simp only [Act.put, pz0, pz1, pz2]
    refine PF.pf_take0 5 (by kernel_rfl) rfl (fun _ _ _ _ _ h => h) (by kernel_rfl) (fun u => by go_simp; try rfl) ?_
    try simp only [Act.put, pz0, pz1, pz2]
    refine PF.pf_take0 6 (by kernel_rfl) rfl (fun _ _ _ _ _ h => h) (by kernel_rfl) (fun u => by go_simp; try rfl) ?_
    try simp only [Act.put, pz0, pz1, pz2]
    refine PF.pf_take0 7 (by kernel_rfl) rfl (fun _ _ _ _ _ h => h) (by kernel_rfl) (fun u => by go_simp; try rfl) ?_
    try simp only [Act.put, pz0, pz1, pz2]
    refine PF.pf_take0 8 (by kernel_rfl) rfl (fun _ _ _ _ _ h => h) (by kernel_rfl) (fun u => by go_simp; try rfl) ?_
    try simp only [Act.put, pz0, pz1, pz2]
    refine PF.pf_take0 9 (by kernel_rfl) rfl (fun _ _ _ _ _ h => h) (by kernel_rfl) (fun u => by go_simp; try rfl) ?_
    try simp only [Act.put, pz0, pz1, pz2]
    refine PF.pf_take0 10 (by kernel_rfl) rfl (fun _ _ _ _ _ h => h) (by kernel_rfl) (fun u => by go_simp; try rfl) ?_
    try simp only [Act.put, pz0, pz1, pz2]
    refine PF.pf_take0 11 (by kernel_rfl) rfl (fun _ _ _ _ _ h => h) (by kernel_rfl) (fun u => by go_simp; try rfl) ?_
    try simp only [Act.put, pz0, pz1, pz2]
    refine PF.pf_take0 12 (by kernel_rfl) rfl (fun _ _ _ _ _ h => h) (by kernel_rfl) (fun u => by go_simp; try rfl) ?_
    try simp only [Act.put, pz0, pz1, pz2]
    refine PF.pf_fork [13, 14] (by kernel_rfl) rfl (PF.fork_cons ?_ (PF.fork_cons ?_ PF.fork_nil))
    -- number 13 first
    · refine PF.step_one rfl (by kernel_rfl) (fun K hK => ?_)
      go_simp
      refine hK _ _ (by repeat (first | exact PF.owes_nil | refine PF.owes_left ?_ | refine PF.owes_no (by decide +kernel) ?_ | refine PF.owes_yes (by first | rfl | assumption | go_simp) ?_)) ?_
      clear hK K
      try simp only [Act.put, pz0, pz1, pz2]
      refine PF.pf_exec 14 (by kernel_rfl) rfl (by kernel_rfl) (fun K hK => ?_)
      go_simp
      refine hK _ _ (by repeat (first | exact PF.owes_nil | refine PF.owes_left ?_ | refine PF.owes_no (by decide +kernel) ?_ | refine PF.owes_yes (by first | rfl | assumption | go_simp) ?_)) ?_
      clear hK K
      try simp only [Act.put, pz0, pz1, pz2]
      refine PF.pf_take0 15 (by kernel_rfl) rfl (fun _ _ _ _ _ h => h) (by kernel_rfl) (fun u => by go_simp; try rfl) ?_
      try simp only [Act.put, pz0, pz1, pz2]
      refine PF.pf_take0 16 (by kernel_rfl) rfl (fun _ _ _ _ _ h => h) (by kernel_rfl) (fun u => by go_simp; try rfl) ?_
      try simp only [Act.put, pz0, pz1, pz2]
      refine PF.pf_exec 17 (by kernel_rfl) rfl (by kernel_rfl) (fun K hK => ?_)
      go_simp
      refine hc.mono ?_
      rintro e w' ⟨rfl, hS', hM'⟩
      refine hK _ _ (by repeat (first | exact PF.owes_nil | refine PF.owes_left ?_ | refine PF.owes_no (by decide +kernel) ?_ | refine PF.owes_yes (by first | rfl | assumption | go_simp) ?_)) ?_
      clear hK K
      try simp only [Act.put, pz0, pz1, pz2]
      refine PF.pf_done (by kernel_rfl) ?_
      exact ⟨rfl, hS', HM2.out.trans hM'⟩
    -- number 14 first
    · refine PF.step_one rfl (by kernel_rfl) (fun K hK => ?_)
      go_simp
      refine hK _ _ (by repeat (first | exact PF.owes_nil | refine PF.owes_left ?_ | refine PF.owes_no (by decide +kernel) ?_ | refine PF.owes_yes (by first | rfl | assumption | go_simp) ?_)) ?_
      clear hK K
      try simp only [Act.put, pz0, pz1, pz2]
      refine PF.pf_take0 15 (by kernel_rfl) rfl (fun _ _ _ _ _ h => h) (by kernel_rfl) (fun u => by go_simp; try rfl) ?_
      try simp only [Act.put, pz0, pz1, pz2]
      refine PF.pf_take0 16 (by kernel_rfl) rfl (fun _ _ _ _ _ h => h) (by kernel_rfl) (fun u => by go_simp; try rfl) ?_
      try simp only [Act.put, pz0, pz1, pz2]
      refine PF.pf_exec 13 (by kernel_rfl) rfl (by kernel_rfl) (fun K hK => ?_)
      go_simp
      refine hK _ _ (by repeat (first | exact PF.owes_nil | refine PF.owes_left ?_ | refine PF.owes_no (by decide +kernel) ?_ | refine PF.owes_yes (by first | rfl | assumption | go_simp) ?_)) ?_
      clear hK K
      try simp only [Act.put, pz0, pz1, pz2]
      refine PF.pf_exec 17 (by kernel_rfl) rfl (by kernel_rfl) (fun K hK => ?_)
      go_simp
      refine hc.mono ?_
      rintro e w' ⟨rfl, hS', hM'⟩
      refine hK _ _ (by repeat (first | exact PF.owes_nil | refine PF.owes_left ?_ | refine PF.owes_no (by decide +kernel) ?_ | refine PF.owes_yes (by first | rfl | assumption | go_simp) ?_)) ?_
      clear hK K
      try simp only [Act.put, pz0, pz1, pz2]
      refine PF.pf_done (by kernel_rfl) ?_
      exact ⟨rfl, hS', HM2.out.trans hM'⟩
  rintro w3 ⟨hS', hM'⟩
  have hz' : ([22, 23, 24, 25].foldl (gNum cs) S2).1.length ≤ 1070 := by
    have h1 := gNums_len (os := [22, 23, 24, 25]) (fun o' ho' => HTN.out o' (by simp at ho'; rcases ho' with rfl | rfl | rfl | rfl <;> decide)) S2
    have h2 := HL2.out
    try simp only [List.length_cons, List.length_nil, List.foldl_cons, List.foldl_nil] at h1
    try simp only [List.foldl_cons, List.foldl_nil]
    omega
  obtain ⟨S3, e'⟩ : ∃ S, S = [22, 23, 24, 25].foldl (gNum cs) S2 := ⟨_, rfl⟩
  rw [← e'] at hS' hz'
  have HS3 := Lib.hid hS'
  have HM3 := Lib.hid hM'
  have HL3 := Lib.hid hz'
  have HE3 := Lib.hid e'
  clear hS' hM' hz' e' 
  go_wp2_with fail
  apply share (S := fun w' => WSt w' K xb wb pb T cs (gInt cs S3 26) ∧ Mod (fun b => ¬ K b) w0 w')
  case walk =>
    have hc := wints_var HS3.out [26] (by simp) (fun o' ho' => HTI.out o' (by simp at ho'; subst ho'; decide)) (below_var w3 _) (by show _ < (w3.alloc _).heap.size; simp) (ptrs_row [26] 109) (Nat.le_trans HL3.out (by omega))
    simp only [List.map_cons, List.map_nil, List.length_cons, List.length_nil, List.foldl_cons, List.foldl_nil, pc, Nat.zero_add, Nat.reduceAdd] at hc
    refine PF.pf_begin (by kernel_rfl) ?_
    refine PF.pf_take0 0 (by kernel_rfl) rfl (fun _ _ _ _ _ h => h) (by kernel_rfl) (fun u => by go_simp; try rfl) ?_
    try simp only [Act.put, pz0, pz1, pz2]
    refine PF.pf_take0 1 (by kernel_rfl) rfl (fun _ _ _ _ _ h => h) (by kernel_rfl) (fun u => by go_simp; try rfl) ?_
    try simp only [Act.put, pz0, pz1, pz2]
    refine PF.pf_take0 2 (by kernel_rfl) rfl (fun _ _ _ _ _ h => h) (by kernel_rfl) (fun u => by go_simp; try rfl) ?_
    try simp only [Act.put, pz0, pz1, pz2]
    refine PF.pf_take0 3 (by kernel_rfl) rfl (fun _ _ _ _ _ h => h) (by kernel_rfl) (fun u => by go_simp; try rfl) ?_
    try simp only [Act.put, pz0, pz1, pz2]
    refine PF.pf_fork [4, 5] (by kernel_rfl) rfl (PF.fork_cons ?_ (PF.fork_cons ?_ PF.fork_nil))
    -- number 4 first
    · refine PF.step_one rfl (by kernel_rfl) (fun K hK => ?_)
      go_simp
      refine hK _ _ (by repeat (first | exact PF.owes_nil | refine PF.owes_left ?_ | refine PF.owes_no (by decide +kernel) ?_ | refine PF.owes_yes (by first | rfl | assumption | go_simp) ?_)) ?_
      clear hK K
      try simp only [Act.put, pz0, pz1, pz2]
      refine PF.pf_exec 5 (by kernel_rfl) rfl (by kernel_rfl) (fun K hK => ?_)
      go_simp
      refine hK _ _ (by repeat (first | exact PF.owes_nil | refine PF.owes_left ?_ | refine PF.owes_no (by decide +kernel) ?_ | refine PF.owes_yes (by first | rfl | assumption | go_simp) ?_)) ?_
      clear hK K
      try simp only [Act.put, pz0, pz1, pz2]
      refine PF.pf_take0 6 (by kernel_rfl) rfl (fun _ _ _ _ _ h => h) (by kernel_rfl) (fun u => by go_simp; try rfl) ?_
      try simp only [Act.put, pz0, pz1, pz2]
      refine PF.pf_take0 7 (by kernel_rfl) rfl (fun _ _ _ _ _ h => h) (by kernel_rfl) (fun u => by go_simp; try rfl) ?_
      try simp only [Act.put, pz0, pz1, pz2]
      refine PF.pf_exec 8 (by kernel_rfl) rfl (by kernel_rfl) (fun K hK => ?_)
      go_simp
      refine hc.mono ?_
      rintro e w' ⟨rfl, hS', hM'⟩
      refine hK _ _ (by repeat (first | exact PF.owes_nil | refine PF.owes_left ?_ | refine PF.owes_no (by decide +kernel) ?_ | refine PF.owes_yes (by first | rfl | assumption | go_simp) ?_)) ?_
      clear hK K
      try simp only [Act.put, pz0, pz1, pz2]
      refine PF.pf_done (by kernel_rfl) ?_
      exact ⟨rfl, hS', HM3.out.trans hM'⟩
    -- number 5 first
    · refine PF.step_one rfl (by kernel_rfl) (fun K hK => ?_)
      go_simp
      refine hK _ _ (by repeat (first | exact PF.owes_nil | refine PF.owes_left ?_ | refine PF.owes_no (by decide +kernel) ?_ | refine PF.owes_yes (by first | rfl | assumption | go_simp) ?_)) ?_
      clear hK K
      try simp only [Act.put, pz0, pz1, pz2]
      refine PF.pf_take0 6 (by kernel_rfl) rfl (fun _ _ _ _ _ h => h) (by kernel_rfl) (fun u => by go_simp; try rfl) ?_
      try simp only [Act.put, pz0, pz1, pz2]
      refine PF.pf_take0 7 (by kernel_rfl) rfl (fun _ _ _ _ _ h => h) (by kernel_rfl) (fun u => by go_simp; try rfl) ?_
      try simp only [Act.put, pz0, pz1, pz2]
      refine PF.pf_exec 4 (by kernel_rfl) rfl (by kernel_rfl) (fun K hK => ?_)
      go_simp
      refine hK _ _ (by repeat (first | exact PF.owes_nil | refine PF.owes_left ?_ | refine PF.owes_no (by decide +kernel) ?_ | refine PF.owes_yes (by first | rfl | assumption | go_simp) ?_)) ?_
      clear hK K
      try simp only [Act.put, pz0, pz1, pz2]
      refine PF.pf_exec 8 (by kernel_rfl) rfl (by kernel_rfl) (fun K hK => ?_)
      go_simp
      refine hc.mono ?_
      rintro e w' ⟨rfl, hS', hM'⟩
      refine hK _ _ (by repeat (first | exact PF.owes_nil | refine PF.owes_left ?_ | refine PF.owes_no (by decide +kernel) ?_ | refine PF.owes_yes (by first | rfl | assumption | go_simp) ?_)) ?_
      clear hK K
      try simp only [Act.put, pz0, pz1, pz2]
      refine PF.pf_done (by kernel_rfl) ?_
      exact ⟨rfl, hS', HM3.out.trans hM'⟩
  rintro w4 ⟨hS', hM'⟩
  have hz' : (gInt cs S3 26).1.length ≤ 1080 := by
    have h1 := gInts_len (os := [26]) (fun o' ho' => HTI.out o' (by simp at ho'; subst ho'; decide)) S3
    have h2 := HL3.out
    try simp only [List.length_cons, List.length_nil, List.foldl_cons, List.foldl_nil] at h1
    try simp only [List.foldl_cons, List.foldl_nil]
    omega
  obtain ⟨S4, e'⟩ : ∃ S, S = gInt cs S3 26 := ⟨_, rfl⟩
  rw [← e'] at hS' hz'
  have HS4 := Lib.hid hS'
  have HM4 := Lib.hid hM'
  have HL4 := Lib.hid hz'
  have HE4 := Lib.hid e'
  clear hS' hM' hz' e' 
  go_wp2_with fail
  have hfin : reqW cs S0 = S4 := by unfold reqW; rw [HE4.out, HE3.out, HE2.out, HE1.out]
  have hc := wtextm_any (HS4.out.same (Below.refl _ _).drew) 27 A b c HO.out ((HB.out _ HM4.out).below (Below.refl _ _).drew) hbl (Nat.le_trans HL4.out (by omega))
  unfold pc at hc
  refine PF.pf_begin (by kernel_rfl) ?_
  refine PF.pf_take0 0 (by kernel_rfl) rfl (fun _ _ _ _ _ h => h) (by kernel_rfl) (fun u => by go_simp; try rfl) ?_
  try simp only [Act.put, pz0, pz1, pz2]
  refine PF.pf_take0 1 (by kernel_rfl) rfl (fun _ _ _ _ _ h => h) (by kernel_rfl) (fun u => by go_simp; try rfl) ?_
  try simp only [Act.put, pz0, pz1, pz2]
  refine PF.pf_take0 2 (by kernel_rfl) rfl (fun _ _ _ _ _ h => h) (by kernel_rfl) (fun u => by go_simp; try rfl) ?_
  try simp only [Act.put, pz0, pz1, pz2]
  refine PF.pf_take0 3 (by kernel_rfl) rfl (fun _ _ _ _ _ h => h) (by kernel_rfl) (fun u => by go_simp; try rfl) ?_
  try simp only [Act.put, pz0, pz1, pz2]
  refine PF.pf_exec 4 (by kernel_rfl) rfl (by kernel_rfl) (fun K hK => ?_)
  go_simp
  refine hK _ _ (by repeat (first | exact PF.owes_nil | refine PF.owes_left ?_ | refine PF.owes_no (by decide +kernel) ?_ | refine PF.owes_yes (by first | rfl | assumption | go_simp) ?_)) ?_
  clear hK K
  try simp only [Act.put, pz0, pz1, pz2]
  refine PF.pf_take0 5 (by kernel_rfl) rfl (fun _ _ _ _ _ h => h) (by kernel_rfl) (fun u => by go_simp; try rfl) ?_
  try simp only [Act.put, pz0, pz1, pz2]
  refine PF.pf_take0 6 (by kernel_rfl) rfl (fun _ _ _ _ _ h => h) (by kernel_rfl) (fun u => by go_simp; try rfl) ?_
  try simp only [Act.put, pz0, pz1, pz2]
  refine PF.pf_exec 7 (by kernel_rfl) rfl (by kernel_rfl) (fun K hK => ?_)
  go_simp
  refine hc.mono ?_
  rintro e wt ⟨rfl, hS', hM'⟩
  refine hK _ _ (by repeat (first | exact PF.owes_nil | refine PF.owes_left ?_ | refine PF.owes_no (by decide +kernel) ?_ | refine PF.owes_yes (by first | rfl | assumption | go_simp) ?_)) ?_
  clear hK K
  try simp only [Act.put, pz0, pz1, pz2]
  refine PF.pf_done (by kernel_rfl) ?_
  have hMt := HM4.out.trans (((Mod.refl _ w4).drew).trans hM')
  have hlt : (gText b S4).1.length ≤ 1002000 := by
    have h1 := HL4.out
    have h2 := short_len' b.length (by omega)
    simp only [gText, List.length_append]
    omega
  have hc2 := wlistm_any (hS'.same (Below.refl _ _).drew) 28 A2 xs c2 HO2.out (Reads.below (HR2.out _ hMt) (Below.refl _ wt).drew) hx2 HBB.out hxl (Nat.le_trans hlt (by omega))
  unfold pc at hc2
  have HMt := Lib.hid hMt
  have HFI := Lib.hid hfin
  clear hc hS' hM' hMt hfin hlt
  go_wp2_with fail
  refine PF.pf_begin (by kernel_rfl) ?_
  refine PF.pf_take0 0 (by kernel_rfl) rfl (fun _ _ _ _ _ h => h) (by kernel_rfl) (fun u => by go_simp; try rfl) ?_
  try simp only [Act.put, pz0, pz1, pz2]
  refine PF.pf_take0 1 (by kernel_rfl) rfl (fun _ _ _ _ _ h => h) (by kernel_rfl) (fun u => by go_simp; try rfl) ?_
  try simp only [Act.put, pz0, pz1, pz2]
  refine PF.pf_take0 2 (by kernel_rfl) rfl (fun _ _ _ _ _ h => h) (by kernel_rfl) (fun u => by go_simp; try rfl) ?_
  try simp only [Act.put, pz0, pz1, pz2]
  refine PF.pf_take0 3 (by kernel_rfl) rfl (fun _ _ _ _ _ h => h) (by kernel_rfl) (fun u => by go_simp; try rfl) ?_
  try simp only [Act.put, pz0, pz1, pz2]
  refine PF.pf_exec 4 (by kernel_rfl) rfl (by kernel_rfl) (fun K hK => ?_)
  go_simp
  refine hK _ _ (by repeat (first | exact PF.owes_nil | refine PF.owes_left ?_ | refine PF.owes_no (by decide +kernel) ?_ | refine PF.owes_yes (by first | rfl | assumption | go_simp) ?_)) ?_
  clear hK K
  try simp only [Act.put, pz0, pz1, pz2]
  refine PF.pf_take0 5 (by kernel_rfl) rfl (fun _ _ _ _ _ h => h) (by kernel_rfl) (fun u => by go_simp; try rfl) ?_
  try simp only [Act.put, pz0, pz1, pz2]
  refine PF.pf_take0 6 (by kernel_rfl) rfl (fun _ _ _ _ _ h => h) (by kernel_rfl) (fun u => by go_simp; try rfl) ?_
  try simp only [Act.put, pz0, pz1, pz2]
  refine PF.pf_exec 7 (by kernel_rfl) rfl (by kernel_rfl) (fun K hK => ?_)
  go_simp
  refine hc2.mono ?_
  rintro e wk ⟨rfl, hS2, hM2⟩
  refine hK _ _ (by repeat (first | exact PF.owes_nil | refine PF.owes_left ?_ | refine PF.owes_no (by decide +kernel) ?_ | refine PF.owes_yes (by first | rfl | assumption | go_simp) ?_)) ?_
  clear hK K
  try simp only [Act.put, pz0, pz1, pz2]
  refine PF.pf_done (by kernel_rfl) ?_
  have HS2 := Lib.hid hS2
  have HM2 := Lib.hid (HMt.out.trans (((Mod.refl _ wt).drew).trans hM2))
  clear hc2 hS2 hM2
  go_wp2_with fail
  go_ret
  rw [HFI.out]
  exact ⟨rfl, HS2.out, HM2.out⟩

set_option maxHeartbeats 16000000 in
theorem wfields_resp {w0 : World} {K : Nat → Prop} {xb wb pb : Nat} {T : TypeId} {cs : Array Value} {S0 : WS} (h : WSt w0 K xb wb pb T cs S0) (hk : cs[0]? = some (.int .i64 4)) (ht : PkT cs) (hl : S0.1.length ≤ 1000) {A : Option Addr} {b : List UInt8} {c : Nat} (ho : cs[37]? = some (.slice A b.length c)) (hb : ∀ w', Mod (fun b => ¬ K b) w0 w' → Bytes w' A b) (hbl : b.length ≤ 1000000) :
    Calls Tryd.prog 22 #[.iface 128 (.pointer (some ⟨xb, 0, none⟩)), pc pb 0] w0 fun e w' => e = .returned (.bool true) ∧ WSt w' K xb wb pb T cs (gText b (respW cs S0)) ∧ Mod (fun b => ¬ K b) w0 w' := by
  have hm1 := wr_ints xb
  have hm2 := wr_nums xb
  have hm3 := wr_text xb
  have hm4 := wr_list xb
  have k0 := h.pk.cell 0
  rw [hk] at k0
  have HS0 := Lib.hid h
  have HL0 : Hid (S0.1.length ≤ 1000) := hl
  have HM0 : Hid (Mod (fun b => ¬ K b) w0 w0) := Mod.refl _ _
  have HTI := Lib.hid ht.1
  have HTN := Lib.hid ht.2
  have HBL : Hid (∀ o ∈ [3, 9, 12, 15], IsBal cs o) := ht.bal
  have HP : Hid (∀ o ∈ [19, 29], IsPl cs o) := ht.pl
  have HB := Lib.hid hb
  have HO := Lib.hid ho
  clear h hk ht hl hb ho
  unfold pc
  go_enter Tryd.func22, Tryd.ntmps22
  go_wp2_with fail
  clear k0
  have hc := wplace_any HS0.out 29 (HP.out 29 (by decide)) (Nat.le_trans HL0.out (by omega))
  unfold pc at hc
  refine hc.mono ?_
  rintro e w1 ⟨rfl, hS', hM0⟩
  have hM' := HM0.out.trans hM0
  clear hM0 hc
  have hz' : (gPl cs S0 29).1.length ≤ 1020 := by
    have h1 := gPl_len (HP.out 29 (by decide)) S0
    have h2 := HL0.out
    try simp only [List.length_cons, List.length_nil, List.foldl_cons, List.foldl_nil] at h1
    try simp only [List.foldl_cons, List.foldl_nil]
    omega
  obtain ⟨S1, e'⟩ : ∃ S, S = gPl cs S0 29 := ⟨_, rfl⟩
  rw [← e'] at hS' hz'
  have HS1 := Lib.hid hS'
  have HM1 := Lib.hid hM'
  have HL1 := Lib.hid hz'
  have HE1 := Lib.hid e'
  clear hS' hM' hz' e' 
  go_wp2_with fail
  apply share (S := fun w' => WSt w' K xb wb pb T cs ([31, 32].foldl (gInt cs) S1) ∧ Mod (fun b => ¬ K b) w0 w')
  case walk =>
    have hc := wints_var HS1.out [31, 32] (by simp) (fun o' ho' => HTI.out o' (by simp at ho'; rcases ho' with rfl | rfl <;> decide)) (below_var w1 _) (by show _ < (w1.alloc _).heap.size; simp) (ptrs_row [31, 32] 109) (Nat.le_trans HL1.out (by omega))
    simp only [List.map_cons, List.map_nil, List.length_cons, List.length_nil, List.foldl_cons, List.foldl_nil, pc, Nat.zero_add, Nat.reduceAdd] at hc
    refine PF.pf_begin (by kernel_rfl) ?_
    refine PF.pf_take0 0 (by kernel_rfl) rfl (fun _ _ _ _ _ h => h) (by kernel_rfl) (fun u => by go_simp; try rfl) ?_
    try simp only [Act.put, pz0, pz1, pz2]
    refine PF.pf_take0 1 (by kernel_rfl) rfl (fun _ _ _ _ _ h => h) (by kernel_rfl) (fun u => by go_simp; try rfl) ?_
    try simp only [Act.put, pz0, pz1, pz2]
    refine PF.pf_take0 2 (by kernel_rfl) rfl (fun _ _ _ _ _ h => h) (by kernel_rfl) (fun u => by go_simp; try rfl) ?_
    try simp only [Act.put, pz0, pz1, pz2]
    refine PF.pf_take0 3 (by kernel_rfl) rfl (fun _ _ _ _ _ h => h) (by kernel_rfl) (fun u => by go_simp; try rfl) ?_
    try simp only [Act.put, pz0, pz1, pz2]
    refine PF.pf_take0 4 (by kernel_rfl) rfl (fun _ _ _ _ _ h => h) (by kernel_rfl) (fun u => by go_simp; try rfl) ?_
    try simp only [Act.put, pz0, pz1, pz2]
    refine PF.pf_take0 5 (by kernel_rfl) rfl (fun _ _ _ _ _ h => h) (by kernel_rfl) (fun u => by go_simp; try rfl) ?_
    try simp only [Act.put, pz0, pz1, pz2]
    refine PF.pf_take0 6 (by kernel_rfl) rfl (fun _ _ _ _ _ h => h) (by kernel_rfl) (fun u => by go_simp; try rfl) ?_
    try simp only [Act.put, pz0, pz1, pz2]
    refine PF.pf_fork [7, 8] (by kernel_rfl) rfl (PF.fork_cons ?_ (PF.fork_cons ?_ PF.fork_nil))
    -- number 7 first
    · refine PF.step_one rfl (by kernel_rfl) (fun K hK => ?_)
      go_simp
      refine hK _ _ (by repeat (first | exact PF.owes_nil | refine PF.owes_left ?_ | refine PF.owes_no (by decide +kernel) ?_ | refine PF.owes_yes (by first | rfl | assumption | go_simp) ?_)) ?_
      clear hK K
      try simp only [Act.put, pz0, pz1, pz2]
      refine PF.pf_exec 8 (by kernel_rfl) rfl (by kernel_rfl) (fun K hK => ?_)
      go_simp
      refine hK _ _ (by repeat (first | exact PF.owes_nil | refine PF.owes_left ?_ | refine PF.owes_no (by decide +kernel) ?_ | refine PF.owes_yes (by first | rfl | assumption | go_simp) ?_)) ?_
      clear hK K
      try simp only [Act.put, pz0, pz1, pz2]
      refine PF.pf_take0 9 (by kernel_rfl) rfl (fun _ _ _ _ _ h => h) (by kernel_rfl) (fun u => by go_simp; try rfl) ?_
      try simp only [Act.put, pz0, pz1, pz2]
      refine PF.pf_take0 10 (by kernel_rfl) rfl (fun _ _ _ _ _ h => h) (by kernel_rfl) (fun u => by go_simp; try rfl) ?_
      try simp only [Act.put, pz0, pz1, pz2]
      refine PF.pf_exec 11 (by kernel_rfl) rfl (by kernel_rfl) (fun K hK => ?_)
      go_simp
      refine hc.mono ?_
      rintro e w' ⟨rfl, hS', hM'⟩
      refine hK _ _ (by repeat (first | exact PF.owes_nil | refine PF.owes_left ?_ | refine PF.owes_no (by decide +kernel) ?_ | refine PF.owes_yes (by first | rfl | assumption | go_simp) ?_)) ?_
      clear hK K
      try simp only [Act.put, pz0, pz1, pz2]
      refine PF.pf_done (by kernel_rfl) ?_
      exact ⟨rfl, hS', HM1.out.trans hM'⟩
    -- number 8 first
    · refine PF.step_one rfl (by kernel_rfl) (fun K hK => ?_)
      go_simp
      refine hK _ _ (by repeat (first | exact PF.owes_nil | refine PF.owes_left ?_ | refine PF.owes_no (by decide +kernel) ?_ | refine PF.owes_yes (by first | rfl | assumption | go_simp) ?_)) ?_
      clear hK K
      try simp only [Act.put, pz0, pz1, pz2]
      refine PF.pf_take0 9 (by kernel_rfl) rfl (fun _ _ _ _ _ h => h) (by kernel_rfl) (fun u => by go_simp; try rfl) ?_
      try simp only [Act.put, pz0, pz1, pz2]
      refine PF.pf_take0 10 (by kernel_rfl) rfl (fun _ _ _ _ _ h => h) (by kernel_rfl) (fun u => by go_simp; try rfl) ?_
      try simp only [Act.put, pz0, pz1, pz2]
      refine PF.pf_exec 7 (by kernel_rfl) rfl (by kernel_rfl) (fun K hK => ?_)
      go_simp
      refine hK _ _ (by repeat (first | exact PF.owes_nil | refine PF.owes_left ?_ | refine PF.owes_no (by decide +kernel) ?_ | refine PF.owes_yes (by first | rfl | assumption | go_simp) ?_)) ?_
      clear hK K
      try simp only [Act.put, pz0, pz1, pz2]
      refine PF.pf_exec 11 (by kernel_rfl) rfl (by kernel_rfl) (fun K hK => ?_)
      go_simp
      refine hc.mono ?_
      rintro e w' ⟨rfl, hS', hM'⟩
      refine hK _ _ (by repeat (first | exact PF.owes_nil | refine PF.owes_left ?_ | refine PF.owes_no (by decide +kernel) ?_ | refine PF.owes_yes (by first | rfl | assumption | go_simp) ?_)) ?_
      clear hK K
      try simp only [Act.put, pz0, pz1, pz2]
      refine PF.pf_done (by kernel_rfl) ?_
      exact ⟨rfl, hS', HM1.out.trans hM'⟩
  rintro w2 ⟨hS', hM'⟩
  have hz' : ([31, 32].foldl (gInt cs) S1).1.length ≤ 1040 := by
    have h1 := gInts_len (os := [31, 32]) (fun o' ho' => HTI.out o' (by simp at ho'; rcases ho' with rfl | rfl <;> decide)) S1
    have h2 := HL1.out
    try simp only [List.length_cons, List.length_nil, List.foldl_cons, List.foldl_nil] at h1
    try simp only [List.foldl_cons, List.foldl_nil]
    omega
  obtain ⟨S2, e'⟩ : ∃ S, S = [31, 32].foldl (gInt cs) S1 := ⟨_, rfl⟩
  rw [← e'] at hS' hz'
  have HS2 := Lib.hid hS'
  have HM2 := Lib.hid hM'
  have HL2 := Lib.hid hz'
  have HE2 := Lib.hid e'
  clear hS' hM' hz' e' 
  go_wp2_with fail
  apply share (S := fun w' => WSt w' K xb wb pb T cs ([33, 34, 35, 36].foldl (gNum cs) S2) ∧ Mod (fun b => ¬ K b) w0 w')
  case walk =>
    have hc := wnums_var HS2.out [33, 34, 35, 36] (by simp) (fun o' ho' => HTN.out o' (by simp at ho'; rcases ho' with rfl | rfl | rfl | rfl <;> decide)) (below_var w2 _) (by show _ < (w2.alloc _).heap.size; simp) (ptrs_row [33, 34, 35, 36] 118) (Nat.le_trans HL2.out (by omega))
    simp only [List.map_cons, List.map_nil, List.length_cons, List.length_nil, List.foldl_cons, List.foldl_nil, pc, Nat.zero_add, Nat.reduceAdd] at hc
    refine PF.pf_begin (by kernel_rfl) ?_
    refine PF.pf_take0 0 (by kernel_rfl) rfl (fun _ _ _ _ _ h => h) (by kernel_rfl) (fun u => by go_simp; try rfl) ?_
    try simp only [Act.put, pz0, pz1, pz2]
    refine PF.pf_take0 1 (by kernel_rfl) rfl (fun _ _ _ _ _ h => h) (by kernel_rfl) (fun u => by go_simp; try rfl) ?_
    try simp only [Act.put, pz0, pz1, pz2]
    refine PF.pf_take0 2 (by kernel_rfl) rfl (fun _ _ _ _ _ h => h) (by kernel_rfl) (fun u => by go_simp; try rfl) ?_
    try simp only [Act.put, pz0, pz1, pz2]
    refine PF.pf_take0 3 (by kernel_rfl) rfl (fun _ _ _ _ _ h => h) (by kernel_rfl) (fun u => by go_simp; try rfl) ?_
    try simp only [Act.put, pz0, pz1, pz2]
    refine PF.pf_take0 4 (by kernel_rfl) rfl (fun _ _ _ _ _ h => h) (by kernel_rfl) (fun u => by go_simp; try rfl) ?_
    try simp only [Act.put, pz0, pz1, pz2]
    refine PF.pf_take0 5 (by kernel_rfl) rfl (fun _ _ _ _ _ h => h) (by kernel_rfl) (fun u => by go_simp; try rfl) ?_
    try simp only [Act.put, pz0, pz1, pz2]
    refine PF.pf_take0 6 (by kernel_rfl) rfl (fun _ _ _ _ _ h => h) (by kernel_rfl) (fun u => by go_simp; try rfl) ?_
    try simp only [Act.put, pz0, pz1, pz2]
    refine PF.pf_take0 7 (by kernel_rfl) rfl (fun _ _ _ _ _ h => h) (by kernel_rfl) (fun u => by go_simp; try rfl) ?_
    try simp only [Act.put, pz0, pz1, pz2]
    refine PF.pf_take0 8 (by kernel_rfl) rfl (fun _ _ _ _ _ h => h) (by kernel_rfl) (fun u => by go_simp; try rfl) ?_
    try simp only [Act.put, pz0, pz1, pz2]
    refine PF.pf_take0 9 (by kernel_rfl) rfl (fun _ _ _ _ _ h => h) (by kernel_rfl) (fun u => by go_simp; try rfl) ?_
    try simp only [Act.put, pz0, pz1, pz2]
    refine PF.pf_take0 10 (by kernel_rfl) rfl (fun _ _ _ _ _ h => h) (by kernel_rfl) (fun u => by go_simp; try rfl) ?_
    try simp only [Act.put, pz0, pz1, pz2]
    refine PF.pf_take0 11 (by kernel_rfl) rfl (fun _ _ _ _ _ h => h) (by kernel_rfl) (fun u => by go_simp; try rfl) ?_
    try simp only [Act.put, pz0, pz1, pz2]
    refine PF.pf_take0 12 (by kernel_rfl) rfl (fun _ _ _ _ _ h => h) (by kernel_rfl) (fun u => by go_simp; try rfl) ?_
    try simp only [Act.put, pz0, pz1, pz2]
    refine PF.pf_fork [13, 14] (by kernel_rfl) rfl (PF.fork_cons ?_ (PF.fork_cons ?_ PF.fork_nil))
    -- number 13 first
    · refine PF.step_one rfl (by kernel_rfl) (fun K hK => ?_)
      go_simp
      refine hK _ _ (by repeat (first | exact PF.owes_nil | refine PF.owes_left ?_ | refine PF.owes_no (by decide +kernel) ?_ | refine PF.owes_yes (by first | rfl | assumption | go_simp) ?_)) ?_
      clear hK K
      try simp only [Act.put, pz0, pz1, pz2]
      refine PF.pf_exec 14 (by kernel_rfl) rfl (by kernel_rfl) (fun K hK => ?_)
      go_simp
      refine hK _ _ (by repeat (first | exact PF.owes_nil | refine PF.owes_left ?_ | refine PF.owes_no (by decide +kernel) ?_ | refine PF.owes_yes (by first | rfl | assumption | go_simp) ?_)) ?_
      clear hK K
      try simp only [Act.put, pz0, pz1, pz2]
      refine PF.pf_take0 15 (by kernel_rfl) rfl (fun _ _ _ _ _ h => h) (by kernel_rfl) (fun u => by go_simp; try rfl) ?_
      try simp only [Act.put, pz0, pz1, pz2]
      refine PF.pf_take0 16 (by kernel_rfl) rfl (fun _ _ _ _ _ h => h) (by kernel_rfl) (fun u => by go_simp; try rfl) ?_
      try simp only [Act.put, pz0, pz1, pz2]
      refine PF.pf_exec 17 (by kernel_rfl) rfl (by kernel_rfl) (fun K hK => ?_)
      go_simp
      refine hc.mono ?_
      rintro e w' ⟨rfl, hS', hM'⟩
      refine hK _ _ (by repeat (first | exact PF.owes_nil | refine PF.owes_left ?_ | refine PF.owes_no (by decide +kernel) ?_ | refine PF.owes_yes (by first | rfl | assumption | go_simp) ?_)) ?_
      clear hK K
      try simp only [Act.put, pz0, pz1, pz2]
      refine PF.pf_done (by kernel_rfl) ?_
      exact ⟨rfl, hS', HM2.out.trans hM'⟩
    -- number 14 first
    · refine PF.step_one rfl (by kernel_rfl) (fun K hK => ?_)
      go_simp
      refine hK _ _ (by repeat (first | exact PF.owes_nil | refine PF.owes_left ?_ | refine PF.owes_no (by decide +kernel) ?_ | refine PF.owes_yes (by first | rfl | assumption | go_simp) ?_)) ?_
      clear hK K
      try simp only [Act.put, pz0, pz1, pz2]
      refine PF.pf_take0 15 (by kernel_rfl) rfl (fun _ _ _ _ _ h => h) (by kernel_rfl) (fun u => by go_simp; try rfl) ?_
      try simp only [Act.put, pz0, pz1, pz2]
      refine PF.pf_take0 16 (by kernel_rfl) rfl (fun _ _ _ _ _ h => h) (by kernel_rfl) (fun u => by go_simp; try rfl) ?_
      try simp only [Act.put, pz0, pz1, pz2]
      refine PF.pf_exec 13 (by kernel_rfl) rfl (by kernel_rfl) (fun K hK => ?_)
      go_simp
      refine hK _ _ (by repeat (first | exact PF.owes_nil | refine PF.owes_left ?_ | refine PF.owes_no (by decide +kernel) ?_ | refine PF.owes_yes (by first | rfl | assumption | go_simp) ?_)) ?_
      clear hK K
      try simp only [Act.put, pz0, pz1, pz2]
      refine PF.pf_exec 17 (by kernel_rfl) rfl (by kernel_rfl) (fun K hK => ?_)
      go_simp
      refine hc.mono ?_
      rintro e w' ⟨rfl, hS', hM'⟩
      refine hK _ _ (by repeat (first | exact PF.owes_nil | refine PF.owes_left ?_ | refine PF.owes_no (by decide +kernel) ?_ | refine PF.owes_yes (by first | rfl | assumption | go_simp) ?_)) ?_
      clear hK K
      try simp only [Act.put, pz0, pz1, pz2]
      refine PF.pf_done (by kernel_rfl) ?_
      exact ⟨rfl, hS', HM2.out.trans hM'⟩
  rintro w3 ⟨hS', hM'⟩
  have hz' : ([33, 34, 35, 36].foldl (gNum cs) S2).1.length ≤ 1080 := by
    have h1 := gNums_len (os := [33, 34, 35, 36]) (fun o' ho' => HTN.out o' (by simp at ho'; rcases ho' with rfl | rfl | rfl | rfl <;> decide)) S2
    have h2 := HL2.out
    try simp only [List.length_cons, List.length_nil, List.foldl_cons, List.foldl_nil] at h1
    try simp only [List.foldl_cons, List.foldl_nil]
    omega
  obtain ⟨S3, e'⟩ : ∃ S, S = [33, 34, 35, 36].foldl (gNum cs) S2 := ⟨_, rfl⟩
  rw [← e'] at hS' hz'
  have HS3 := Lib.hid hS'
  have HM3 := Lib.hid hM'
  have HL3 := Lib.hid hz'
  have HE3 := Lib.hid e'
  clear hS' hM' hz' e' 
  go_wp2_with fail
  have hfin : respW cs S0 = S3 := by unfold respW; rw [HE3.out, HE2.out, HE1.out]
  have hc := wtextm_any (HS3.out.same (Below.refl _ _).drew) 37 A b c HO.out ((HB.out _ HM3.out).below (Below.refl _ _).drew) hbl (Nat.le_trans HL3.out (by omega))
  unfold pc at hc
  refine PF.pf_begin (by kernel_rfl) ?_
  refine PF.pf_take0 0 (by kernel_rfl) rfl (fun _ _ _ _ _ h => h) (by kernel_rfl) (fun u => by go_simp; try rfl) ?_
  try simp only [Act.put, pz0, pz1, pz2]
  refine PF.pf_take0 1 (by kernel_rfl) rfl (fun _ _ _ _ _ h => h) (by kernel_rfl) (fun u => by go_simp; try rfl) ?_
  try simp only [Act.put, pz0, pz1, pz2]
  refine PF.pf_take0 2 (by kernel_rfl) rfl (fun _ _ _ _ _ h => h) (by kernel_rfl) (fun u => by go_simp; try rfl) ?_
  try simp only [Act.put, pz0, pz1, pz2]
  refine PF.pf_take0 3 (by kernel_rfl) rfl (fun _ _ _ _ _ h => h) (by kernel_rfl) (fun u => by go_simp; try rfl) ?_
  try simp only [Act.put, pz0, pz1, pz2]
  refine PF.pf_exec 4 (by kernel_rfl) rfl (by kernel_rfl) (fun K hK => ?_)
  go_simp
  refine hK _ _ (by repeat (first | exact PF.owes_nil | refine PF.owes_left ?_ | refine PF.owes_no (by decide +kernel) ?_ | refine PF.owes_yes (by first | rfl | assumption | go_simp) ?_)) ?_
  clear hK K
  try simp only [Act.put, pz0, pz1, pz2]
  refine PF.pf_take0 5 (by kernel_rfl) rfl (fun _ _ _ _ _ h => h) (by kernel_rfl) (fun u => by go_simp; try rfl) ?_
  try simp only [Act.put, pz0, pz1, pz2]
  refine PF.pf_take0 6 (by kernel_rfl) rfl (fun _ _ _ _ _ h => h) (by kernel_rfl) (fun u => by go_simp; try rfl) ?_
  try simp only [Act.put, pz0, pz1, pz2]
  refine PF.pf_exec 7 (by kernel_rfl) rfl (by kernel_rfl) (fun K hK => ?_)
  go_simp
  refine hc.mono ?_
  rintro e wt ⟨rfl, hS', hM'⟩
  refine hK _ _ (by repeat (first | exact PF.owes_nil | refine PF.owes_left ?_ | refine PF.owes_no (by decide +kernel) ?_ | refine PF.owes_yes (by first | rfl | assumption | go_simp) ?_)) ?_
  clear hK K
  try simp only [Act.put, pz0, pz1, pz2]
  refine PF.pf_done (by kernel_rfl) ?_
  have hMt := HM3.out.trans (((Mod.refl _ w3).drew).trans hM')
  have HS' := Lib.hid hS'
  have HMt := Lib.hid hMt
  have HFI := Lib.hid hfin
  clear hc hS' hM' hMt hfin
  go_wp2_with fail
  go_ret
  rw [HFI.out]
  exact ⟨rfl, HS'.out, HMt.out⟩

end Go.Proofs.YtdckdjkkaangmaaDoor
