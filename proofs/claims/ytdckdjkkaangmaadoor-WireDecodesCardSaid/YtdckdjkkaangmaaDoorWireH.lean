/- The reading walker over the fields. -/
import Derived.Test.YtdckdjkkaangmaaDoorWireF
namespace Go.Proofs.YtdckdjkkaangmaaDoor
set_option linter.unusedVariables false
set_option linter.unusedSimpArgs false
set_option maxRecDepth 100000
open Go.RowKit

set_option maxHeartbeats 16000000 in
theorem rfields_req {w0 : World} {xb lo hi r pb : Nat} {T : TypeId} {l : List UInt8} {S0 : RS} (h : RSt w0 xb lo hi r pb T l S0) (hhi : hi ≤ w0.heap.size) (hll : l.length ≤ 1000000) (hk : S0.1[0]? = some (.int .i64 3)) (hs : S0.1.size = 56) (hv : S0.1[28]? = some (.slice none 0 0)) :
    Calls Tryd.prog 22 #[.iface 64 (.pointer (some ⟨xb, 0, none⟩)), pc pb 0] w0 (RKeep w0 xb lo hi r pb T l (reqR l S0) 27) := by
  have hm1 := rd_ints xb
  have hm2 := rd_nums xb
  have hm3 := rd_text xb
  have hm4 := rd_list xb
  have HI : Hid (∀ w', Mod (Rw lo hi pb) w0 w' → hi ≤ w'.heap.size) := fun w' hm => Nat.le_trans hhi hm.size
  have k0 := h.pk.cell 0
  rw [hk] at k0
  have HS0 := Lib.hid h
  have HZ0 := Lib.hid hs
  have HM0 : Hid (Mod (Rw lo hi pb) w0 w0) := Mod.refl _ _
  have HK := Lib.hid hk
  have HV := Lib.hid hv
  have HPL := Lib.hid h.pk.lt
  clear hv
  clear h hk hs
  unfold pc
  go_enter Tryd.func22, Tryd.ntmps22
  go_wp2_with fail
  clear k0
  refine (rplace_any HS0.out (HI.out _ HM0.out) 19 (by have := HZ0.out; omega)).mono ?_
  rintro e w1 ⟨rfl, hS', hM0⟩
  have hM' := HM0.out.trans hM0
  replace hS' : RSt w1 xb lo hi r pb T l (fPl l S0 19) := hS'
  clear hM0
  have hz' : (fPl l S0 19).1.size = 56 := by
    rw [← HZ0.out]
    simp [fInt_size, fNum_size, fBal_size, fPl_size, fold_size (fInt_size l), fold_size (fNum_size l), fold_size (fBal_size l)]
  obtain ⟨S1, e'⟩ : ∃ S, S = fPl l S0 19 := ⟨_, rfl⟩
  rw [← e'] at hS' hz'
  have HS1 := Lib.hid hS'
  have HM1 := Lib.hid hM'
  have HZ1 := Lib.hid hz'
  have HE1 := Lib.hid e'
  clear hS' hM' hz' e'
  go_wp2_with fail
  apply share (S := fun w' => RSt w' xb lo hi r pb T l (fInt l S1 21) ∧ Mod (Rw lo hi pb) w0 w')
  case walk =>
    have hc := rints_var HS1.out (HI.out _ HM1.out) [21] (by simp) (by intro o' ho'; have := HZ1.out; simp at ho'; omega) (below_var w1 _) (ptrs_row [21] 109)
    simp only [List.map_cons, List.map_nil, List.length_cons, List.length_nil, List.foldl_cons, List.foldl_nil, pc, Nat.zero_add, Nat.reduceAdd] at hc
    refine PF.pf_begin (by kernel_rfl) ?_
    refine PF.pf_take0 0 (by kernel_rfl) rfl (fun _ _ _ _ _ h => h) (by kernel_rfl) (fun u => by go_simp; try rfl) ?_
    try simp only [Act.put, pz0, pz1, pz2]
    refine PF.pf_take0 1 (by kernel_rfl) rfl (fun _ _ _ _ _ h => h) (by kernel_rfl) (fun u => by go_simp; try rfl) ?_
    try simp only [Act.put, pz0, pz1, pz2]
    refine PF.pf_take0 2 (by kernel_rfl) rfl (fun _ _ _ _ _ h => h) (by kernel_rfl) (fun u => by go_simp; try rfl) ?_
    try simp only [Act.put, pz0, pz1, pz2]
    refine PF.pf_take0 3 (by kernel_rfl) rfl (fun _ _ _ _ _ h => h) (by kernel_rfl) (fun u => by go_simp; try rfl) ?_
    try simp only [Act.put, pz0, pz1, pz2]
    refine PF.pf_fork [4, 5] (by kernel_rfl) rfl (PF.fork_cons ?_ (PF.fork_cons ?_ PF.fork_nil))
    -- number 4 first
    · refine PF.step_one rfl (by kernel_rfl) (fun K hK => ?_)
      go_simp
      refine hK _ _ (by repeat (first | exact PF.owes_nil | refine PF.owes_left ?_ | refine PF.owes_no (by decide +kernel) ?_ | refine PF.owes_yes (by first | rfl | assumption | go_simp) ?_)) ?_
      clear hK K
      try simp only [Act.put, pz0, pz1, pz2]
      refine PF.pf_exec 5 (by kernel_rfl) rfl (by kernel_rfl) (fun K hK => ?_)
      go_simp
      refine hK _ _ (by repeat (first | exact PF.owes_nil | refine PF.owes_left ?_ | refine PF.owes_no (by decide +kernel) ?_ | refine PF.owes_yes (by first | rfl | assumption | go_simp) ?_)) ?_
      clear hK K
      try simp only [Act.put, pz0, pz1, pz2]
      refine PF.pf_take0 6 (by kernel_rfl) rfl (fun _ _ _ _ _ h => h) (by kernel_rfl) (fun u => by go_simp; try rfl) ?_
      try simp only [Act.put, pz0, pz1, pz2]
      refine PF.pf_take0 7 (by kernel_rfl) rfl (fun _ _ _ _ _ h => h) (by kernel_rfl) (fun u => by go_simp; try rfl) ?_
      try simp only [Act.put, pz0, pz1, pz2]
      refine PF.pf_exec 8 (by kernel_rfl) rfl (by kernel_rfl) (fun K hK => ?_)
      go_simp
      refine hc.mono ?_
      rintro e w' ⟨rfl, hS', hM'⟩
      refine hK _ _ (by repeat (first | exact PF.owes_nil | refine PF.owes_left ?_ | refine PF.owes_no (by decide +kernel) ?_ | refine PF.owes_yes (by first | rfl | assumption | go_simp) ?_)) ?_
      clear hK K
      try simp only [Act.put, pz0, pz1, pz2]
      refine PF.pf_done (by kernel_rfl) ?_
      exact ⟨rfl, hS', HM1.out.trans hM'⟩
    -- number 5 first
    · refine PF.step_one rfl (by kernel_rfl) (fun K hK => ?_)
      go_simp
      refine hK _ _ (by repeat (first | exact PF.owes_nil | refine PF.owes_left ?_ | refine PF.owes_no (by decide +kernel) ?_ | refine PF.owes_yes (by first | rfl | assumption | go_simp) ?_)) ?_
      clear hK K
      try simp only [Act.put, pz0, pz1, pz2]
      refine PF.pf_take0 6 (by kernel_rfl) rfl (fun _ _ _ _ _ h => h) (by kernel_rfl) (fun u => by go_simp; try rfl) ?_
      try simp only [Act.put, pz0, pz1, pz2]
      refine PF.pf_take0 7 (by kernel_rfl) rfl (fun _ _ _ _ _ h => h) (by kernel_rfl) (fun u => by go_simp; try rfl) ?_
      try simp only [Act.put, pz0, pz1, pz2]
      refine PF.pf_exec 4 (by kernel_rfl) rfl (by kernel_rfl) (fun K hK => ?_)
      go_simp
      refine hK _ _ (by repeat (first | exact PF.owes_nil | refine PF.owes_left ?_ | refine PF.owes_no (by decide +kernel) ?_ | refine PF.owes_yes (by first | rfl | assumption | go_simp) ?_)) ?_
      clear hK K
      try simp only [Act.put, pz0, pz1, pz2]
      refine PF.pf_exec 8 (by kernel_rfl) rfl (by kernel_rfl) (fun K hK => ?_)
      go_simp
      refine hc.mono ?_
      rintro e w' ⟨rfl, hS', hM'⟩
      refine hK _ _ (by repeat (first | exact PF.owes_nil | refine PF.owes_left ?_ | refine PF.owes_no (by decide +kernel) ?_ | refine PF.owes_yes (by first | rfl | assumption | go_simp) ?_)) ?_
      clear hK K
      try simp only [Act.put, pz0, pz1, pz2]
      refine PF.pf_done (by kernel_rfl) ?_
      exact ⟨rfl, hS', HM1.out.trans hM'⟩
  rintro w2 ⟨hS', hM'⟩
  have hz' : (fInt l S1 21).1.size = 56 := by
    rw [← HZ1.out]
    simp [fInt_size, fNum_size, fBal_size, fPl_size, fold_size (fInt_size l), fold_size (fNum_size l), fold_size (fBal_size l)]
  obtain ⟨S2, e'⟩ : ∃ S, S = fInt l S1 21 := ⟨_, rfl⟩
  rw [← e'] at hS' hz'
  have HS2 := Lib.hid hS'
  have HM2 := Lib.hid hM'
  have HZ2 := Lib.hid hz'
  have HE2 := Lib.hid e'
  clear hS' hM' hz' e'
  go_wp2_with fail
  apply share (S := fun w' => RSt w' xb lo hi r pb T l ([22, 23, 24, 25].foldl (fNum l) S2) ∧ Mod (Rw lo hi pb) w0 w')
  case walk =>
    have hc := rnums_var HS2.out (HI.out _ HM2.out) [22, 23, 24, 25] (by simp) (by intro o' ho'; have := HZ2.out; simp at ho'; omega) (below_var w2 _) (ptrs_row [22, 23, 24, 25] 118)
    simp only [List.map_cons, List.map_nil, List.length_cons, List.length_nil, List.foldl_cons, List.foldl_nil, pc, Nat.zero_add, Nat.reduceAdd] at hc
    refine PF.pf_begin (by kernel_rfl) ?_
    refine PF.pf_take0 0 (by kernel_rfl) rfl (fun _ _ _ _ _ h => h) (by kernel_rfl) (fun u => by go_simp; try rfl) ?_
    try simp only [Act.put, pz0, pz1, pz2]
    refine PF.pf_take0 1 (by kernel_rfl) rfl (fun _ _ _ _ _ h => h) (by kernel_rfl) (fun u => by go_simp; try rfl) ?_
    try simp only [Act.put, pz0, pz1, pz2]
    refine PF.pf_take0 2 (by kernel_rfl) rfl (fun _ _ _ _ _ h => h) (by kernel_rfl) (fun u => by go_simp; try rfl) ?_
    try simp only [Act.put, pz0, pz1, pz2]
    refine PF.pf_take0 3 (by kernel_rfl) rfl (fun _ _ _ _ _ h => h) (by kernel_rfl) (fun u => by go_simp; try rfl) ?_
    try simp only [Act.put, pz0, pz1, pz2]
    refine PF.pf_take0 4 (by kernel_rfl) rfl (fun _ _ _ _ _ h => h) (by kernel_rfl) (fun u => by go_simp; try rfl) ?_
    try simp only [Act.put, pz0, pz1, pz2]
    refine PF.pf_take0 5 (by kernel_rfl) rfl (fun _ _ _ _ _ h => h) (by kernel_rfl) (fun u => by go_simp; try rfl) ?_
    try simp only [Act.put, pz0, pz1, pz2]
    refine PF.pf_take0 6 (by kernel_rfl) rfl (fun _ _ _ _ _ h => h) (by kernel_rfl) (fun u => by go_simp; try rfl) ?_
    try simp only [Act.put, pz0, pz1, pz2]
    refine PF.pf_take0 7 (by kernel_rfl) rfl (fun _ _ _ _ _ h => h) (by kernel_rfl) (fun u => by go_simp; try rfl) ?_
    try simp only [Act.put, pz0, pz1, pz2]
    refine PF.pf_take0 8 (by kernel_rfl) rfl (fun _ _ _ _ _ h => h) (by kernel_rfl) (fun u => by go_simp; try rfl) ?_
    try simp only [Act.put, pz0, pz1, pz2]
    refine PF.pf_take0 9 (by kernel_rfl) rfl (fun _ _ _ _ _ h => h) (by kernel_rfl) (fun u => by go_simp; try rfl) ?_
    try simp only [Act.put, pz0, pz1, pz2]
    refine PF.pf_take0 10 (by kernel_rfl) rfl (fun _ _ _ _ _ h => h) (by kernel_rfl) (fun u => by go_simp; try rfl) ?_
    try simp only [Act.put, pz0, pz1, pz2]
    refine PF.pf_take0 11 (by kernel_rfl) rfl (fun _ _ _ _ _ h => h) (by kernel_rfl) (fun u => by go_simp; try rfl) ?_
    try simp only [Act.put, pz0, pz1, pz2]
    refine PF.pf_take0 12 (by kernel_rfl) rfl (fun _ _ _ _ _ h => h) (by kernel_rfl) (fun u => by go_simp; try rfl) ?_
    try simp only [Act.put, pz0, pz1, pz2]
    refine PF.pf_fork [13, 14] (by kernel_rfl) rfl (PF.fork_cons ?_ (PF.fork_cons ?_ PF.fork_nil))
    -- number 13 first
    · refine PF.step_one rfl (by kernel_rfl) (fun K hK => ?_)
      go_simp
      refine hK _ _ (by repeat (first | exact PF.owes_nil | refine PF.owes_left ?_ | refine PF.owes_no (by decide +kernel) ?_ | refine PF.owes_yes (by first | rfl | assumption | go_simp) ?_)) ?_
      clear hK K
      try simp only [Act.put, pz0, pz1, pz2]
      refine PF.pf_exec 14 (by kernel_rfl) rfl (by kernel_rfl) (fun K hK => ?_)
      go_simp
      refine hK _ _ (by repeat (first | exact PF.owes_nil | refine PF.owes_left ?_ | refine PF.owes_no (by decide +kernel) ?_ | refine PF.owes_yes (by first | rfl | assumption | go_simp) ?_)) ?_
      clear hK K
      try simp only [Act.put, pz0, pz1, pz2]
      refine PF.pf_take0 15 (by kernel_rfl) rfl (fun _ _ _ _ _ h => h) (by kernel_rfl) (fun u => by go_simp; try rfl) ?_
      try simp only [Act.put, pz0, pz1, pz2]
      refine PF.pf_take0 16 (by kernel_rfl) rfl (fun _ _ _ _ _ h => h) (by kernel_rfl) (fun u => by go_simp; try rfl) ?_
      try simp only [Act.put, pz0, pz1, pz2]
      refine PF.pf_exec 17 (by kernel_rfl) rfl (by kernel_rfl) (fun K hK => ?_)
      go_simp
      refine hc.mono ?_
      rintro e w' ⟨rfl, hS', hM'⟩
      refine hK _ _ (by repeat (first | exact PF.owes_nil | refine PF.owes_left ?_ | refine PF.owes_no (by decide +kernel) ?_ | refine PF.owes_yes (by first | rfl | assumption | go_simp) ?_)) ?_
      clear hK K
      try simp only [Act.put, pz0, pz1, pz2]
      refine PF.pf_done (by kernel_rfl) ?_
      exact ⟨rfl, hS', HM2.out.trans hM'⟩
    -- number 14 first
    · refine PF.step_one rfl (by kernel_rfl) (fun K hK => ?_)
      go_simp
      refine hK _ _ (by repeat (first | exact PF.owes_nil | refine PF.owes_left ?_ | refine PF.owes_no (by decide +kernel) ?_ | refine PF.owes_yes (by first | rfl | assumption | go_simp) ?_)) ?_
      clear hK K
      try simp only [Act.put, pz0, pz1, pz2]
      refine PF.pf_take0 15 (by kernel_rfl) rfl (fun _ _ _ _ _ h => h) (by kernel_rfl) (fun u => by go_simp; try rfl) ?_
      try simp only [Act.put, pz0, pz1, pz2]
      refine PF.pf_take0 16 (by kernel_rfl) rfl (fun _ _ _ _ _ h => h) (by kernel_rfl) (fun u => by go_simp; try rfl) ?_
      try simp only [Act.put, pz0, pz1, pz2]
      refine PF.pf_exec 13 (by kernel_rfl) rfl (by kernel_rfl) (fun K hK => ?_)
      go_simp
      refine hK _ _ (by repeat (first | exact PF.owes_nil | refine PF.owes_left ?_ | refine PF.owes_no (by decide +kernel) ?_ | refine PF.owes_yes (by first | rfl | assumption | go_simp) ?_)) ?_
      clear hK K
      try simp only [Act.put, pz0, pz1, pz2]
      refine PF.pf_exec 17 (by kernel_rfl) rfl (by kernel_rfl) (fun K hK => ?_)
      go_simp
      refine hc.mono ?_
      rintro e w' ⟨rfl, hS', hM'⟩
      refine hK _ _ (by repeat (first | exact PF.owes_nil | refine PF.owes_left ?_ | refine PF.owes_no (by decide +kernel) ?_ | refine PF.owes_yes (by first | rfl | assumption | go_simp) ?_)) ?_
      clear hK K
      try simp only [Act.put, pz0, pz1, pz2]
      refine PF.pf_done (by kernel_rfl) ?_
      exact ⟨rfl, hS', HM2.out.trans hM'⟩
  rintro w3 ⟨hS', hM'⟩
  have hz' : ([22, 23, 24, 25].foldl (fNum l) S2).1.size = 56 := by
    rw [← HZ2.out]
    simp [fInt_size, fNum_size, fBal_size, fPl_size, fold_size (fInt_size l), fold_size (fNum_size l), fold_size (fBal_size l)]
  obtain ⟨S3, e'⟩ : ∃ S, S = [22, 23, 24, 25].foldl (fNum l) S2 := ⟨_, rfl⟩
  rw [← e'] at hS' hz'
  have HS3 := Lib.hid hS'
  have HM3 := Lib.hid hM'
  have HZ3 := Lib.hid hz'
  have HE3 := Lib.hid e'
  clear hS' hM' hz' e'
  go_wp2_with fail
  apply share (S := fun w' => RSt w' xb lo hi r pb T l (fInt l S3 26) ∧ Mod (Rw lo hi pb) w0 w')
  case walk =>
    have hc := rints_var HS3.out (HI.out _ HM3.out) [26] (by simp) (by intro o' ho'; have := HZ3.out; simp at ho'; omega) (below_var w3 _) (ptrs_row [26] 109)
    simp only [List.map_cons, List.map_nil, List.length_cons, List.length_nil, List.foldl_cons, List.foldl_nil, pc, Nat.zero_add, Nat.reduceAdd] at hc
    refine PF.pf_begin (by kernel_rfl) ?_
    refine PF.pf_take0 0 (by kernel_rfl) rfl (fun _ _ _ _ _ h => h) (by kernel_rfl) (fun u => by go_simp; try rfl) ?_
    try simp only [Act.put, pz0, pz1, pz2]
    refine PF.pf_take0 1 (by kernel_rfl) rfl (fun _ _ _ _ _ h => h) (by kernel_rfl) (fun u => by go_simp; try rfl) ?_
    try simp only [Act.put, pz0, pz1, pz2]
    refine PF.pf_take0 2 (by kernel_rfl) rfl (fun _ _ _ _ _ h => h) (by kernel_rfl) (fun u => by go_simp; try rfl) ?_
    try simp only [Act.put, pz0, pz1, pz2]
    refine PF.pf_take0 3 (by kernel_rfl) rfl (fun _ _ _ _ _ h => h) (by kernel_rfl) (fun u => by go_simp; try rfl) ?_
    try simp only [Act.put, pz0, pz1, pz2]
    refine PF.pf_fork [4, 5] (by kernel_rfl) rfl (PF.fork_cons ?_ (PF.fork_cons ?_ PF.fork_nil))
    -- number 4 first
    · refine PF.step_one rfl (by kernel_rfl) (fun K hK => ?_)
      go_simp
      refine hK _ _ (by repeat (first | exact PF.owes_nil | refine PF.owes_left ?_ | refine PF.owes_no (by decide +kernel) ?_ | refine PF.owes_yes (by first | rfl | assumption | go_simp) ?_)) ?_
      clear hK K
      try simp only [Act.put, pz0, pz1, pz2]
      refine PF.pf_exec 5 (by kernel_rfl) rfl (by kernel_rfl) (fun K hK => ?_)
      go_simp
      refine hK _ _ (by repeat (first | exact PF.owes_nil | refine PF.owes_left ?_ | refine PF.owes_no (by decide +kernel) ?_ | refine PF.owes_yes (by first | rfl | assumption | go_simp) ?_)) ?_
      clear hK K
      try simp only [Act.put, pz0, pz1, pz2]
      refine PF.pf_take0 6 (by kernel_rfl) rfl (fun _ _ _ _ _ h => h) (by kernel_rfl) (fun u => by go_simp; try rfl) ?_
      try simp only [Act.put, pz0, pz1, pz2]
      refine PF.pf_take0 7 (by kernel_rfl) rfl (fun _ _ _ _ _ h => h) (by kernel_rfl) (fun u => by go_simp; try rfl) ?_
      try simp only [Act.put, pz0, pz1, pz2]
      refine PF.pf_exec 8 (by kernel_rfl) rfl (by kernel_rfl) (fun K hK => ?_)
      go_simp
      refine hc.mono ?_
      rintro e w' ⟨rfl, hS', hM'⟩
      refine hK _ _ (by repeat (first | exact PF.owes_nil | refine PF.owes_left ?_ | refine PF.owes_no (by decide +kernel) ?_ | refine PF.owes_yes (by first | rfl | assumption | go_simp) ?_)) ?_
      clear hK K
      try simp only [Act.put, pz0, pz1, pz2]
      refine PF.pf_done (by kernel_rfl) ?_
      exact ⟨rfl, hS', HM3.out.trans hM'⟩
    -- number 5 first
    · refine PF.step_one rfl (by kernel_rfl) (fun K hK => ?_)
      go_simp
      refine hK _ _ (by repeat (first | exact PF.owes_nil | refine PF.owes_left ?_ | refine PF.owes_no (by decide +kernel) ?_ | refine PF.owes_yes (by first | rfl | assumption | go_simp) ?_)) ?_
      clear hK K
      try simp only [Act.put, pz0, pz1, pz2]
      refine PF.pf_take0 6 (by kernel_rfl) rfl (fun _ _ _ _ _ h => h) (by kernel_rfl) (fun u => by go_simp; try rfl) ?_
      try simp only [Act.put, pz0, pz1, pz2]
      refine PF.pf_take0 7 (by kernel_rfl) rfl (fun _ _ _ _ _ h => h) (by kernel_rfl) (fun u => by go_simp; try rfl) ?_
      try simp only [Act.put, pz0, pz1, pz2]
      refine PF.pf_exec 4 (by kernel_rfl) rfl (by kernel_rfl) (fun K hK => ?_)
      go_simp
      refine hK _ _ (by repeat (first | exact PF.owes_nil | refine PF.owes_left ?_ | refine PF.owes_no (by decide +kernel) ?_ | refine PF.owes_yes (by first | rfl | assumption | go_simp) ?_)) ?_
      clear hK K
      try simp only [Act.put, pz0, pz1, pz2]
      refine PF.pf_exec 8 (by kernel_rfl) rfl (by kernel_rfl) (fun K hK => ?_)
      go_simp
      refine hc.mono ?_
      rintro e w' ⟨rfl, hS', hM'⟩
      refine hK _ _ (by repeat (first | exact PF.owes_nil | refine PF.owes_left ?_ | refine PF.owes_no (by decide +kernel) ?_ | refine PF.owes_yes (by first | rfl | assumption | go_simp) ?_)) ?_
      clear hK K
      try simp only [Act.put, pz0, pz1, pz2]
      refine PF.pf_done (by kernel_rfl) ?_
      exact ⟨rfl, hS', HM3.out.trans hM'⟩
  rintro w4 ⟨hS', hM'⟩
  have hz' : (fInt l S3 26).1.size = 56 := by
    rw [← HZ3.out]
    simp [fInt_size, fNum_size, fBal_size, fPl_size, fold_size (fInt_size l), fold_size (fNum_size l), fold_size (fBal_size l)]
  obtain ⟨S4, e'⟩ : ∃ S, S = fInt l S3 26 := ⟨_, rfl⟩
  rw [← e'] at hS' hz'
  have HS4 := Lib.hid hS'
  have HM4 := Lib.hid hM'
  have HZ4 := Lib.hid hz'
  have HE4 := Lib.hid e'
  clear hS' hM' hz' e'
  go_wp2_with fail
  have hc := rtext_any (HS4.out.below (Below.refl _ _).drew) hll 27 (by have := HZ4.out; omega)
  unfold pc at hc
  refine PF.pf_begin (by kernel_rfl) ?_
  refine PF.pf_take0 0 (by kernel_rfl) rfl (fun _ _ _ _ _ h => h) (by kernel_rfl) (fun u => by go_simp; try rfl) ?_
  try simp only [Act.put, pz0, pz1, pz2]
  refine PF.pf_take0 1 (by kernel_rfl) rfl (fun _ _ _ _ _ h => h) (by kernel_rfl) (fun u => by go_simp; try rfl) ?_
  try simp only [Act.put, pz0, pz1, pz2]
  refine PF.pf_take0 2 (by kernel_rfl) rfl (fun _ _ _ _ _ h => h) (by kernel_rfl) (fun u => by go_simp; try rfl) ?_
  try simp only [Act.put, pz0, pz1, pz2]
  refine PF.pf_take0 3 (by kernel_rfl) rfl (fun _ _ _ _ _ h => h) (by kernel_rfl) (fun u => by go_simp; try rfl) ?_
  try simp only [Act.put, pz0, pz1, pz2]
  refine PF.pf_exec 4 (by kernel_rfl) rfl (by kernel_rfl) (fun K hK => ?_)
  go_simp
  refine hK _ _ (by repeat (first | exact PF.owes_nil | refine PF.owes_left ?_ | refine PF.owes_no (by decide +kernel) ?_ | refine PF.owes_yes (by first | rfl | assumption | go_simp) ?_)) ?_
  clear hK K
  try simp only [Act.put, pz0, pz1, pz2]
  refine PF.pf_take0 5 (by kernel_rfl) rfl (fun _ _ _ _ _ h => h) (by kernel_rfl) (fun u => by go_simp; try rfl) ?_
  try simp only [Act.put, pz0, pz1, pz2]
  refine PF.pf_take0 6 (by kernel_rfl) rfl (fun _ _ _ _ _ h => h) (by kernel_rfl) (fun u => by go_simp; try rfl) ?_
  try simp only [Act.put, pz0, pz1, pz2]
  refine PF.pf_exec 7 (by kernel_rfl) rfl (by kernel_rfl) (fun K hK => ?_)
  go_simp
  refine hc.mono ?_
  rintro e wt ⟨rfl, g, c, hc1, hc2, hg, hW, hS', hM'⟩
  refine hK _ _ (by repeat (first | exact PF.owes_nil | refine PF.owes_left ?_ | refine PF.owes_no (by decide +kernel) ?_ | refine PF.owes_yes (by first | rfl | assumption | go_simp) ?_)) ?_
  clear hK K
  try simp only [Act.put, pz0, pz1, pz2]
  refine PF.pf_done (by kernel_rfl) ?_
  have hfin : reqR l S0 = S4 := by unfold reqR; rw [HE4.out, HE3.out, HE2.out, HE1.out]
  have hMt := HM4.out.trans (((Mod.refl _ w4).drew).trans hM')
  have hgl := hW.lt
  have hgw : w0.heap.size ≤ g := Nat.le_trans HM4.out.size hg
  have hgo : ¬ Rw lo hi pb g := fun e => e.elim (fun e => by have := e.2; omega) fun e => by have := HPL.out; omega
  have hnk : (S4.1.setIfInBounds 27 (.slice (some ⟨g, 0, none⟩) (rText l S4.2).1.length c))[28]? = some (.slice none 0 0) := by
    rw [← HV.out, ← hfin]
    unfold reqR fPl
    simp [fNum, fInt, Array.getElem?_setIfInBounds]
  have hc2' := rlist_any (hS'.below (Below.refl _ _).drew) (by have h1 := hMt.size; have h2 : wt.drew.heap.size = wt.heap.size := rfl; omega) 28 hnk
  unfold pc at hc2'
  have HW := Lib.hid hW
  have HMt := Lib.hid hMt
  have HG := Lib.hid hgw
  have HGO := Lib.hid hgo
  have HGL := Lib.hid hgl
  clear hc hW hM' hg hS' hMt hgw hgo hgl hnk
  go_wp2_with fail
  refine PF.pf_begin (by kernel_rfl) ?_
  refine PF.pf_take0 0 (by kernel_rfl) rfl (fun _ _ _ _ _ h => h) (by kernel_rfl) (fun u => by go_simp; try rfl) ?_
  try simp only [Act.put, pz0, pz1, pz2]
  refine PF.pf_take0 1 (by kernel_rfl) rfl (fun _ _ _ _ _ h => h) (by kernel_rfl) (fun u => by go_simp; try rfl) ?_
  try simp only [Act.put, pz0, pz1, pz2]
  refine PF.pf_take0 2 (by kernel_rfl) rfl (fun _ _ _ _ _ h => h) (by kernel_rfl) (fun u => by go_simp; try rfl) ?_
  try simp only [Act.put, pz0, pz1, pz2]
  refine PF.pf_take0 3 (by kernel_rfl) rfl (fun _ _ _ _ _ h => h) (by kernel_rfl) (fun u => by go_simp; try rfl) ?_
  try simp only [Act.put, pz0, pz1, pz2]
  refine PF.pf_exec 4 (by kernel_rfl) rfl (by kernel_rfl) (fun K hK => ?_)
  go_simp
  refine hK _ _ (by repeat (first | exact PF.owes_nil | refine PF.owes_left ?_ | refine PF.owes_no (by decide +kernel) ?_ | refine PF.owes_yes (by first | rfl | assumption | go_simp) ?_)) ?_
  clear hK K
  try simp only [Act.put, pz0, pz1, pz2]
  refine PF.pf_take0 5 (by kernel_rfl) rfl (fun _ _ _ _ _ h => h) (by kernel_rfl) (fun u => by go_simp; try rfl) ?_
  try simp only [Act.put, pz0, pz1, pz2]
  refine PF.pf_take0 6 (by kernel_rfl) rfl (fun _ _ _ _ _ h => h) (by kernel_rfl) (fun u => by go_simp; try rfl) ?_
  try simp only [Act.put, pz0, pz1, pz2]
  refine PF.pf_exec 7 (by kernel_rfl) rfl (by kernel_rfl) (fun K hK => ?_)
  go_simp
  refine hc2'.mono ?_
  rintro e wk ⟨rfl, A, c2, ho2, hS2, hM2⟩
  refine hK _ _ (by repeat (first | exact PF.owes_nil | refine PF.owes_left ?_ | refine PF.owes_no (by decide +kernel) ?_ | refine PF.owes_yes (by first | rfl | assumption | go_simp) ?_)) ?_
  clear hK K
  try simp only [Act.put, pz0, pz1, pz2]
  refine PF.pf_done (by kernel_rfl) ?_
  have HM2 := Lib.hid (HMt.out.trans (((Mod.refl _ wt).drew).trans hM2))
  have HW2 : Hid (WRow wk g (rText l S4.2).1) := HW.out.mod (S := Rw lo hi pb) (((Mod.refl _ wt).drew).trans hM2) HGO.out
  have HO2 := Lib.hid (base_le ho2 (base' := g + 1) HGL.out)
  have HS2 := Lib.hid hS2
  clear ho2 hS2 hM2 hc2'
  go_wp2_with fail
  go_ret
  rw [hfin]
  exact ⟨rfl, g, c, A, c2, hc1, hc2, HG.out, HW2.out, HO2.out, HS2.out, HM2.out⟩

set_option maxHeartbeats 16000000 in
theorem rfields_reply {w0 : World} {xb lo hi r pb : Nat} {T : TypeId} {l : List UInt8} {S0 : RS} (h : RSt w0 xb lo hi r pb T l S0) (hhi : hi ≤ w0.heap.size) (hll : l.length ≤ 1000000) (hk : S0.1[0]? = some (.int .i64 6)) (hs : S0.1.size = 56) (v0 : Int) (hv : S0.1[50]? = some (.int .i64 v0)) :
    Calls Tryd.prog 22 #[.iface 64 (.pointer (some ⟨xb, 0, none⟩)), pc pb 0] w0 (RText w0 xb lo hi r pb T l (replyR l S0) 55) := by
  have hm1 := rd_ints xb
  have hm2 := rd_nums xb
  have hm3 := rd_text xb
  have hm4 := rd_list xb
  have HI : Hid (∀ w', Mod (Rw lo hi pb) w0 w' → hi ≤ w'.heap.size) := fun w' hm => Nat.le_trans hhi hm.size
  have k0 := h.pk.cell 0
  rw [hk] at k0
  have HS0 := Lib.hid h
  have HZ0 := Lib.hid hs
  have HM0 : Hid (Mod (Rw lo hi pb) w0 w0) := Mod.refl _ _
  have HK := Lib.hid hk
  have k50 := h.pk.cell 50
  rw [hv] at k50
  have HPL := Lib.hid h.pk.lt
  have HXL := Lib.hid h.me.lt
  clear h hk hs
  unfold pc
  go_enter Tryd.func22, Tryd.ntmps22
  go_wp2_with fail
  clear k0
  clear k50
  have hbA := below_new w0 (.cells #[.int .i64 v0] 3)
  have hM01 : Mod (Rw lo hi pb) w0 (w0.alloc (.cells #[.int .i64 v0] 3)) := Mod.below hbA (Nat.le_refl _)
  have kb := Blk.new w0 3 #[.int .i64 v0]
  have hS1 := HS0.out.below hbA
  have HRB : Hid (¬ Iv lo hi w0.heap.size ∧ xb ≠ w0.heap.size ∧ ¬ w0.heap.size = pb) := ⟨fun e => by have := e.2; omega, fun e => by have := HXL.out; omega, fun e => by have := HPL.out; omega⟩
  have HRB2 : Hid (w0.heap.size ≤ w0.heap.size) := Nat.le_refl _
  have HI0 := HI
  have HI : Hid (∀ w', Mod (Rw lo hi pb) (w0.alloc (.cells #[.int .i64 v0] 3)) w' → hi ≤ w'.heap.size) := fun w' hm => HI0.out _ (hM01.trans hm)
  have HBX : Hid (∀ w', Mod (Rw lo hi pb) (w0.alloc (.cells #[.int .i64 v0] 3)) w' → Blk w' w0.heap.size 3 #[.int .i64 v0]) := fun w' hm => kb.mod hm fun e => e.elim HRB.out.1 fun e => HRB.out.2.2 e
  have HM01 := Lib.hid hM01
  have HS1 := Lib.hid hS1
  clear hM01 kb hS1 hbA
  generalize w0.alloc (.cells #[.int .i64 v0] 3) = w1 at *
  obtain ⟨rb, hrb⟩ : ∃ rb, rb = w0.heap.size := ⟨_, rfl⟩
  rw [← hrb] at HRB HBX ⊢
  have HRB2 : Hid (w0.heap.size ≤ rb) := by show _ ≤ _; omega
  clear hrb
  have HM1 : Hid (Mod (Rw lo hi pb) w1 w1) := Mod.refl _ _
  obtain ⟨S1, e'⟩ : ∃ S, S = S0 := ⟨_, rfl⟩
  rw [← e'] at HS1
  have HZ1 : Hid (S1.1.size = 56) := by show _ = _; rw [e']; exact HZ0.out
  have HE1 := Lib.hid e'
  clear e' 
  apply share (S := fun w' => RSt w' xb lo hi r pb T l (fInt l S1 47) ∧ Mod (Rw lo hi pb) w1 w')
  case walk =>
    have hc := rints_var HS1.out (HI.out _ HM1.out) [47] (by simp) (by intro o' ho'; have := HZ1.out; simp at ho'; omega) (below_var w1 _) (ptrs_row [47] 109)
    simp only [List.map_cons, List.map_nil, List.length_cons, List.length_nil, List.foldl_cons, List.foldl_nil, pc, Nat.zero_add, Nat.reduceAdd] at hc
    refine PF.pf_begin (by kernel_rfl) ?_
    refine PF.pf_take0 0 (by kernel_rfl) rfl (fun _ _ _ _ _ h => h) (by kernel_rfl) (fun u => by go_simp; try rfl) ?_
    try simp only [Act.put, pz0, pz1, pz2]
    refine PF.pf_take0 1 (by kernel_rfl) rfl (fun _ _ _ _ _ h => h) (by kernel_rfl) (fun u => by go_simp; try rfl) ?_
    try simp only [Act.put, pz0, pz1, pz2]
    refine PF.pf_take0 2 (by kernel_rfl) rfl (fun _ _ _ _ _ h => h) (by kernel_rfl) (fun u => by go_simp; try rfl) ?_
    try simp only [Act.put, pz0, pz1, pz2]
    refine PF.pf_take0 3 (by kernel_rfl) rfl (fun _ _ _ _ _ h => h) (by kernel_rfl) (fun u => by go_simp; try rfl) ?_
    try simp only [Act.put, pz0, pz1, pz2]
    refine PF.pf_fork [4, 5] (by kernel_rfl) rfl (PF.fork_cons ?_ (PF.fork_cons ?_ PF.fork_nil))
    -- number 4 first
    · refine PF.step_one rfl (by kernel_rfl) (fun K hK => ?_)
      go_simp
      refine hK _ _ (by repeat (first | exact PF.owes_nil | refine PF.owes_left ?_ | refine PF.owes_no (by decide +kernel) ?_ | refine PF.owes_yes (by first | rfl | assumption | go_simp) ?_)) ?_
      clear hK K
      try simp only [Act.put, pz0, pz1, pz2]
      refine PF.pf_exec 5 (by kernel_rfl) rfl (by kernel_rfl) (fun K hK => ?_)
      go_simp
      refine hK _ _ (by repeat (first | exact PF.owes_nil | refine PF.owes_left ?_ | refine PF.owes_no (by decide +kernel) ?_ | refine PF.owes_yes (by first | rfl | assumption | go_simp) ?_)) ?_
      clear hK K
      try simp only [Act.put, pz0, pz1, pz2]
      refine PF.pf_take0 6 (by kernel_rfl) rfl (fun _ _ _ _ _ h => h) (by kernel_rfl) (fun u => by go_simp; try rfl) ?_
      try simp only [Act.put, pz0, pz1, pz2]
      refine PF.pf_take0 7 (by kernel_rfl) rfl (fun _ _ _ _ _ h => h) (by kernel_rfl) (fun u => by go_simp; try rfl) ?_
      try simp only [Act.put, pz0, pz1, pz2]
      refine PF.pf_exec 8 (by kernel_rfl) rfl (by kernel_rfl) (fun K hK => ?_)
      go_simp
      refine hc.mono ?_
      rintro e w' ⟨rfl, hS', hM'⟩
      refine hK _ _ (by repeat (first | exact PF.owes_nil | refine PF.owes_left ?_ | refine PF.owes_no (by decide +kernel) ?_ | refine PF.owes_yes (by first | rfl | assumption | go_simp) ?_)) ?_
      clear hK K
      try simp only [Act.put, pz0, pz1, pz2]
      refine PF.pf_done (by kernel_rfl) ?_
      exact ⟨rfl, hS', HM1.out.trans hM'⟩
    -- number 5 first
    · refine PF.step_one rfl (by kernel_rfl) (fun K hK => ?_)
      go_simp
      refine hK _ _ (by repeat (first | exact PF.owes_nil | refine PF.owes_left ?_ | refine PF.owes_no (by decide +kernel) ?_ | refine PF.owes_yes (by first | rfl | assumption | go_simp) ?_)) ?_
      clear hK K
      try simp only [Act.put, pz0, pz1, pz2]
      refine PF.pf_take0 6 (by kernel_rfl) rfl (fun _ _ _ _ _ h => h) (by kernel_rfl) (fun u => by go_simp; try rfl) ?_
      try simp only [Act.put, pz0, pz1, pz2]
      refine PF.pf_take0 7 (by kernel_rfl) rfl (fun _ _ _ _ _ h => h) (by kernel_rfl) (fun u => by go_simp; try rfl) ?_
      try simp only [Act.put, pz0, pz1, pz2]
      refine PF.pf_exec 4 (by kernel_rfl) rfl (by kernel_rfl) (fun K hK => ?_)
      go_simp
      refine hK _ _ (by repeat (first | exact PF.owes_nil | refine PF.owes_left ?_ | refine PF.owes_no (by decide +kernel) ?_ | refine PF.owes_yes (by first | rfl | assumption | go_simp) ?_)) ?_
      clear hK K
      try simp only [Act.put, pz0, pz1, pz2]
      refine PF.pf_exec 8 (by kernel_rfl) rfl (by kernel_rfl) (fun K hK => ?_)
      go_simp
      refine hc.mono ?_
      rintro e w' ⟨rfl, hS', hM'⟩
      refine hK _ _ (by repeat (first | exact PF.owes_nil | refine PF.owes_left ?_ | refine PF.owes_no (by decide +kernel) ?_ | refine PF.owes_yes (by first | rfl | assumption | go_simp) ?_)) ?_
      clear hK K
      try simp only [Act.put, pz0, pz1, pz2]
      refine PF.pf_done (by kernel_rfl) ?_
      exact ⟨rfl, hS', HM1.out.trans hM'⟩
  rintro w2 ⟨hS', hM'⟩
  have hz' : (fInt l S1 47).1.size = 56 := by
    rw [← HZ1.out]
    simp [fInt_size, fNum_size, fBal_size, fPl_size, fold_size (fInt_size l), fold_size (fNum_size l), fold_size (fBal_size l)]
  obtain ⟨S2, e'⟩ : ∃ S, S = fInt l S1 47 := ⟨_, rfl⟩
  rw [← e'] at hS' hz'
  have HS2 := Lib.hid hS'
  have HM2 := Lib.hid hM'
  have HZ2 := Lib.hid hz'
  have HE2 := Lib.hid e'
  clear hS' hM' hz' e'
  go_wp2_with fail
  apply share (S := fun w' => RSt w' xb lo hi r pb T l ([48, 49].foldl (fNum l) S2) ∧ Mod (Rw lo hi pb) w1 w')
  case walk =>
    have hc := rnums_var HS2.out (HI.out _ HM2.out) [48, 49] (by simp) (by intro o' ho'; have := HZ2.out; simp at ho'; omega) (below_var w2 _) (ptrs_row [48, 49] 118)
    simp only [List.map_cons, List.map_nil, List.length_cons, List.length_nil, List.foldl_cons, List.foldl_nil, pc, Nat.zero_add, Nat.reduceAdd] at hc
    refine PF.pf_begin (by kernel_rfl) ?_
    refine PF.pf_take0 0 (by kernel_rfl) rfl (fun _ _ _ _ _ h => h) (by kernel_rfl) (fun u => by go_simp; try rfl) ?_
    try simp only [Act.put, pz0, pz1, pz2]
    refine PF.pf_take0 1 (by kernel_rfl) rfl (fun _ _ _ _ _ h => h) (by kernel_rfl) (fun u => by go_simp; try rfl) ?_
    try simp only [Act.put, pz0, pz1, pz2]
    refine PF.pf_take0 2 (by kernel_rfl) rfl (fun _ _ _ _ _ h => h) (by kernel_rfl) (fun u => by go_simp; try rfl) ?_
    try simp only [Act.put, pz0, pz1, pz2]
    refine PF.pf_take0 3 (by kernel_rfl) rfl (fun _ _ _ _ _ h => h) (by kernel_rfl) (fun u => by go_simp; try rfl) ?_
    try simp only [Act.put, pz0, pz1, pz2]
    refine PF.pf_take0 4 (by kernel_rfl) rfl (fun _ _ _ _ _ h => h) (by kernel_rfl) (fun u => by go_simp; try rfl) ?_
    try simp only [Act.put, pz0, pz1, pz2]
    refine PF.pf_take0 5 (by kernel_rfl) rfl (fun _ _ _ _ _ h => h) (by kernel_rfl) (fun u => by go_simp; try rfl) ?_
    try simp only [Act.put, pz0, pz1, pz2]
    refine PF.pf_take0 6 (by kernel_rfl) rfl (fun _ _ _ _ _ h => h) (by kernel_rfl) (fun u => by go_simp; try rfl) ?_
    try simp only [Act.put, pz0, pz1, pz2]
    refine PF.pf_fork [7, 8] (by kernel_rfl) rfl (PF.fork_cons ?_ (PF.fork_cons ?_ PF.fork_nil))
    -- number 7 first
    · refine PF.step_one rfl (by kernel_rfl) (fun K hK => ?_)
      go_simp
      refine hK _ _ (by repeat (first | exact PF.owes_nil | refine PF.owes_left ?_ | refine PF.owes_no (by decide +kernel) ?_ | refine PF.owes_yes (by first | rfl | assumption | go_simp) ?_)) ?_
      clear hK K
      try simp only [Act.put, pz0, pz1, pz2]
      refine PF.pf_exec 8 (by kernel_rfl) rfl (by kernel_rfl) (fun K hK => ?_)
      go_simp
      refine hK _ _ (by repeat (first | exact PF.owes_nil | refine PF.owes_left ?_ | refine PF.owes_no (by decide +kernel) ?_ | refine PF.owes_yes (by first | rfl | assumption | go_simp) ?_)) ?_
      clear hK K
      try simp only [Act.put, pz0, pz1, pz2]
      refine PF.pf_take0 9 (by kernel_rfl) rfl (fun _ _ _ _ _ h => h) (by kernel_rfl) (fun u => by go_simp; try rfl) ?_
      try simp only [Act.put, pz0, pz1, pz2]
      refine PF.pf_take0 10 (by kernel_rfl) rfl (fun _ _ _ _ _ h => h) (by kernel_rfl) (fun u => by go_simp; try rfl) ?_
      try simp only [Act.put, pz0, pz1, pz2]
      refine PF.pf_exec 11 (by kernel_rfl) rfl (by kernel_rfl) (fun K hK => ?_)
      go_simp
      refine hc.mono ?_
      rintro e w' ⟨rfl, hS', hM'⟩
      refine hK _ _ (by repeat (first | exact PF.owes_nil | refine PF.owes_left ?_ | refine PF.owes_no (by decide +kernel) ?_ | refine PF.owes_yes (by first | rfl | assumption | go_simp) ?_)) ?_
      clear hK K
      try simp only [Act.put, pz0, pz1, pz2]
      refine PF.pf_done (by kernel_rfl) ?_
      exact ⟨rfl, hS', HM2.out.trans hM'⟩
    -- number 8 first
    · refine PF.step_one rfl (by kernel_rfl) (fun K hK => ?_)
      go_simp
      refine hK _ _ (by repeat (first | exact PF.owes_nil | refine PF.owes_left ?_ | refine PF.owes_no (by decide +kernel) ?_ | refine PF.owes_yes (by first | rfl | assumption | go_simp) ?_)) ?_
      clear hK K
      try simp only [Act.put, pz0, pz1, pz2]
      refine PF.pf_take0 9 (by kernel_rfl) rfl (fun _ _ _ _ _ h => h) (by kernel_rfl) (fun u => by go_simp; try rfl) ?_
      try simp only [Act.put, pz0, pz1, pz2]
      refine PF.pf_take0 10 (by kernel_rfl) rfl (fun _ _ _ _ _ h => h) (by kernel_rfl) (fun u => by go_simp; try rfl) ?_
      try simp only [Act.put, pz0, pz1, pz2]
      refine PF.pf_exec 7 (by kernel_rfl) rfl (by kernel_rfl) (fun K hK => ?_)
      go_simp
      refine hK _ _ (by repeat (first | exact PF.owes_nil | refine PF.owes_left ?_ | refine PF.owes_no (by decide +kernel) ?_ | refine PF.owes_yes (by first | rfl | assumption | go_simp) ?_)) ?_
      clear hK K
      try simp only [Act.put, pz0, pz1, pz2]
      refine PF.pf_exec 11 (by kernel_rfl) rfl (by kernel_rfl) (fun K hK => ?_)
      go_simp
      refine hc.mono ?_
      rintro e w' ⟨rfl, hS', hM'⟩
      refine hK _ _ (by repeat (first | exact PF.owes_nil | refine PF.owes_left ?_ | refine PF.owes_no (by decide +kernel) ?_ | refine PF.owes_yes (by first | rfl | assumption | go_simp) ?_)) ?_
      clear hK K
      try simp only [Act.put, pz0, pz1, pz2]
      refine PF.pf_done (by kernel_rfl) ?_
      exact ⟨rfl, hS', HM2.out.trans hM'⟩
  rintro w3 ⟨hS', hM'⟩
  have hz' : ([48, 49].foldl (fNum l) S2).1.size = 56 := by
    rw [← HZ2.out]
    simp [fInt_size, fNum_size, fBal_size, fPl_size, fold_size (fInt_size l), fold_size (fNum_size l), fold_size (fBal_size l)]
  obtain ⟨S3, e'⟩ : ∃ S, S = [48, 49].foldl (fNum l) S2 := ⟨_, rfl⟩
  rw [← e'] at hS' hz'
  have HS3 := Lib.hid hS'
  have HM3 := Lib.hid hM'
  have HZ3 := Lib.hid hz'
  have HE3 := Lib.hid e'
  clear hS' hM' hz' e'
  go_wp2_with fail
  have hbx := HBX.out _ HM3.out
  have hRb : RSt w3 xb lo hi r rb 3 l (#[.int .i64 v0], S3.2) := ⟨HS3.out.rd, HS3.out.me, hbx, HS3.out.ax, HRB.out.1, HRB.out.2.1⟩
  have hc := rints_var hRb (HI.out _ HM3.out) [0] (by simp) (by intro o' ho'; simp at ho'; subst ho'; show 0 < 1; omega) (below_new w3 _) (ptrs_row0 [0] 109)
  simp only [List.map_cons, List.map_nil, List.length_cons, List.length_nil, List.foldl_cons, List.foldl_nil, pc, Nat.zero_add] at hc
  refine hc.mono ?_
  rintro e wb ⟨rfl, hS', hM0⟩
  have b0 : wb.cell? ⟨rb, 0, none⟩ = some (.int .i64 ((rInt l S3.2).1 : Int)) := hS'.pk.cell 0
  have hP0 : RSt wb xb lo hi r pb T l (S3.1, (rInt l S3.2).2) := ⟨hS'.rd, hS'.me, HS3.out.pk.mod hM0 fun e => e.elim HS3.out.ap fun e => HRB.out.2.2 e.symm, HS3.out.ax, HS3.out.ap, HS3.out.ne⟩
  have hMb : Mod (Rw lo hi pb) w0 wb := (HM01.out.trans HM3.out).join hM0 fun b hb e => e.elim .inl fun e => by have := HRB2.out; omega
  have HI := HI0
  obtain ⟨m1, f1⟩ := hP0.at_ (Mod.refl _ _) (j := 50) (by have := HZ3.out; simp only; omega)
  obtain ⟨hP1, hM1⟩ := hP0.put (s := (rInt l S3.2).2) hP0.rd (Mod.refl _ _) 50 (.int .i64 ((rInt l S3.2).1 : Int))
  simp only at m1
  have hu : ∃ u, wb.cell? ⟨pb, 50, none⟩ = some u := ⟨_, m1⟩
  clear m1
  obtain ⟨u50, m1⟩ := hu
  have HP1 := Lib.hid hP1
  have hM' := hMb.trans hM1
  have HM4 := Lib.hid hM'
  obtain ⟨S4, e'⟩ : ∃ S, S = fInt l S3 50 := ⟨_, rfl⟩
  have hz' : S4.1.size = 56 := by rw [e', fInt_size]; exact HZ3.out
  have HZ4 := Lib.hid hz'
  have HE4 := Lib.hid e'
  have HS4 : Hid (RSt (wb.setCell ⟨pb, 50, none⟩ (.int .i64 ((rInt l S3.2).1 : Int))) xb lo hi r pb T l S4) := by show RSt _ _ _ _ _ _ _ _ _; rw [e']; exact HP1.out
  clear hc hS' hM0 hP0 hMb hM1 hP1 hRb hbx HP1 hz' e' hM'
  go_wp2_with fail
  generalize wb.setCell ⟨pb, 50, none⟩ (.int .i64 ((rInt l S3.2).1 : Int)) = w4 at *
  clear m1 f1 b0
  apply share (S := fun w' => RSt w' xb lo hi r pb T l (fNum l S4 51) ∧ Mod (Rw lo hi pb) w0 w')
  case walk =>
    have hc := rnums_var HS4.out (HI.out _ HM4.out) [51] (by simp) (by intro o' ho'; have := HZ4.out; simp at ho'; omega) (below_var w4 _) (ptrs_row [51] 118)
    simp only [List.map_cons, List.map_nil, List.length_cons, List.length_nil, List.foldl_cons, List.foldl_nil, pc, Nat.zero_add, Nat.reduceAdd] at hc
    refine PF.pf_begin (by kernel_rfl) ?_
    refine PF.pf_take0 0 (by kernel_rfl) rfl (fun _ _ _ _ _ h => h) (by kernel_rfl) (fun u => by go_simp; try rfl) ?_
    try simp only [Act.put, pz0, pz1, pz2]
    refine PF.pf_take0 1 (by kernel_rfl) rfl (fun _ _ _ _ _ h => h) (by kernel_rfl) (fun u => by go_simp; try rfl) ?_
    try simp only [Act.put, pz0, pz1, pz2]
    refine PF.pf_take0 2 (by kernel_rfl) rfl (fun _ _ _ _ _ h => h) (by kernel_rfl) (fun u => by go_simp; try rfl) ?_
    try simp only [Act.put, pz0, pz1, pz2]
    refine PF.pf_take0 3 (by kernel_rfl) rfl (fun _ _ _ _ _ h => h) (by kernel_rfl) (fun u => by go_simp; try rfl) ?_
    try simp only [Act.put, pz0, pz1, pz2]
    refine PF.pf_fork [4, 5] (by kernel_rfl) rfl (PF.fork_cons ?_ (PF.fork_cons ?_ PF.fork_nil))
    -- number 4 first
    · refine PF.step_one rfl (by kernel_rfl) (fun K hK => ?_)
      go_simp
      refine hK _ _ (by repeat (first | exact PF.owes_nil | refine PF.owes_left ?_ | refine PF.owes_no (by decide +kernel) ?_ | refine PF.owes_yes (by first | rfl | assumption | go_simp) ?_)) ?_
      clear hK K
      try simp only [Act.put, pz0, pz1, pz2]
      refine PF.pf_exec 5 (by kernel_rfl) rfl (by kernel_rfl) (fun K hK => ?_)
      go_simp
      refine hK _ _ (by repeat (first | exact PF.owes_nil | refine PF.owes_left ?_ | refine PF.owes_no (by decide +kernel) ?_ | refine PF.owes_yes (by first | rfl | assumption | go_simp) ?_)) ?_
      clear hK K
      try simp only [Act.put, pz0, pz1, pz2]
      refine PF.pf_take0 6 (by kernel_rfl) rfl (fun _ _ _ _ _ h => h) (by kernel_rfl) (fun u => by go_simp; try rfl) ?_
      try simp only [Act.put, pz0, pz1, pz2]
      refine PF.pf_take0 7 (by kernel_rfl) rfl (fun _ _ _ _ _ h => h) (by kernel_rfl) (fun u => by go_simp; try rfl) ?_
      try simp only [Act.put, pz0, pz1, pz2]
      refine PF.pf_exec 8 (by kernel_rfl) rfl (by kernel_rfl) (fun K hK => ?_)
      go_simp
      refine hc.mono ?_
      rintro e w' ⟨rfl, hS', hM'⟩
      refine hK _ _ (by repeat (first | exact PF.owes_nil | refine PF.owes_left ?_ | refine PF.owes_no (by decide +kernel) ?_ | refine PF.owes_yes (by first | rfl | assumption | go_simp) ?_)) ?_
      clear hK K
      try simp only [Act.put, pz0, pz1, pz2]
      refine PF.pf_done (by kernel_rfl) ?_
      exact ⟨rfl, hS', HM4.out.trans hM'⟩
    -- number 5 first
    · refine PF.step_one rfl (by kernel_rfl) (fun K hK => ?_)
      go_simp
      refine hK _ _ (by repeat (first | exact PF.owes_nil | refine PF.owes_left ?_ | refine PF.owes_no (by decide +kernel) ?_ | refine PF.owes_yes (by first | rfl | assumption | go_simp) ?_)) ?_
      clear hK K
      try simp only [Act.put, pz0, pz1, pz2]
      refine PF.pf_take0 6 (by kernel_rfl) rfl (fun _ _ _ _ _ h => h) (by kernel_rfl) (fun u => by go_simp; try rfl) ?_
      try simp only [Act.put, pz0, pz1, pz2]
      refine PF.pf_take0 7 (by kernel_rfl) rfl (fun _ _ _ _ _ h => h) (by kernel_rfl) (fun u => by go_simp; try rfl) ?_
      try simp only [Act.put, pz0, pz1, pz2]
      refine PF.pf_exec 4 (by kernel_rfl) rfl (by kernel_rfl) (fun K hK => ?_)
      go_simp
      refine hK _ _ (by repeat (first | exact PF.owes_nil | refine PF.owes_left ?_ | refine PF.owes_no (by decide +kernel) ?_ | refine PF.owes_yes (by first | rfl | assumption | go_simp) ?_)) ?_
      clear hK K
      try simp only [Act.put, pz0, pz1, pz2]
      refine PF.pf_exec 8 (by kernel_rfl) rfl (by kernel_rfl) (fun K hK => ?_)
      go_simp
      refine hc.mono ?_
      rintro e w' ⟨rfl, hS', hM'⟩
      refine hK _ _ (by repeat (first | exact PF.owes_nil | refine PF.owes_left ?_ | refine PF.owes_no (by decide +kernel) ?_ | refine PF.owes_yes (by first | rfl | assumption | go_simp) ?_)) ?_
      clear hK K
      try simp only [Act.put, pz0, pz1, pz2]
      refine PF.pf_done (by kernel_rfl) ?_
      exact ⟨rfl, hS', HM4.out.trans hM'⟩
  rintro w5 ⟨hS', hM'⟩
  have hz' : (fNum l S4 51).1.size = 56 := by
    rw [← HZ4.out]
    simp [fInt_size, fNum_size, fBal_size, fPl_size, fold_size (fInt_size l), fold_size (fNum_size l), fold_size (fBal_size l)]
  obtain ⟨S5, e'⟩ : ∃ S, S = fNum l S4 51 := ⟨_, rfl⟩
  rw [← e'] at hS' hz'
  have HS5 := Lib.hid hS'
  have HM5 := Lib.hid hM'
  have HZ5 := Lib.hid hz'
  have HE5 := Lib.hid e'
  clear hS' hM' hz' e'
  go_wp2_with fail
  apply share (S := fun w' => RSt w' xb lo hi r pb T l ([52, 53].foldl (fInt l) S5) ∧ Mod (Rw lo hi pb) w0 w')
  case walk =>
    have hc := rints_var HS5.out (HI.out _ HM5.out) [52, 53] (by simp) (by intro o' ho'; have := HZ5.out; simp at ho'; omega) (below_var w5 _) (ptrs_row [52, 53] 109)
    simp only [List.map_cons, List.map_nil, List.length_cons, List.length_nil, List.foldl_cons, List.foldl_nil, pc, Nat.zero_add, Nat.reduceAdd] at hc
    refine PF.pf_begin (by kernel_rfl) ?_
    refine PF.pf_take0 0 (by kernel_rfl) rfl (fun _ _ _ _ _ h => h) (by kernel_rfl) (fun u => by go_simp; try rfl) ?_
    try simp only [Act.put, pz0, pz1, pz2]
    refine PF.pf_take0 1 (by kernel_rfl) rfl (fun _ _ _ _ _ h => h) (by kernel_rfl) (fun u => by go_simp; try rfl) ?_
    try simp only [Act.put, pz0, pz1, pz2]
    refine PF.pf_take0 2 (by kernel_rfl) rfl (fun _ _ _ _ _ h => h) (by kernel_rfl) (fun u => by go_simp; try rfl) ?_
    try simp only [Act.put, pz0, pz1, pz2]
    refine PF.pf_take0 3 (by kernel_rfl) rfl (fun _ _ _ _ _ h => h) (by kernel_rfl) (fun u => by go_simp; try rfl) ?_
    try simp only [Act.put, pz0, pz1, pz2]
    refine PF.pf_take0 4 (by kernel_rfl) rfl (fun _ _ _ _ _ h => h) (by kernel_rfl) (fun u => by go_simp; try rfl) ?_
    try simp only [Act.put, pz0, pz1, pz2]
    refine PF.pf_take0 5 (by kernel_rfl) rfl (fun _ _ _ _ _ h => h) (by kernel_rfl) (fun u => by go_simp; try rfl) ?_
    try simp only [Act.put, pz0, pz1, pz2]
    refine PF.pf_take0 6 (by kernel_rfl) rfl (fun _ _ _ _ _ h => h) (by kernel_rfl) (fun u => by go_simp; try rfl) ?_
    try simp only [Act.put, pz0, pz1, pz2]
    refine PF.pf_fork [7, 8] (by kernel_rfl) rfl (PF.fork_cons ?_ (PF.fork_cons ?_ PF.fork_nil))
    -- number 7 first
    · refine PF.step_one rfl (by kernel_rfl) (fun K hK => ?_)
      go_simp
      refine hK _ _ (by repeat (first | exact PF.owes_nil | refine PF.owes_left ?_ | refine PF.owes_no (by decide +kernel) ?_ | refine PF.owes_yes (by first | rfl | assumption | go_simp) ?_)) ?_
      clear hK K
      try simp only [Act.put, pz0, pz1, pz2]
      refine PF.pf_exec 8 (by kernel_rfl) rfl (by kernel_rfl) (fun K hK => ?_)
      go_simp
      refine hK _ _ (by repeat (first | exact PF.owes_nil | refine PF.owes_left ?_ | refine PF.owes_no (by decide +kernel) ?_ | refine PF.owes_yes (by first | rfl | assumption | go_simp) ?_)) ?_
      clear hK K
      try simp only [Act.put, pz0, pz1, pz2]
      refine PF.pf_take0 9 (by kernel_rfl) rfl (fun _ _ _ _ _ h => h) (by kernel_rfl) (fun u => by go_simp; try rfl) ?_
      try simp only [Act.put, pz0, pz1, pz2]
      refine PF.pf_take0 10 (by kernel_rfl) rfl (fun _ _ _ _ _ h => h) (by kernel_rfl) (fun u => by go_simp; try rfl) ?_
      try simp only [Act.put, pz0, pz1, pz2]
      refine PF.pf_exec 11 (by kernel_rfl) rfl (by kernel_rfl) (fun K hK => ?_)
      go_simp
      refine hc.mono ?_
      rintro e w' ⟨rfl, hS', hM'⟩
      refine hK _ _ (by repeat (first | exact PF.owes_nil | refine PF.owes_left ?_ | refine PF.owes_no (by decide +kernel) ?_ | refine PF.owes_yes (by first | rfl | assumption | go_simp) ?_)) ?_
      clear hK K
      try simp only [Act.put, pz0, pz1, pz2]
      refine PF.pf_done (by kernel_rfl) ?_
      exact ⟨rfl, hS', HM5.out.trans hM'⟩
    -- number 8 first
    · refine PF.step_one rfl (by kernel_rfl) (fun K hK => ?_)
      go_simp
      refine hK _ _ (by repeat (first | exact PF.owes_nil | refine PF.owes_left ?_ | refine PF.owes_no (by decide +kernel) ?_ | refine PF.owes_yes (by first | rfl | assumption | go_simp) ?_)) ?_
      clear hK K
      try simp only [Act.put, pz0, pz1, pz2]
      refine PF.pf_take0 9 (by kernel_rfl) rfl (fun _ _ _ _ _ h => h) (by kernel_rfl) (fun u => by go_simp; try rfl) ?_
      try simp only [Act.put, pz0, pz1, pz2]
      refine PF.pf_take0 10 (by kernel_rfl) rfl (fun _ _ _ _ _ h => h) (by kernel_rfl) (fun u => by go_simp; try rfl) ?_
      try simp only [Act.put, pz0, pz1, pz2]
      refine PF.pf_exec 7 (by kernel_rfl) rfl (by kernel_rfl) (fun K hK => ?_)
      go_simp
      refine hK _ _ (by repeat (first | exact PF.owes_nil | refine PF.owes_left ?_ | refine PF.owes_no (by decide +kernel) ?_ | refine PF.owes_yes (by first | rfl | assumption | go_simp) ?_)) ?_
      clear hK K
      try simp only [Act.put, pz0, pz1, pz2]
      refine PF.pf_exec 11 (by kernel_rfl) rfl (by kernel_rfl) (fun K hK => ?_)
      go_simp
      refine hc.mono ?_
      rintro e w' ⟨rfl, hS', hM'⟩
      refine hK _ _ (by repeat (first | exact PF.owes_nil | refine PF.owes_left ?_ | refine PF.owes_no (by decide +kernel) ?_ | refine PF.owes_yes (by first | rfl | assumption | go_simp) ?_)) ?_
      clear hK K
      try simp only [Act.put, pz0, pz1, pz2]
      refine PF.pf_done (by kernel_rfl) ?_
      exact ⟨rfl, hS', HM5.out.trans hM'⟩
  rintro w6 ⟨hS', hM'⟩
  have hz' : ([52, 53].foldl (fInt l) S5).1.size = 56 := by
    rw [← HZ5.out]
    simp [fInt_size, fNum_size, fBal_size, fPl_size, fold_size (fInt_size l), fold_size (fNum_size l), fold_size (fBal_size l)]
  obtain ⟨S6, e'⟩ : ∃ S, S = [52, 53].foldl (fInt l) S5 := ⟨_, rfl⟩
  rw [← e'] at hS' hz'
  have HS6 := Lib.hid hS'
  have HM6 := Lib.hid hM'
  have HZ6 := Lib.hid hz'
  have HE6 := Lib.hid e'
  clear hS' hM' hz' e'
  go_wp2_with fail
  apply share (S := fun w' => RSt w' xb lo hi r pb T l (fNum l S6 54) ∧ Mod (Rw lo hi pb) w0 w')
  case walk =>
    have hc := rnums_var HS6.out (HI.out _ HM6.out) [54] (by simp) (by intro o' ho'; have := HZ6.out; simp at ho'; omega) (below_var w6 _) (ptrs_row [54] 118)
    simp only [List.map_cons, List.map_nil, List.length_cons, List.length_nil, List.foldl_cons, List.foldl_nil, pc, Nat.zero_add, Nat.reduceAdd] at hc
    refine PF.pf_begin (by kernel_rfl) ?_
    refine PF.pf_take0 0 (by kernel_rfl) rfl (fun _ _ _ _ _ h => h) (by kernel_rfl) (fun u => by go_simp; try rfl) ?_
    try simp only [Act.put, pz0, pz1, pz2]
    refine PF.pf_take0 1 (by kernel_rfl) rfl (fun _ _ _ _ _ h => h) (by kernel_rfl) (fun u => by go_simp; try rfl) ?_
    try simp only [Act.put, pz0, pz1, pz2]
    refine PF.pf_take0 2 (by kernel_rfl) rfl (fun _ _ _ _ _ h => h) (by kernel_rfl) (fun u => by go_simp; try rfl) ?_
    try simp only [Act.put, pz0, pz1, pz2]
    refine PF.pf_take0 3 (by kernel_rfl) rfl (fun _ _ _ _ _ h => h) (by kernel_rfl) (fun u => by go_simp; try rfl) ?_
    try simp only [Act.put, pz0, pz1, pz2]
    refine PF.pf_fork [4, 5] (by kernel_rfl) rfl (PF.fork_cons ?_ (PF.fork_cons ?_ PF.fork_nil))
    -- number 4 first
    · refine PF.step_one rfl (by kernel_rfl) (fun K hK => ?_)
      go_simp
      refine hK _ _ (by repeat (first | exact PF.owes_nil | refine PF.owes_left ?_ | refine PF.owes_no (by decide +kernel) ?_ | refine PF.owes_yes (by first | rfl | assumption | go_simp) ?_)) ?_
      clear hK K
      try simp only [Act.put, pz0, pz1, pz2]
      refine PF.pf_exec 5 (by kernel_rfl) rfl (by kernel_rfl) (fun K hK => ?_)
      go_simp
      refine hK _ _ (by repeat (first | exact PF.owes_nil | refine PF.owes_left ?_ | refine PF.owes_no (by decide +kernel) ?_ | refine PF.owes_yes (by first | rfl | assumption | go_simp) ?_)) ?_
      clear hK K
      try simp only [Act.put, pz0, pz1, pz2]
      refine PF.pf_take0 6 (by kernel_rfl) rfl (fun _ _ _ _ _ h => h) (by kernel_rfl) (fun u => by go_simp; try rfl) ?_
      try simp only [Act.put, pz0, pz1, pz2]
      refine PF.pf_take0 7 (by kernel_rfl) rfl (fun _ _ _ _ _ h => h) (by kernel_rfl) (fun u => by go_simp; try rfl) ?_
      try simp only [Act.put, pz0, pz1, pz2]
      refine PF.pf_exec 8 (by kernel_rfl) rfl (by kernel_rfl) (fun K hK => ?_)
      go_simp
      refine hc.mono ?_
      rintro e w' ⟨rfl, hS', hM'⟩
      refine hK _ _ (by repeat (first | exact PF.owes_nil | refine PF.owes_left ?_ | refine PF.owes_no (by decide +kernel) ?_ | refine PF.owes_yes (by first | rfl | assumption | go_simp) ?_)) ?_
      clear hK K
      try simp only [Act.put, pz0, pz1, pz2]
      refine PF.pf_done (by kernel_rfl) ?_
      exact ⟨rfl, hS', HM6.out.trans hM'⟩
    -- number 5 first
    · refine PF.step_one rfl (by kernel_rfl) (fun K hK => ?_)
      go_simp
      refine hK _ _ (by repeat (first | exact PF.owes_nil | refine PF.owes_left ?_ | refine PF.owes_no (by decide +kernel) ?_ | refine PF.owes_yes (by first | rfl | assumption | go_simp) ?_)) ?_
      clear hK K
      try simp only [Act.put, pz0, pz1, pz2]
      refine PF.pf_take0 6 (by kernel_rfl) rfl (fun _ _ _ _ _ h => h) (by kernel_rfl) (fun u => by go_simp; try rfl) ?_
      try simp only [Act.put, pz0, pz1, pz2]
      refine PF.pf_take0 7 (by kernel_rfl) rfl (fun _ _ _ _ _ h => h) (by kernel_rfl) (fun u => by go_simp; try rfl) ?_
      try simp only [Act.put, pz0, pz1, pz2]
      refine PF.pf_exec 4 (by kernel_rfl) rfl (by kernel_rfl) (fun K hK => ?_)
      go_simp
      refine hK _ _ (by repeat (first | exact PF.owes_nil | refine PF.owes_left ?_ | refine PF.owes_no (by decide +kernel) ?_ | refine PF.owes_yes (by first | rfl | assumption | go_simp) ?_)) ?_
      clear hK K
      try simp only [Act.put, pz0, pz1, pz2]
      refine PF.pf_exec 8 (by kernel_rfl) rfl (by kernel_rfl) (fun K hK => ?_)
      go_simp
      refine hc.mono ?_
      rintro e w' ⟨rfl, hS', hM'⟩
      refine hK _ _ (by repeat (first | exact PF.owes_nil | refine PF.owes_left ?_ | refine PF.owes_no (by decide +kernel) ?_ | refine PF.owes_yes (by first | rfl | assumption | go_simp) ?_)) ?_
      clear hK K
      try simp only [Act.put, pz0, pz1, pz2]
      refine PF.pf_done (by kernel_rfl) ?_
      exact ⟨rfl, hS', HM6.out.trans hM'⟩
  rintro w7 ⟨hS', hM'⟩
  have hz' : (fNum l S6 54).1.size = 56 := by
    rw [← HZ6.out]
    simp [fInt_size, fNum_size, fBal_size, fPl_size, fold_size (fInt_size l), fold_size (fNum_size l), fold_size (fBal_size l)]
  obtain ⟨S7, e'⟩ : ∃ S, S = fNum l S6 54 := ⟨_, rfl⟩
  rw [← e'] at hS' hz'
  have HS7 := Lib.hid hS'
  have HM7 := Lib.hid hM'
  have HZ7 := Lib.hid hz'
  have HE7 := Lib.hid e'
  clear hS' hM' hz' e'
  go_wp2_with fail
  have hc := rtext_any (HS7.out.below (Below.refl _ _).drew) hll 55 (by have := HZ7.out; omega)
  unfold pc at hc
  refine PF.pf_begin (by kernel_rfl) ?_
  refine PF.pf_take0 0 (by kernel_rfl) rfl (fun _ _ _ _ _ h => h) (by kernel_rfl) (fun u => by go_simp; try rfl) ?_
  try simp only [Act.put, pz0, pz1, pz2]
  refine PF.pf_take0 1 (by kernel_rfl) rfl (fun _ _ _ _ _ h => h) (by kernel_rfl) (fun u => by go_simp; try rfl) ?_
  try simp only [Act.put, pz0, pz1, pz2]
  refine PF.pf_take0 2 (by kernel_rfl) rfl (fun _ _ _ _ _ h => h) (by kernel_rfl) (fun u => by go_simp; try rfl) ?_
  try simp only [Act.put, pz0, pz1, pz2]
  refine PF.pf_take0 3 (by kernel_rfl) rfl (fun _ _ _ _ _ h => h) (by kernel_rfl) (fun u => by go_simp; try rfl) ?_
  try simp only [Act.put, pz0, pz1, pz2]
  refine PF.pf_exec 4 (by kernel_rfl) rfl (by kernel_rfl) (fun K hK => ?_)
  go_simp
  refine hK _ _ (by repeat (first | exact PF.owes_nil | refine PF.owes_left ?_ | refine PF.owes_no (by decide +kernel) ?_ | refine PF.owes_yes (by first | rfl | assumption | go_simp) ?_)) ?_
  clear hK K
  try simp only [Act.put, pz0, pz1, pz2]
  refine PF.pf_take0 5 (by kernel_rfl) rfl (fun _ _ _ _ _ h => h) (by kernel_rfl) (fun u => by go_simp; try rfl) ?_
  try simp only [Act.put, pz0, pz1, pz2]
  refine PF.pf_take0 6 (by kernel_rfl) rfl (fun _ _ _ _ _ h => h) (by kernel_rfl) (fun u => by go_simp; try rfl) ?_
  try simp only [Act.put, pz0, pz1, pz2]
  refine PF.pf_exec 7 (by kernel_rfl) rfl (by kernel_rfl) (fun K hK => ?_)
  go_simp
  refine hc.mono ?_
  rintro e wt ⟨rfl, g, c, hc1, hc2, hg, hW, hS', hM'⟩
  refine hK _ _ (by repeat (first | exact PF.owes_nil | refine PF.owes_left ?_ | refine PF.owes_no (by decide +kernel) ?_ | refine PF.owes_yes (by first | rfl | assumption | go_simp) ?_)) ?_
  clear hK K
  try simp only [Act.put, pz0, pz1, pz2]
  refine PF.pf_done (by kernel_rfl) ?_
  have hfin : replyR l S0 = S7 := by unfold replyR; rw [HE7.out, HE6.out, HE5.out, HE4.out, HE3.out, HE2.out, HE1.out]
  have HW := Lib.hid hW
  have HS' := Lib.hid hS'
  have HMt := Lib.hid (HM7.out.trans (((Mod.refl _ w7).drew).trans hM'))
  have HG := Lib.hid (Nat.le_trans HM7.out.size hg)
  clear hc hW hS' hM' hg
  go_wp2_with fail
  go_ret
  rw [hfin]
  exact ⟨rfl, g, c, hc1, hc2, HG.out, HW.out, HS'.out, HMt.out⟩

end Go.Proofs.YtdckdjkkaangmaaDoor
