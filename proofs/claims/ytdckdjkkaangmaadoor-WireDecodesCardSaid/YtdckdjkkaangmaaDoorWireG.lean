/- The reading walker over the fields. -/
import Derived.Test.YtdckdjkkaangmaaDoorWireF
namespace Go.Proofs.YtdckdjkkaangmaaDoor
set_option linter.unusedVariables false
set_option linter.unusedSimpArgs false
set_option maxRecDepth 100000
open Go.RowKit

set_option maxHeartbeats 16000000 in
theorem rfields_resp {w0 : World} {xb lo hi r pb : Nat} {T : TypeId} {l : List UInt8} {S0 : RS} (h : RSt w0 xb lo hi r pb T l S0) (hhi : hi ≤ w0.heap.size) (hll : l.length ≤ 1000000) (hk : S0.1[0]? = some (.int .i64 4)) (hs : S0.1.size = 56) :
    Calls Tryd.prog 22 #[.iface 64 (.pointer (some ⟨xb, 0, none⟩)), pc pb 0] w0 (RText w0 xb lo hi r pb T l (respR l S0) 37) := by
  have hm1 := rd_ints xb
  have hm2 := rd_nums xb
  have hm3 := rd_text xb
  have hm4 := rd_list xb
  have HI : Hid (∀ w', Mod (Rw lo hi pb) w0 w' → hi ≤ w'.heap.size) := fun w' hm => Nat.le_trans hhi hm.size
  have k0 := h.pk.cell 0
  rw [hk] at k0
  have HS0 := Lib.hid h
  have HZ0 := Lib.hid hs
  have HM0 : Hid (Mod (Rw lo hi pb) w0 w0) := Mod.refl _ _
  have HK := Lib.hid hk
  clear h hk hs
  unfold pc
  go_enter Tryd.func22, Tryd.ntmps22
  go_wp2_with fail
  clear k0
  refine (rplace_any HS0.out (HI.out _ HM0.out) 29 (by have := HZ0.out; omega)).mono ?_
  rintro e w1 ⟨rfl, hS', hM0⟩
  have hM' := HM0.out.trans hM0
  replace hS' : RSt w1 xb lo hi r pb T l (fPl l S0 29) := hS'
  clear hM0
  have hz' : (fPl l S0 29).1.size = 56 := by
    rw [← HZ0.out]
    simp [fInt_size, fNum_size, fBal_size, fPl_size, fold_size (fInt_size l), fold_size (fNum_size l), fold_size (fBal_size l)]
  obtain ⟨S1, e'⟩ : ∃ S, S = fPl l S0 29 := ⟨_, rfl⟩
  rw [← e'] at hS' hz'
  have HS1 := Lib.hid hS'
  have HM1 := Lib.hid hM'
  have HZ1 := Lib.hid hz'
  have HE1 := Lib.hid e'
  clear hS' hM' hz' e'
  go_wp2_with fail
  apply share (S := fun w' => RSt w' xb lo hi r pb T l ([31, 32].foldl (fInt l) S1) ∧ Mod (Rw lo hi pb) w0 w')
  case walk =>
    have hc := rints_var HS1.out (HI.out _ HM1.out) [31, 32] (by simp) (by intro o' ho'; have := HZ1.out; simp at ho'; omega) (below_var w1 _) (ptrs_row [31, 32] 109)
    simp only [List.map_cons, List.map_nil, List.length_cons, List.length_nil, List.foldl_cons, List.foldl_nil, pc, Nat.zero_add, Nat.reduceAdd] at hc
    refine PF.pf_begin (by kernel_rfl) ?_
    refine PF.pf_take0 0 (by kernel_rfl) rfl (fun _ _ _ _ _ h => h) (by kernel_rfl) (fun u => by go_simp; try rfl) ?_
    try simp only [Act.put, pz0, pz1, pz2]
    refine PF.pf_take0 1 (by kernel_rfl) rfl (fun _ _ _ _ _ h => h) (by kernel_rfl) (fun u => by go_simp; try rfl) ?_
    try simp only [Act.put, pz0, pz1, pz2]
    refine PF.pf_take0 2 (by kernel_rfl) rfl (fun _ _ _ _ _ h => h) (by kernel_rfl) (fun u => by go_simp; try rfl) ?_
    try simp only [Act.put, pz0, pz1, pz2]
    refine PF.pf_take0 3 (by kernel_rfl) rfl (fun _ _ _ _ _ h => h) (by kernel_rfl) (fun u => by go_simp; try rfl) ?_
    try simp only [Act.put, pz0, pz1, pz2]
    refine PF.pf_take0 4 (by kernel_rfl) rfl (fun _ _ _ _ _ h => h) (by kernel_rfl) (fun u => by go_simp; try rfl) ?_
    try simp only [Act.put, pz0, pz1, pz2]
    refine PF.pf_take0 5 (by kernel_rfl) rfl (fun _ _ _ _ _ h => h) (by kernel_rfl) (fun u => by go_simp; try rfl) ?_
    try simp only [Act.put, pz0, pz1, pz2]
    refine PF.pf_take0 6 (by kernel_rfl) rfl (fun _ _ _ _ _ h => h) (by kernel_rfl) (fun u => by go_simp; try rfl) ?_
    try simp only [Act.put, pz0, pz1, pz2]
    refine PF.pf_fork [7, 8] (by kernel_rfl) rfl (PF.fork_cons ?_ (PF.fork_cons ?_ PF.fork_nil))
    -- number 7 first
    · refine PF.step_one rfl (by kernel_rfl) (fun K hK => ?_)
      go_simp
      refine hK _ _ (by repeat (first | exact PF.owes_nil | refine PF.owes_left ?_ | refine PF.owes_no (by decide +kernel) ?_ | refine PF.owes_yes (by first | rfl | assumption | go_simp) ?_)) ?_
      clear hK K
      try simp only [Act.put, pz0, pz1, pz2]
      refine PF.pf_exec 8 (by kernel_rfl) rfl (by kernel_rfl) (fun K hK => ?_)
      go_simp
      refine hK _ _ (by repeat (first | exact PF.owes_nil | refine PF.owes_left ?_ | refine PF.owes_no (by decide +kernel) ?_ | refine PF.owes_yes (by first | rfl | assumption | go_simp) ?_)) ?_
      clear hK K
      try simp only [Act.put, pz0, pz1, pz2]
      refine PF.pf_take0 9 (by kernel_rfl) rfl (fun _ _ _ _ _ h => h) (by kernel_rfl) (fun u => by go_simp; try rfl) ?_
      try simp only [Act.put, pz0, pz1, pz2]
      refine PF.pf_take0 10 (by kernel_rfl) rfl (fun _ _ _ _ _ h => h) (by kernel_rfl) (fun u => by go_simp; try rfl) ?_
      try simp only [Act.put, pz0, pz1, pz2]
      refine PF.pf_exec 11 (by kernel_rfl) rfl (by kernel_rfl) (fun K hK => ?_)
      go_simp
      refine hc.mono ?_
      rintro e w' ⟨rfl, hS', hM'⟩
      refine hK _ _ (by repeat (first | exact PF.owes_nil | refine PF.owes_left ?_ | refine PF.owes_no (by decide +kernel) ?_ | refine PF.owes_yes (by first | rfl | assumption | go_simp) ?_)) ?_
      clear hK K
      try simp only [Act.put, pz0, pz1, pz2]
      refine PF.pf_done (by kernel_rfl) ?_
      exact ⟨rfl, hS', HM1.out.trans hM'⟩
    -- number 8 first
    · refine PF.step_one rfl (by kernel_rfl) (fun K hK => ?_)
      go_simp
      refine hK _ _ (by repeat (first | exact PF.owes_nil | refine PF.owes_left ?_ | refine PF.owes_no (by decide +kernel) ?_ | refine PF.owes_yes (by first | rfl | assumption | go_simp) ?_)) ?_
      clear hK K
      try simp only [Act.put, pz0, pz1, pz2]
      refine PF.pf_take0 9 (by kernel_rfl) rfl (fun _ _ _ _ _ h => h) (by kernel_rfl) (fun u => by go_simp; try rfl) ?_
      try simp only [Act.put, pz0, pz1, pz2]
      refine PF.pf_take0 10 (by kernel_rfl) rfl (fun _ _ _ _ _ h => h) (by kernel_rfl) (fun u => by go_simp; try rfl) ?_
      try simp only [Act.put, pz0, pz1, pz2]
      refine PF.pf_exec 7 (by kernel_rfl) rfl (by kernel_rfl) (fun K hK => ?_)
      go_simp
      refine hK _ _ (by repeat (first | exact PF.owes_nil | refine PF.owes_left ?_ | refine PF.owes_no (by decide +kernel) ?_ | refine PF.owes_yes (by first | rfl | assumption | go_simp) ?_)) ?_
      clear hK K
      try simp only [Act.put, pz0, pz1, pz2]
      refine PF.pf_exec 11 (by kernel_rfl) rfl (by kernel_rfl) (fun K hK => ?_)
      go_simp
      refine hc.mono ?_
      rintro e w' ⟨rfl, hS', hM'⟩
      refine hK _ _ (by repeat (first | exact PF.owes_nil | refine PF.owes_left ?_ | refine PF.owes_no (by decide +kernel) ?_ | refine PF.owes_yes (by first | rfl | assumption | go_simp) ?_)) ?_
      clear hK K
      try simp only [Act.put, pz0, pz1, pz2]
      refine PF.pf_done (by kernel_rfl) ?_
      exact ⟨rfl, hS', HM1.out.trans hM'⟩
  rintro w2 ⟨hS', hM'⟩
  have hz' : ([31, 32].foldl (fInt l) S1).1.size = 56 := by
    rw [← HZ1.out]
    simp [fInt_size, fNum_size, fBal_size, fPl_size, fold_size (fInt_size l), fold_size (fNum_size l), fold_size (fBal_size l)]
  obtain ⟨S2, e'⟩ : ∃ S, S = [31, 32].foldl (fInt l) S1 := ⟨_, rfl⟩
  rw [← e'] at hS' hz'
  have HS2 := Lib.hid hS'
  have HM2 := Lib.hid hM'
  have HZ2 := Lib.hid hz'
  have HE2 := Lib.hid e'
  clear hS' hM' hz' e'
  go_wp2_with fail
  apply share (S := fun w' => RSt w' xb lo hi r pb T l ([33, 34, 35, 36].foldl (fNum l) S2) ∧ Mod (Rw lo hi pb) w0 w')
  case walk =>
    have hc := rnums_var HS2.out (HI.out _ HM2.out) [33, 34, 35, 36] (by simp) (by intro o' ho'; have := HZ2.out; simp at ho'; omega) (below_var w2 _) (ptrs_row [33, 34, 35, 36] 118)
    simp only [List.map_cons, List.map_nil, List.length_cons, List.length_nil, List.foldl_cons, List.foldl_nil, pc, Nat.zero_add, Nat.reduceAdd] at hc
    refine PF.pf_begin (by kernel_rfl) ?_
    refine PF.pf_take0 0 (by kernel_rfl) rfl (fun _ _ _ _ _ h => h) (by kernel_rfl) (fun u => by go_simp; try rfl) ?_
    try simp only [Act.put, pz0, pz1, pz2]
    refine PF.pf_take0 1 (by kernel_rfl) rfl (fun _ _ _ _ _ h => h) (by kernel_rfl) (fun u => by go_simp; try rfl) ?_
    try simp only [Act.put, pz0, pz1, pz2]
    refine PF.pf_take0 2 (by kernel_rfl) rfl (fun _ _ _ _ _ h => h) (by kernel_rfl) (fun u => by go_simp; try rfl) ?_
    try simp only [Act.put, pz0, pz1, pz2]
    refine PF.pf_take0 3 (by kernel_rfl) rfl (fun _ _ _ _ _ h => h) (by kernel_rfl) (fun u => by go_simp; try rfl) ?_
    try simp only [Act.put, pz0, pz1, pz2]
    refine PF.pf_take0 4 (by kernel_rfl) rfl (fun _ _ _ _ _ h => h) (by kernel_rfl) (fun u => by go_simp; try rfl) ?_
    try simp only [Act.put, pz0, pz1, pz2]
    refine PF.pf_take0 5 (by kernel_rfl) rfl (fun _ _ _ _ _ h => h) (by kernel_rfl) (fun u => by go_simp; try rfl) ?_
    try simp only [Act.put, pz0, pz1, pz2]
    refine PF.pf_take0 6 (by kernel_rfl) rfl (fun _ _ _ _ _ h => h) (by kernel_rfl) (fun u => by go_simp; try rfl) ?_
    try simp only [Act.put, pz0, pz1, pz2]
    refine PF.pf_take0 7 (by kernel_rfl) rfl (fun _ _ _ _ _ h => h) (by kernel_rfl) (fun u => by go_simp; try rfl) ?_
    try simp only [Act.put, pz0, pz1, pz2]
    refine PF.pf_take0 8 (by kernel_rfl) rfl (fun _ _ _ _ _ h => h) (by kernel_rfl) (fun u => by go_simp; try rfl) ?_
    try simp only [Act.put, pz0, pz1, pz2]
    refine PF.pf_take0 9 (by kernel_rfl) rfl (fun _ _ _ _ _ h => h) (by kernel_rfl) (fun u => by go_simp; try rfl) ?_
    try simp only [Act.put, pz0, pz1, pz2]
    refine PF.pf_take0 10 (by kernel_rfl) rfl (fun _ _ _ _ _ h => h) (by kernel_rfl) (fun u => by go_simp; try rfl) ?_
    try simp only [Act.put, pz0, pz1, pz2]
    refine PF.pf_take0 11 (by kernel_rfl) rfl (fun _ _ _ _ _ h => h) (by kernel_rfl) (fun u => by go_simp; try rfl) ?_
    try simp only [Act.put, pz0, pz1, pz2]
    refine PF.pf_take0 12 (by kernel_rfl) rfl (fun _ _ _ _ _ h => h) (by kernel_rfl) (fun u => by go_simp; try rfl) ?_
    try simp only [Act.put, pz0, pz1, pz2]
    refine PF.pf_fork [13, 14] (by kernel_rfl) rfl (PF.fork_cons ?_ (PF.fork_cons ?_ PF.fork_nil))
    -- number 13 first
    · refine PF.step_one rfl (by kernel_rfl) (fun K hK => ?_)
      go_simp
      refine hK _ _ (by repeat (first | exact PF.owes_nil | refine PF.owes_left ?_ | refine PF.owes_no (by decide +kernel) ?_ | refine PF.owes_yes (by first | rfl | assumption | go_simp) ?_)) ?_
      clear hK K
      try simp only [Act.put, pz0, pz1, pz2]
      refine PF.pf_exec 14 (by kernel_rfl) rfl (by kernel_rfl) (fun K hK => ?_)
      go_simp
      refine hK _ _ (by repeat (first | exact PF.owes_nil | refine PF.owes_left ?_ | refine PF.owes_no (by decide +kernel) ?_ | refine PF.owes_yes (by first | rfl | assumption | go_simp) ?_)) ?_
      clear hK K
      try simp only [Act.put, pz0, pz1, pz2]
      refine PF.pf_take0 15 (by kernel_rfl) rfl (fun _ _ _ _ _ h => h) (by kernel_rfl) (fun u => by go_simp; try rfl) ?_
      try simp only [Act.put, pz0, pz1, pz2]
      refine PF.pf_take0 16 (by kernel_rfl) rfl (fun _ _ _ _ _ h => h) (by kernel_rfl) (fun u => by go_simp; try rfl) ?_
      try simp only [Act.put, pz0, pz1, pz2]
      refine PF.pf_exec 17 (by kernel_rfl) rfl (by kernel_rfl) (fun K hK => ?_)
      go_simp
      refine hc.mono ?_
      rintro e w' ⟨rfl, hS', hM'⟩
      refine hK _ _ (by repeat (first | exact PF.owes_nil | refine PF.owes_left ?_ | refine PF.owes_no (by decide +kernel) ?_ | refine PF.owes_yes (by first | rfl | assumption | go_simp) ?_)) ?_
      clear hK K
      try simp only [Act.put, pz0, pz1, pz2]
      refine PF.pf_done (by kernel_rfl) ?_
      exact ⟨rfl, hS', HM2.out.trans hM'⟩
    -- number 14 first
    · refine PF.step_one rfl (by kernel_rfl) (fun K hK => ?_)
      go_simp
      refine hK _ _ (by repeat (first | exact PF.owes_nil | refine PF.owes_left ?_ | refine PF.owes_no (by decide +kernel) ?_ | refine PF.owes_yes (by first | rfl | assumption | go_simp) ?_)) ?_
      clear hK K
      try simp only [Act.put, pz0, pz1, pz2]
      refine PF.pf_take0 15 (by kernel_rfl) rfl (fun _ _ _ _ _ h => h) (by kernel_rfl) (fun u => by go_simp; try rfl) ?_
      try simp only [Act.put, pz0, pz1, pz2]
      refine PF.pf_take0 16 (by kernel_rfl) rfl (fun _ _ _ _ _ h => h) (by kernel_rfl) (fun u => by go_simp; try rfl) ?_
      try simp only [Act.put, pz0, pz1, pz2]
      refine PF.pf_exec 13 (by kernel_rfl) rfl (by kernel_rfl) (fun K hK => ?_)
      go_simp
      refine hK _ _ (by repeat (first | exact PF.owes_nil | refine PF.owes_left ?_ | refine PF.owes_no (by decide +kernel) ?_ | refine PF.owes_yes (by first | rfl | assumption | go_simp) ?_)) ?_
      clear hK K
      try simp only [Act.put, pz0, pz1, pz2]
      refine PF.pf_exec 17 (by kernel_rfl) rfl (by kernel_rfl) (fun K hK => ?_)
      go_simp
      refine hc.mono ?_
      rintro e w' ⟨rfl, hS', hM'⟩
      refine hK _ _ (by repeat (first | exact PF.owes_nil | refine PF.owes_left ?_ | refine PF.owes_no (by decide +kernel) ?_ | refine PF.owes_yes (by first | rfl | assumption | go_simp) ?_)) ?_
      clear hK K
      try simp only [Act.put, pz0, pz1, pz2]
      refine PF.pf_done (by kernel_rfl) ?_
      exact ⟨rfl, hS', HM2.out.trans hM'⟩
  rintro w3 ⟨hS', hM'⟩
  have hz' : ([33, 34, 35, 36].foldl (fNum l) S2).1.size = 56 := by
    rw [← HZ2.out]
    simp [fInt_size, fNum_size, fBal_size, fPl_size, fold_size (fInt_size l), fold_size (fNum_size l), fold_size (fBal_size l)]
  obtain ⟨S3, e'⟩ : ∃ S, S = [33, 34, 35, 36].foldl (fNum l) S2 := ⟨_, rfl⟩
  rw [← e'] at hS' hz'
  have HS3 := Lib.hid hS'
  have HM3 := Lib.hid hM'
  have HZ3 := Lib.hid hz'
  have HE3 := Lib.hid e'
  clear hS' hM' hz' e'
  go_wp2_with fail
  have hc := rtext_any (HS3.out.below (Below.refl _ _).drew) hll 37 (by have := HZ3.out; omega)
  unfold pc at hc
  refine PF.pf_begin (by kernel_rfl) ?_
  refine PF.pf_take0 0 (by kernel_rfl) rfl (fun _ _ _ _ _ h => h) (by kernel_rfl) (fun u => by go_simp; try rfl) ?_
  try simp only [Act.put, pz0, pz1, pz2]
  refine PF.pf_take0 1 (by kernel_rfl) rfl (fun _ _ _ _ _ h => h) (by kernel_rfl) (fun u => by go_simp; try rfl) ?_
  try simp only [Act.put, pz0, pz1, pz2]
  refine PF.pf_take0 2 (by kernel_rfl) rfl (fun _ _ _ _ _ h => h) (by kernel_rfl) (fun u => by go_simp; try rfl) ?_
  try simp only [Act.put, pz0, pz1, pz2]
  refine PF.pf_take0 3 (by kernel_rfl) rfl (fun _ _ _ _ _ h => h) (by kernel_rfl) (fun u => by go_simp; try rfl) ?_
  try simp only [Act.put, pz0, pz1, pz2]
  refine PF.pf_exec 4 (by kernel_rfl) rfl (by kernel_rfl) (fun K hK => ?_)
  go_simp
  refine hK _ _ (by repeat (first | exact PF.owes_nil | refine PF.owes_left ?_ | refine PF.owes_no (by decide +kernel) ?_ | refine PF.owes_yes (by first | rfl | assumption | go_simp) ?_)) ?_
  clear hK K
  try simp only [Act.put, pz0, pz1, pz2]
  refine PF.pf_take0 5 (by kernel_rfl) rfl (fun _ _ _ _ _ h => h) (by kernel_rfl) (fun u => by go_simp; try rfl) ?_
  try simp only [Act.put, pz0, pz1, pz2]
  refine PF.pf_take0 6 (by kernel_rfl) rfl (fun _ _ _ _ _ h => h) (by kernel_rfl) (fun u => by go_simp; try rfl) ?_
  try simp only [Act.put, pz0, pz1, pz2]
  refine PF.pf_exec 7 (by kernel_rfl) rfl (by kernel_rfl) (fun K hK => ?_)
  go_simp
  refine hc.mono ?_
  rintro e wt ⟨rfl, g, c, hc1, hc2, hg, hW, hS', hM'⟩
  refine hK _ _ (by repeat (first | exact PF.owes_nil | refine PF.owes_left ?_ | refine PF.owes_no (by decide +kernel) ?_ | refine PF.owes_yes (by first | rfl | assumption | go_simp) ?_)) ?_
  clear hK K
  try simp only [Act.put, pz0, pz1, pz2]
  refine PF.pf_done (by kernel_rfl) ?_
  have hfin : respR l S0 = S3 := by unfold respR; rw [HE3.out, HE2.out, HE1.out]
  have HW := Lib.hid hW
  have HS' := Lib.hid hS'
  have HMt := Lib.hid (HM3.out.trans (((Mod.refl _ w3).drew).trans hM'))
  have HG := Lib.hid (Nat.le_trans HM3.out.size hg)
  clear hc hW hS' hM' hg
  go_wp2_with fail
  go_ret
  rw [hfin]
  exact ⟨rfl, g, c, hc1, hc2, HG.out, HW.out, HS'.out, HMt.out⟩

set_option maxHeartbeats 16000000 in
theorem rfields_call {w0 : World} {xb lo hi r pb : Nat} {T : TypeId} {l : List UInt8} {S0 : RS} (h : RSt w0 xb lo hi r pb T l S0) (hhi : hi ≤ w0.heap.size) (hll : l.length ≤ 1000000) (hk : S0.1[0]? = some (.int .i64 5)) (hs : S0.1.size = 56) :
    Calls Tryd.prog 22 #[.iface 64 (.pointer (some ⟨xb, 0, none⟩)), pc pb 0] w0 (RText w0 xb lo hi r pb T l (callR l S0) 46) := by
  have hm1 := rd_ints xb
  have hm2 := rd_nums xb
  have hm3 := rd_text xb
  have hm4 := rd_list xb
  have HI : Hid (∀ w', Mod (Rw lo hi pb) w0 w' → hi ≤ w'.heap.size) := fun w' hm => Nat.le_trans hhi hm.size
  have k0 := h.pk.cell 0
  rw [hk] at k0
  have HS0 := Lib.hid h
  have HZ0 := Lib.hid hs
  have HM0 : Hid (Mod (Rw lo hi pb) w0 w0) := Mod.refl _ _
  have HK := Lib.hid hk
  clear h hk hs
  unfold pc
  go_enter Tryd.func22, Tryd.ntmps22
  go_wp2_with fail
  clear k0
  apply share (S := fun w' => RSt w' xb lo hi r pb T l (fInt l S0 38) ∧ Mod (Rw lo hi pb) w0 w')
  case walk =>
    have hc := rints_var HS0.out (HI.out _ HM0.out) [38] (by simp) (by intro o' ho'; have := HZ0.out; simp at ho'; omega) (below_var w0 _) (ptrs_row [38] 109)
    simp only [List.map_cons, List.map_nil, List.length_cons, List.length_nil, List.foldl_cons, List.foldl_nil, pc, Nat.zero_add, Nat.reduceAdd] at hc
    refine PF.pf_begin (by kernel_rfl) ?_
    refine PF.pf_take0 0 (by kernel_rfl) rfl (fun _ _ _ _ _ h => h) (by kernel_rfl) (fun u => by go_simp; try rfl) ?_
    try simp only [Act.put, pz0, pz1, pz2]
    refine PF.pf_take0 1 (by kernel_rfl) rfl (fun _ _ _ _ _ h => h) (by kernel_rfl) (fun u => by go_simp; try rfl) ?_
    try simp only [Act.put, pz0, pz1, pz2]
    refine PF.pf_take0 2 (by kernel_rfl) rfl (fun _ _ _ _ _ h => h) (by kernel_rfl) (fun u => by go_simp; try rfl) ?_
    try simp only [Act.put, pz0, pz1, pz2]
    refine PF.pf_take0 3 (by kernel_rfl) rfl (fun _ _ _ _ _ h => h) (by kernel_rfl) (fun u => by go_simp; try rfl) ?_
    try simp only [Act.put, pz0, pz1, pz2]
    refine PF.pf_fork [4, 5] (by kernel_rfl) rfl (PF.fork_cons ?_ (PF.fork_cons ?_ PF.fork_nil))
    -- number 4 first
    · refine PF.step_one rfl (by kernel_rfl) (fun K hK => ?_)
      go_simp
      refine hK _ _ (by repeat (first | exact PF.owes_nil | refine PF.owes_left ?_ | refine PF.owes_no (by decide +kernel) ?_ | refine PF.owes_yes (by first | rfl | assumption | go_simp) ?_)) ?_
      clear hK K
      try simp only [Act.put, pz0, pz1, pz2]
      refine PF.pf_exec 5 (by kernel_rfl) rfl (by kernel_rfl) (fun K hK => ?_)
      go_simp
      refine hK _ _ (by repeat (first | exact PF.owes_nil | refine PF.owes_left ?_ | refine PF.owes_no (by decide +kernel) ?_ | refine PF.owes_yes (by first | rfl | assumption | go_simp) ?_)) ?_
      clear hK K
      try simp only [Act.put, pz0, pz1, pz2]
      refine PF.pf_take0 6 (by kernel_rfl) rfl (fun _ _ _ _ _ h => h) (by kernel_rfl) (fun u => by go_simp; try rfl) ?_
      try simp only [Act.put, pz0, pz1, pz2]
      refine PF.pf_take0 7 (by kernel_rfl) rfl (fun _ _ _ _ _ h => h) (by kernel_rfl) (fun u => by go_simp; try rfl) ?_
      try simp only [Act.put, pz0, pz1, pz2]
      refine PF.pf_exec 8 (by kernel_rfl) rfl (by kernel_rfl) (fun K hK => ?_)
      go_simp
      refine hc.mono ?_
      rintro e w' ⟨rfl, hS', hM'⟩
      refine hK _ _ (by repeat (first | exact PF.owes_nil | refine PF.owes_left ?_ | refine PF.owes_no (by decide +kernel) ?_ | refine PF.owes_yes (by first | rfl | assumption | go_simp) ?_)) ?_
      clear hK K
      try simp only [Act.put, pz0, pz1, pz2]
      refine PF.pf_done (by kernel_rfl) ?_
      exact ⟨rfl, hS', HM0.out.trans hM'⟩
    -- number 5 first
    · refine PF.step_one rfl (by kernel_rfl) (fun K hK => ?_)
      go_simp
      refine hK _ _ (by repeat (first | exact PF.owes_nil | refine PF.owes_left ?_ | refine PF.owes_no (by decide +kernel) ?_ | refine PF.owes_yes (by first | rfl | assumption | go_simp) ?_)) ?_
      clear hK K
      try simp only [Act.put, pz0, pz1, pz2]
      refine PF.pf_take0 6 (by kernel_rfl) rfl (fun _ _ _ _ _ h => h) (by kernel_rfl) (fun u => by go_simp; try rfl) ?_
      try simp only [Act.put, pz0, pz1, pz2]
      refine PF.pf_take0 7 (by kernel_rfl) rfl (fun _ _ _ _ _ h => h) (by kernel_rfl) (fun u => by go_simp; try rfl) ?_
      try simp only [Act.put, pz0, pz1, pz2]
      refine PF.pf_exec 4 (by kernel_rfl) rfl (by kernel_rfl) (fun K hK => ?_)
      go_simp
      refine hK _ _ (by repeat (first | exact PF.owes_nil | refine PF.owes_left ?_ | refine PF.owes_no (by decide +kernel) ?_ | refine PF.owes_yes (by first | rfl | assumption | go_simp) ?_)) ?_
      clear hK K
      try simp only [Act.put, pz0, pz1, pz2]
      refine PF.pf_exec 8 (by kernel_rfl) rfl (by kernel_rfl) (fun K hK => ?_)
      go_simp
      refine hc.mono ?_
      rintro e w' ⟨rfl, hS', hM'⟩
      refine hK _ _ (by repeat (first | exact PF.owes_nil | refine PF.owes_left ?_ | refine PF.owes_no (by decide +kernel) ?_ | refine PF.owes_yes (by first | rfl | assumption | go_simp) ?_)) ?_
      clear hK K
      try simp only [Act.put, pz0, pz1, pz2]
      refine PF.pf_done (by kernel_rfl) ?_
      exact ⟨rfl, hS', HM0.out.trans hM'⟩
  rintro w1 ⟨hS', hM'⟩
  have hz' : (fInt l S0 38).1.size = 56 := by
    rw [← HZ0.out]
    simp [fInt_size, fNum_size, fBal_size, fPl_size, fold_size (fInt_size l), fold_size (fNum_size l), fold_size (fBal_size l)]
  obtain ⟨S1, e'⟩ : ∃ S, S = fInt l S0 38 := ⟨_, rfl⟩
  rw [← e'] at hS' hz'
  have HS1 := Lib.hid hS'
  have HM1 := Lib.hid hM'
  have HZ1 := Lib.hid hz'
  have HE1 := Lib.hid e'
  clear hS' hM' hz' e'
  go_wp2_with fail
  apply share (S := fun w' => RSt w' xb lo hi r pb T l ([39, 40].foldl (fNum l) S1) ∧ Mod (Rw lo hi pb) w0 w')
  case walk =>
    have hc := rnums_var HS1.out (HI.out _ HM1.out) [39, 40] (by simp) (by intro o' ho'; have := HZ1.out; simp at ho'; omega) (below_var w1 _) (ptrs_row [39, 40] 118)
    simp only [List.map_cons, List.map_nil, List.length_cons, List.length_nil, List.foldl_cons, List.foldl_nil, pc, Nat.zero_add, Nat.reduceAdd] at hc
    refine PF.pf_begin (by kernel_rfl) ?_
    refine PF.pf_take0 0 (by kernel_rfl) rfl (fun _ _ _ _ _ h => h) (by kernel_rfl) (fun u => by go_simp; try rfl) ?_
    try simp only [Act.put, pz0, pz1, pz2]
    refine PF.pf_take0 1 (by kernel_rfl) rfl (fun _ _ _ _ _ h => h) (by kernel_rfl) (fun u => by go_simp; try rfl) ?_
    try simp only [Act.put, pz0, pz1, pz2]
    refine PF.pf_take0 2 (by kernel_rfl) rfl (fun _ _ _ _ _ h => h) (by kernel_rfl) (fun u => by go_simp; try rfl) ?_
    try simp only [Act.put, pz0, pz1, pz2]
    refine PF.pf_take0 3 (by kernel_rfl) rfl (fun _ _ _ _ _ h => h) (by kernel_rfl) (fun u => by go_simp; try rfl) ?_
    try simp only [Act.put, pz0, pz1, pz2]
    refine PF.pf_take0 4 (by kernel_rfl) rfl (fun _ _ _ _ _ h => h) (by kernel_rfl) (fun u => by go_simp; try rfl) ?_
    try simp only [Act.put, pz0, pz1, pz2]
    refine PF.pf_take0 5 (by kernel_rfl) rfl (fun _ _ _ _ _ h => h) (by kernel_rfl) (fun u => by go_simp; try rfl) ?_
    try simp only [Act.put, pz0, pz1, pz2]
    refine PF.pf_take0 6 (by kernel_rfl) rfl (fun _ _ _ _ _ h => h) (by kernel_rfl) (fun u => by go_simp; try rfl) ?_
    try simp only [Act.put, pz0, pz1, pz2]
    refine PF.pf_fork [7, 8] (by kernel_rfl) rfl (PF.fork_cons ?_ (PF.fork_cons ?_ PF.fork_nil))
    -- number 7 first
    · refine PF.step_one rfl (by kernel_rfl) (fun K hK => ?_)
      go_simp
      refine hK _ _ (by repeat (first | exact PF.owes_nil | refine PF.owes_left ?_ | refine PF.owes_no (by decide +kernel) ?_ | refine PF.owes_yes (by first | rfl | assumption | go_simp) ?_)) ?_
      clear hK K
      try simp only [Act.put, pz0, pz1, pz2]
      refine PF.pf_exec 8 (by kernel_rfl) rfl (by kernel_rfl) (fun K hK => ?_)
      go_simp
      refine hK _ _ (by repeat (first | exact PF.owes_nil | refine PF.owes_left ?_ | refine PF.owes_no (by decide +kernel) ?_ | refine PF.owes_yes (by first | rfl | assumption | go_simp) ?_)) ?_
      clear hK K
      try simp only [Act.put, pz0, pz1, pz2]
      refine PF.pf_take0 9 (by kernel_rfl) rfl (fun _ _ _ _ _ h => h) (by kernel_rfl) (fun u => by go_simp; try rfl) ?_
      try simp only [Act.put, pz0, pz1, pz2]
      refine PF.pf_take0 10 (by kernel_rfl) rfl (fun _ _ _ _ _ h => h) (by kernel_rfl) (fun u => by go_simp; try rfl) ?_
      try simp only [Act.put, pz0, pz1, pz2]
      refine PF.pf_exec 11 (by kernel_rfl) rfl (by kernel_rfl) (fun K hK => ?_)
      go_simp
      refine hc.mono ?_
      rintro e w' ⟨rfl, hS', hM'⟩
      refine hK _ _ (by repeat (first | exact PF.owes_nil | refine PF.owes_left ?_ | refine PF.owes_no (by decide +kernel) ?_ | refine PF.owes_yes (by first | rfl | assumption | go_simp) ?_)) ?_
      clear hK K
      try simp only [Act.put, pz0, pz1, pz2]
      refine PF.pf_done (by kernel_rfl) ?_
      exact ⟨rfl, hS', HM1.out.trans hM'⟩
    -- number 8 first
    · refine PF.step_one rfl (by kernel_rfl) (fun K hK => ?_)
      go_simp
      refine hK _ _ (by repeat (first | exact PF.owes_nil | refine PF.owes_left ?_ | refine PF.owes_no (by decide +kernel) ?_ | refine PF.owes_yes (by first | rfl | assumption | go_simp) ?_)) ?_
      clear hK K
      try simp only [Act.put, pz0, pz1, pz2]
      refine PF.pf_take0 9 (by kernel_rfl) rfl (fun _ _ _ _ _ h => h) (by kernel_rfl) (fun u => by go_simp; try rfl) ?_
      try simp only [Act.put, pz0, pz1, pz2]
      refine PF.pf_take0 10 (by kernel_rfl) rfl (fun _ _ _ _ _ h => h) (by kernel_rfl) (fun u => by go_simp; try rfl) ?_
      try simp only [Act.put, pz0, pz1, pz2]
      refine PF.pf_exec 7 (by kernel_rfl) rfl (by kernel_rfl) (fun K hK => ?_)
      go_simp
      refine hK _ _ (by repeat (first | exact PF.owes_nil | refine PF.owes_left ?_ | refine PF.owes_no (by decide +kernel) ?_ | refine PF.owes_yes (by first | rfl | assumption | go_simp) ?_)) ?_
      clear hK K
      try simp only [Act.put, pz0, pz1, pz2]
      refine PF.pf_exec 11 (by kernel_rfl) rfl (by kernel_rfl) (fun K hK => ?_)
      go_simp
      refine hc.mono ?_
      rintro e w' ⟨rfl, hS', hM'⟩
      refine hK _ _ (by repeat (first | exact PF.owes_nil | refine PF.owes_left ?_ | refine PF.owes_no (by decide +kernel) ?_ | refine PF.owes_yes (by first | rfl | assumption | go_simp) ?_)) ?_
      clear hK K
      try simp only [Act.put, pz0, pz1, pz2]
      refine PF.pf_done (by kernel_rfl) ?_
      exact ⟨rfl, hS', HM1.out.trans hM'⟩
  rintro w2 ⟨hS', hM'⟩
  have hz' : ([39, 40].foldl (fNum l) S1).1.size = 56 := by
    rw [← HZ1.out]
    simp [fInt_size, fNum_size, fBal_size, fPl_size, fold_size (fInt_size l), fold_size (fNum_size l), fold_size (fBal_size l)]
  obtain ⟨S2, e'⟩ : ∃ S, S = [39, 40].foldl (fNum l) S1 := ⟨_, rfl⟩
  rw [← e'] at hS' hz'
  have HS2 := Lib.hid hS'
  have HM2 := Lib.hid hM'
  have HZ2 := Lib.hid hz'
  have HE2 := Lib.hid e'
  clear hS' hM' hz' e'
  go_wp2_with fail
  apply share (S := fun w' => RSt w' xb lo hi r pb T l ([41, 42, 43].foldl (fInt l) S2) ∧ Mod (Rw lo hi pb) w0 w')
  case walk =>
    have hc := rints_var HS2.out (HI.out _ HM2.out) [41, 42, 43] (by simp) (by intro o' ho'; have := HZ2.out; simp at ho'; omega) (below_var w2 _) (ptrs_row [41, 42, 43] 109)
    simp only [List.map_cons, List.map_nil, List.length_cons, List.length_nil, List.foldl_cons, List.foldl_nil, pc, Nat.zero_add, Nat.reduceAdd] at hc
    refine PF.pf_begin (by kernel_rfl) ?_
    refine PF.pf_take0 0 (by kernel_rfl) rfl (fun _ _ _ _ _ h => h) (by kernel_rfl) (fun u => by go_simp; try rfl) ?_
    try simp only [Act.put, pz0, pz1, pz2]
    refine PF.pf_take0 1 (by kernel_rfl) rfl (fun _ _ _ _ _ h => h) (by kernel_rfl) (fun u => by go_simp; try rfl) ?_
    try simp only [Act.put, pz0, pz1, pz2]
    refine PF.pf_take0 2 (by kernel_rfl) rfl (fun _ _ _ _ _ h => h) (by kernel_rfl) (fun u => by go_simp; try rfl) ?_
    try simp only [Act.put, pz0, pz1, pz2]
    refine PF.pf_take0 3 (by kernel_rfl) rfl (fun _ _ _ _ _ h => h) (by kernel_rfl) (fun u => by go_simp; try rfl) ?_
    try simp only [Act.put, pz0, pz1, pz2]
    refine PF.pf_take0 4 (by kernel_rfl) rfl (fun _ _ _ _ _ h => h) (by kernel_rfl) (fun u => by go_simp; try rfl) ?_
    try simp only [Act.put, pz0, pz1, pz2]
    refine PF.pf_take0 5 (by kernel_rfl) rfl (fun _ _ _ _ _ h => h) (by kernel_rfl) (fun u => by go_simp; try rfl) ?_
    try simp only [Act.put, pz0, pz1, pz2]
    refine PF.pf_take0 6 (by kernel_rfl) rfl (fun _ _ _ _ _ h => h) (by kernel_rfl) (fun u => by go_simp; try rfl) ?_
    try simp only [Act.put, pz0, pz1, pz2]
    refine PF.pf_take0 7 (by kernel_rfl) rfl (fun _ _ _ _ _ h => h) (by kernel_rfl) (fun u => by go_simp; try rfl) ?_
    try simp only [Act.put, pz0, pz1, pz2]
    refine PF.pf_take0 8 (by kernel_rfl) rfl (fun _ _ _ _ _ h => h) (by kernel_rfl) (fun u => by go_simp; try rfl) ?_
    try simp only [Act.put, pz0, pz1, pz2]
    refine PF.pf_take0 9 (by kernel_rfl) rfl (fun _ _ _ _ _ h => h) (by kernel_rfl) (fun u => by go_simp; try rfl) ?_
    try simp only [Act.put, pz0, pz1, pz2]
    refine PF.pf_fork [10, 11] (by kernel_rfl) rfl (PF.fork_cons ?_ (PF.fork_cons ?_ PF.fork_nil))
    -- number 10 first
    · refine PF.step_one rfl (by kernel_rfl) (fun K hK => ?_)
      go_simp
      refine hK _ _ (by repeat (first | exact PF.owes_nil | refine PF.owes_left ?_ | refine PF.owes_no (by decide +kernel) ?_ | refine PF.owes_yes (by first | rfl | assumption | go_simp) ?_)) ?_
      clear hK K
      try simp only [Act.put, pz0, pz1, pz2]
      refine PF.pf_exec 11 (by kernel_rfl) rfl (by kernel_rfl) (fun K hK => ?_)
      go_simp
      refine hK _ _ (by repeat (first | exact PF.owes_nil | refine PF.owes_left ?_ | refine PF.owes_no (by decide +kernel) ?_ | refine PF.owes_yes (by first | rfl | assumption | go_simp) ?_)) ?_
      clear hK K
      try simp only [Act.put, pz0, pz1, pz2]
      refine PF.pf_take0 12 (by kernel_rfl) rfl (fun _ _ _ _ _ h => h) (by kernel_rfl) (fun u => by go_simp; try rfl) ?_
      try simp only [Act.put, pz0, pz1, pz2]
      refine PF.pf_take0 13 (by kernel_rfl) rfl (fun _ _ _ _ _ h => h) (by kernel_rfl) (fun u => by go_simp; try rfl) ?_
      try simp only [Act.put, pz0, pz1, pz2]
      refine PF.pf_exec 14 (by kernel_rfl) rfl (by kernel_rfl) (fun K hK => ?_)
      go_simp
      refine hc.mono ?_
      rintro e w' ⟨rfl, hS', hM'⟩
      refine hK _ _ (by repeat (first | exact PF.owes_nil | refine PF.owes_left ?_ | refine PF.owes_no (by decide +kernel) ?_ | refine PF.owes_yes (by first | rfl | assumption | go_simp) ?_)) ?_
      clear hK K
      try simp only [Act.put, pz0, pz1, pz2]
      refine PF.pf_done (by kernel_rfl) ?_
      exact ⟨rfl, hS', HM2.out.trans hM'⟩
    -- number 11 first
    · refine PF.step_one rfl (by kernel_rfl) (fun K hK => ?_)
      go_simp
      refine hK _ _ (by repeat (first | exact PF.owes_nil | refine PF.owes_left ?_ | refine PF.owes_no (by decide +kernel) ?_ | refine PF.owes_yes (by first | rfl | assumption | go_simp) ?_)) ?_
      clear hK K
      try simp only [Act.put, pz0, pz1, pz2]
      refine PF.pf_take0 12 (by kernel_rfl) rfl (fun _ _ _ _ _ h => h) (by kernel_rfl) (fun u => by go_simp; try rfl) ?_
      try simp only [Act.put, pz0, pz1, pz2]
      refine PF.pf_take0 13 (by kernel_rfl) rfl (fun _ _ _ _ _ h => h) (by kernel_rfl) (fun u => by go_simp; try rfl) ?_
      try simp only [Act.put, pz0, pz1, pz2]
      refine PF.pf_exec 10 (by kernel_rfl) rfl (by kernel_rfl) (fun K hK => ?_)
      go_simp
      refine hK _ _ (by repeat (first | exact PF.owes_nil | refine PF.owes_left ?_ | refine PF.owes_no (by decide +kernel) ?_ | refine PF.owes_yes (by first | rfl | assumption | go_simp) ?_)) ?_
      clear hK K
      try simp only [Act.put, pz0, pz1, pz2]
      refine PF.pf_exec 14 (by kernel_rfl) rfl (by kernel_rfl) (fun K hK => ?_)
      go_simp
      refine hc.mono ?_
      rintro e w' ⟨rfl, hS', hM'⟩
      refine hK _ _ (by repeat (first | exact PF.owes_nil | refine PF.owes_left ?_ | refine PF.owes_no (by decide +kernel) ?_ | refine PF.owes_yes (by first | rfl | assumption | go_simp) ?_)) ?_
      clear hK K
      try simp only [Act.put, pz0, pz1, pz2]
      refine PF.pf_done (by kernel_rfl) ?_
      exact ⟨rfl, hS', HM2.out.trans hM'⟩
  rintro w3 ⟨hS', hM'⟩
  have hz' : ([41, 42, 43].foldl (fInt l) S2).1.size = 56 := by
    rw [← HZ2.out]
    simp [fInt_size, fNum_size, fBal_size, fPl_size, fold_size (fInt_size l), fold_size (fNum_size l), fold_size (fBal_size l)]
  obtain ⟨S3, e'⟩ : ∃ S, S = [41, 42, 43].foldl (fInt l) S2 := ⟨_, rfl⟩
  rw [← e'] at hS' hz'
  have HS3 := Lib.hid hS'
  have HM3 := Lib.hid hM'
  have HZ3 := Lib.hid hz'
  have HE3 := Lib.hid e'
  clear hS' hM' hz' e'
  go_wp2_with fail
  apply share (S := fun w' => RSt w' xb lo hi r pb T l ([44, 45].foldl (fNum l) S3) ∧ Mod (Rw lo hi pb) w0 w')
  case walk =>
    have hc := rnums_var HS3.out (HI.out _ HM3.out) [44, 45] (by simp) (by intro o' ho'; have := HZ3.out; simp at ho'; omega) (below_var w3 _) (ptrs_row [44, 45] 118)
    simp only [List.map_cons, List.map_nil, List.length_cons, List.length_nil, List.foldl_cons, List.foldl_nil, pc, Nat.zero_add, Nat.reduceAdd] at hc
    refine PF.pf_begin (by kernel_rfl) ?_
    refine PF.pf_take0 0 (by kernel_rfl) rfl (fun _ _ _ _ _ h => h) (by kernel_rfl) (fun u => by go_simp; try rfl) ?_
    try simp only [Act.put, pz0, pz1, pz2]
    refine PF.pf_take0 1 (by kernel_rfl) rfl (fun _ _ _ _ _ h => h) (by kernel_rfl) (fun u => by go_simp; try rfl) ?_
    try simp only [Act.put, pz0, pz1, pz2]
    refine PF.pf_take0 2 (by kernel_rfl) rfl (fun _ _ _ _ _ h => h) (by kernel_rfl) (fun u => by go_simp; try rfl) ?_
    try simp only [Act.put, pz0, pz1, pz2]
    refine PF.pf_take0 3 (by kernel_rfl) rfl (fun _ _ _ _ _ h => h) (by kernel_rfl) (fun u => by go_simp; try rfl) ?_
    try simp only [Act.put, pz0, pz1, pz2]
    refine PF.pf_take0 4 (by kernel_rfl) rfl (fun _ _ _ _ _ h => h) (by kernel_rfl) (fun u => by go_simp; try rfl) ?_
    try simp only [Act.put, pz0, pz1, pz2]
    refine PF.pf_take0 5 (by kernel_rfl) rfl (fun _ _ _ _ _ h => h) (by kernel_rfl) (fun u => by go_simp; try rfl) ?_
    try simp only [Act.put, pz0, pz1, pz2]
    refine PF.pf_take0 6 (by kernel_rfl) rfl (fun _ _ _ _ _ h => h) (by kernel_rfl) (fun u => by go_simp; try rfl) ?_
    try simp only [Act.put, pz0, pz1, pz2]
    refine PF.pf_fork [7, 8] (by kernel_rfl) rfl (PF.fork_cons ?_ (PF.fork_cons ?_ PF.fork_nil))
    -- number 7 first
    · refine PF.step_one rfl (by kernel_rfl) (fun K hK => ?_)
      go_simp
      refine hK _ _ (by repeat (first | exact PF.owes_nil | refine PF.owes_left ?_ | refine PF.owes_no (by decide +kernel) ?_ | refine PF.owes_yes (by first | rfl | assumption | go_simp) ?_)) ?_
      clear hK K
      try simp only [Act.put, pz0, pz1, pz2]
      refine PF.pf_exec 8 (by kernel_rfl) rfl (by kernel_rfl) (fun K hK => ?_)
      go_simp
      refine hK _ _ (by repeat (first | exact PF.owes_nil | refine PF.owes_left ?_ | refine PF.owes_no (by decide +kernel) ?_ | refine PF.owes_yes (by first | rfl | assumption | go_simp) ?_)) ?_
      clear hK K
      try simp only [Act.put, pz0, pz1, pz2]
      refine PF.pf_take0 9 (by kernel_rfl) rfl (fun _ _ _ _ _ h => h) (by kernel_rfl) (fun u => by go_simp; try rfl) ?_
      try simp only [Act.put, pz0, pz1, pz2]
      refine PF.pf_take0 10 (by kernel_rfl) rfl (fun _ _ _ _ _ h => h) (by kernel_rfl) (fun u => by go_simp; try rfl) ?_
      try simp only [Act.put, pz0, pz1, pz2]
      refine PF.pf_exec 11 (by kernel_rfl) rfl (by kernel_rfl) (fun K hK => ?_)
      go_simp
      refine hc.mono ?_
      rintro e w' ⟨rfl, hS', hM'⟩
      refine hK _ _ (by repeat (first | exact PF.owes_nil | refine PF.owes_left ?_ | refine PF.owes_no (by decide +kernel) ?_ | refine PF.owes_yes (by first | rfl | assumption | go_simp) ?_)) ?_
      clear hK K
      try simp only [Act.put, pz0, pz1, pz2]
      refine PF.pf_done (by kernel_rfl) ?_
      exact ⟨rfl, hS', HM3.out.trans hM'⟩
    -- number 8 first
    · refine PF.step_one rfl (by kernel_rfl) (fun K hK => ?_)
      go_simp
      refine hK _ _ (by repeat (first | exact PF.owes_nil | refine PF.owes_left ?_ | refine PF.owes_no (by decide +kernel) ?_ | refine PF.owes_yes (by first | rfl | assumption | go_simp) ?_)) ?_
      clear hK K
      try simp only [Act.put, pz0, pz1, pz2]
      refine PF.pf_take0 9 (by kernel_rfl) rfl (fun _ _ _ _ _ h => h) (by kernel_rfl) (fun u => by go_simp; try rfl) ?_
      try simp only [Act.put, pz0, pz1, pz2]
      refine PF.pf_take0 10 (by kernel_rfl) rfl (fun _ _ _ _ _ h => h) (by kernel_rfl) (fun u => by go_simp; try rfl) ?_
      try simp only [Act.put, pz0, pz1, pz2]
      refine PF.pf_exec 7 (by kernel_rfl) rfl (by kernel_rfl) (fun K hK => ?_)
      go_simp
      refine hK _ _ (by repeat (first | exact PF.owes_nil | refine PF.owes_left ?_ | refine PF.owes_no (by decide +kernel) ?_ | refine PF.owes_yes (by first | rfl | assumption | go_simp) ?_)) ?_
      clear hK K
      try simp only [Act.put, pz0, pz1, pz2]
      refine PF.pf_exec 11 (by kernel_rfl) rfl (by kernel_rfl) (fun K hK => ?_)
      go_simp
      refine hc.mono ?_
      rintro e w' ⟨rfl, hS', hM'⟩
      refine hK _ _ (by repeat (first | exact PF.owes_nil | refine PF.owes_left ?_ | refine PF.owes_no (by decide +kernel) ?_ | refine PF.owes_yes (by first | rfl | assumption | go_simp) ?_)) ?_
      clear hK K
      try simp only [Act.put, pz0, pz1, pz2]
      refine PF.pf_done (by kernel_rfl) ?_
      exact ⟨rfl, hS', HM3.out.trans hM'⟩
  rintro w4 ⟨hS', hM'⟩
  have hz' : ([44, 45].foldl (fNum l) S3).1.size = 56 := by
    rw [← HZ3.out]
    simp [fInt_size, fNum_size, fBal_size, fPl_size, fold_size (fInt_size l), fold_size (fNum_size l), fold_size (fBal_size l)]
  obtain ⟨S4, e'⟩ : ∃ S, S = [44, 45].foldl (fNum l) S3 := ⟨_, rfl⟩
  rw [← e'] at hS' hz'
  have HS4 := Lib.hid hS'
  have HM4 := Lib.hid hM'
  have HZ4 := Lib.hid hz'
  have HE4 := Lib.hid e'
  clear hS' hM' hz' e'
  go_wp2_with fail
  have hc := rtext_any (HS4.out.below (Below.refl _ _).drew) hll 46 (by have := HZ4.out; omega)
  unfold pc at hc
  refine PF.pf_begin (by kernel_rfl) ?_
  refine PF.pf_take0 0 (by kernel_rfl) rfl (fun _ _ _ _ _ h => h) (by kernel_rfl) (fun u => by go_simp; try rfl) ?_
  try simp only [Act.put, pz0, pz1, pz2]
  refine PF.pf_take0 1 (by kernel_rfl) rfl (fun _ _ _ _ _ h => h) (by kernel_rfl) (fun u => by go_simp; try rfl) ?_
  try simp only [Act.put, pz0, pz1, pz2]
  refine PF.pf_take0 2 (by kernel_rfl) rfl (fun _ _ _ _ _ h => h) (by kernel_rfl) (fun u => by go_simp; try rfl) ?_
  try simp only [Act.put, pz0, pz1, pz2]
  refine PF.pf_take0 3 (by kernel_rfl) rfl (fun _ _ _ _ _ h => h) (by kernel_rfl) (fun u => by go_simp; try rfl) ?_
  try simp only [Act.put, pz0, pz1, pz2]
  refine PF.pf_exec 4 (by kernel_rfl) rfl (by kernel_rfl) (fun K hK => ?_)
  go_simp
  refine hK _ _ (by repeat (first | exact PF.owes_nil | refine PF.owes_left ?_ | refine PF.owes_no (by decide +kernel) ?_ | refine PF.owes_yes (by first | rfl | assumption | go_simp) ?_)) ?_
  clear hK K
  try simp only [Act.put, pz0, pz1, pz2]
  refine PF.pf_take0 5 (by kernel_rfl) rfl (fun _ _ _ _ _ h => h) (by kernel_rfl) (fun u => by go_simp; try rfl) ?_
  try simp only [Act.put, pz0, pz1, pz2]
  refine PF.pf_take0 6 (by kernel_rfl) rfl (fun _ _ _ _ _ h => h) (by kernel_rfl) (fun u => by go_simp; try rfl) ?_
  try simp only [Act.put, pz0, pz1, pz2]
  refine PF.pf_exec 7 (by kernel_rfl) rfl (by kernel_rfl) (fun K hK => ?_)
  go_simp
  refine hc.mono ?_
  rintro e wt ⟨rfl, g, c, hc1, hc2, hg, hW, hS', hM'⟩
  refine hK _ _ (by repeat (first | exact PF.owes_nil | refine PF.owes_left ?_ | refine PF.owes_no (by decide +kernel) ?_ | refine PF.owes_yes (by first | rfl | assumption | go_simp) ?_)) ?_
  clear hK K
  try simp only [Act.put, pz0, pz1, pz2]
  refine PF.pf_done (by kernel_rfl) ?_
  have hfin : callR l S0 = S4 := by unfold callR; rw [HE4.out, HE3.out, HE2.out, HE1.out]
  have HW := Lib.hid hW
  have HS' := Lib.hid hS'
  have HMt := Lib.hid (HM4.out.trans (((Mod.refl _ w4).drew).trans hM'))
  have HG := Lib.hid (Nat.le_trans HM4.out.size hg)
  clear hc hW hS' hM' hg
  go_wp2_with fail
  go_ret
  rw [hfin]
  exact ⟨rfl, g, c, hc1, hc2, HG.out, HW.out, HS'.out, HMt.out⟩

end Go.Proofs.YtdckdjkkaangmaaDoor
