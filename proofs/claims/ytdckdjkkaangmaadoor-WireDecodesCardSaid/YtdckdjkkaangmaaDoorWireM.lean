/- The writing walker over the fields. -/
import Derived.Test.YtdckdjkkaangmaaDoorWireL
namespace Go.Proofs.YtdckdjkkaangmaaDoor
set_option linter.unusedVariables false
set_option linter.unusedSimpArgs false
set_option maxRecDepth 100000
open Go.RowKit

def intOffs : List Nat := [1, 2, 4, 7, 8, 10, 13, 16, 19, 21, 26, 29, 31, 32, 38, 41, 42, 43, 47, 50, 52, 53]
def numOffs : List Nat := [3, 5, 9, 11, 12, 14, 15, 17, 20, 22, 23, 24, 25, 30, 33, 34, 35, 36, 39, 40, 44, 45, 48, 49, 51, 54]
/-- A packet's cells are of their sorts. -/
structure PkT (cs : Array Value) : Prop where
  ints : ∀ o ∈ intOffs, IsInt cs o
  nums : ∀ o ∈ numOffs, IsNum cs o
theorem PkT.bal {cs : Array Value} (h : PkT cs) : ∀ o ∈ [3, 9, 12, 15], IsBal cs o := by
  intro o ho
  simp only [List.mem_cons, List.not_mem_nil, or_false] at ho
  rcases ho with rfl | rfl | rfl | rfl <;> exact ⟨h.nums _ (by decide), h.ints _ (by decide), h.nums _ (by decide)⟩
theorem PkT.pl {cs : Array Value} (h : PkT cs) : ∀ o ∈ [19, 29], IsPl cs o := by
  intro o ho
  simp only [List.mem_cons, List.not_mem_nil, or_false] at ho
  rcases ho with rfl | rfl <;> exact ⟨h.ints _ (by decide), h.nums _ (by decide)⟩
def askW (cs : Array Value) (S : WS) : WS := gBal cs ([1, 2].foldl (gInt cs) S) 3
def saysW (cs : Array Value) (S : WS) : WS := [9, 12, 15].foldl (gBal cs) ([7, 8].foldl (gInt cs) S)
def reqW (cs : Array Value) (S : WS) : WS := gInt cs ([22, 23, 24, 25].foldl (gNum cs) (gInt cs (gPl cs S 19) 21)) 26
def respW (cs : Array Value) (S : WS) : WS := [33, 34, 35, 36].foldl (gNum cs) ([31, 32].foldl (gInt cs) (gPl cs S 29))
def callW (cs : Array Value) (S : WS) : WS := [44, 45].foldl (gNum cs) ([41, 42, 43].foldl (gInt cs) ([39, 40].foldl (gNum cs) (gInt cs S 38)))
def replyW (cs : Array Value) (S : WS) : WS := gNum cs ([52, 53].foldl (gInt cs) (gNum cs (gInt cs ([48, 49].foldl (gNum cs) (gInt cs S 47)) 50) 51)) 54
set_option maxHeartbeats 16000000 in
theorem wfields_ask {w0 : World} {K : Nat → Prop} {xb wb pb : Nat} {T : TypeId} {cs : Array Value} {S0 : WS} (h : WSt w0 K xb wb pb T cs S0) (hk : cs[0]? = some (.int .i64 1)) (ht : PkT cs) (hl : S0.1.length ≤ 1000) {A : Option Addr} {b : List UInt8} {c : Nat} (ho : cs[6]? = some (.slice A b.length c)) (hb : ∀ w', Mod (fun b => ¬ K b) w0 w' → Bytes w' A b) (hbl : b.length ≤ 1000000) :
    Calls Tryd.prog 22 #[.iface 128 (.pointer (some ⟨xb, 0, none⟩)), pc pb 0] w0 fun e w' => e = .returned (.bool true) ∧ WSt w' K xb wb pb T cs (gText b (askW cs S0)) ∧ Mod (fun b => ¬ K b) w0 w' := by
  have hm1 := wr_ints xb
  have hm2 := wr_nums xb
  have hm3 := wr_text xb
  have hm4 := wr_list xb
  have k0 := h.pk.cell 0
  rw [hk] at k0
  have HS0 := Lib.hid h
  have HL0 : Hid (S0.1.length ≤ 1000) := hl
  have HM0 : Hid (Mod (fun b => ¬ K b) w0 w0) := Mod.refl _ _
  have HTI := Lib.hid ht.1
  have HTN := Lib.hid ht.2
  have HBL : Hid (∀ o ∈ [3, 9, 12, 15], IsBal cs o) := ht.bal
  have HP : Hid (∀ o ∈ [19, 29], IsPl cs o) := ht.pl
  have HB := Lib.hid hb
  have HO := Lib.hid ho
  clear h hk ht hl hb ho
  unfold pc
  go_enter Tryd.func22, Tryd.ntmps22
  go_wp2_with fail
  clear k0
  apply share (S := fun w' => WSt w' K xb wb pb T cs ([1, 2].foldl (gInt cs) S0) ∧ Mod (fun b => ¬ K b) w0 w')
  case walk =>
    have hc := wints_var HS0.out [1, 2] (by simp) (fun o' ho' => HTI.out o' (by simp at ho'; rcases ho' with rfl | rfl <;> decide)) (below_var w0 _) (by show _ < (w0.alloc _).heap.size; simp) (ptrs_row [1, 2] 109) (Nat.le_trans HL0.out (by omega))
    simp only [List.map_cons, List.map_nil, List.length_cons, List.length_nil, List.foldl_cons, List.foldl_nil, pc, Nat.zero_add, Nat.reduceAdd] at hc
    refine PF.pf_begin (by kernel_rfl) ?_
    refine PF.pf_take0 0 (by kernel_rfl) rfl (fun _ _ _ _ _ h => h) (by kernel_rfl) (fun u => by go_simp; try rfl) ?_
    try simp only [Act.put, pz0, pz1, pz2]
    refine PF.pf_take0 1 (by kernel_rfl) rfl (fun _ _ _ _ _ h => h) (by kernel_rfl) (fun u => by go_simp; try rfl) ?_
    try simp only [Act.put, pz0, pz1, pz2]
    refine PF.pf_take0 2 (by kernel_rfl) rfl (fun _ _ _ _ _ h => h) (by kernel_rfl) (fun u => by go_simp; try rfl) ?_
    try simp only [Act.put, pz0, pz1, pz2]
    refine PF.pf_take0 3 (by kernel_rfl) rfl (fun _ _ _ _ _ h => h) (by kernel_rfl) (fun u => by go_simp; try rfl) ?_
    try simp only [Act.put, pz0, pz1, pz2]
    refine PF.pf_take0 4 (by kernel_rfl) rfl (fun _ _ _ _ _ h => h) (by kernel_rfl) (fun u => by go_simp; try rfl) ?_
    try simp only [Act.put, pz0, pz1, pz2]
    refine PF.pf_take0 5 (by kernel_rfl) rfl (fun _ _ _ _ _ h => h) (by kernel_rfl) (fun u => by go_simp; try rfl) ?_
    try simp only [Act.put, pz0, pz1, pz2]
    refine PF.pf_take0 6 (by kernel_rfl) rfl (fun _ _ _ _ _ h => h) (by kernel_rfl) (fun u => by go_simp; try rfl) ?_
    try simp only [Act.put, pz0, pz1, pz2]
    refine PF.pf_fork [7, 8] (by kernel_rfl) rfl (PF.fork_cons ?_ (PF.fork_cons ?_ PF.fork_nil))
    -- number 7 first
    · refine PF.step_one rfl (by kernel_rfl) (fun K hK => ?_)
      go_simp
      refine hK _ _ (by repeat (first | exact PF.owes_nil | refine PF.owes_left ?_ | refine PF.owes_no (by decide +kernel) ?_ | refine PF.owes_yes (by first | rfl | assumption | go_simp) ?_)) ?_
      clear hK K
      try simp only [Act.put, pz0, pz1, pz2]
      refine PF.pf_exec 8 (by kernel_rfl) rfl (by kernel_rfl) (fun K hK => ?_)
      go_simp
      refine hK _ _ (by repeat (first | exact PF.owes_nil | refine PF.owes_left ?_ | refine PF.owes_no (by decide +kernel) ?_ | refine PF.owes_yes (by first | rfl | assumption | go_simp) ?_)) ?_
      clear hK K
      try simp only [Act.put, pz0, pz1, pz2]
      refine PF.pf_take0 9 (by kernel_rfl) rfl (fun _ _ _ _ _ h => h) (by kernel_rfl) (fun u => by go_simp; try rfl) ?_
      try simp only [Act.put, pz0, pz1, pz2]
      refine PF.pf_take0 10 (by kernel_rfl) rfl (fun _ _ _ _ _ h => h) (by kernel_rfl) (fun u => by go_simp; try rfl) ?_
      try simp only [Act.put, pz0, pz1, pz2]
      refine PF.pf_exec 11 (by kernel_rfl) rfl (by kernel_rfl) (fun K hK => ?_)
      go_simp
      refine hc.mono ?_
      rintro e w' ⟨rfl, hS', hM'⟩
      refine hK _ _ (by repeat (first | exact PF.owes_nil | refine PF.owes_left ?_ | refine PF.owes_no (by decide +kernel) ?_ | refine PF.owes_yes (by first | rfl | assumption | go_simp) ?_)) ?_
      clear hK K
      try simp only [Act.put, pz0, pz1, pz2]
      refine PF.pf_done (by kernel_rfl) ?_
      exact ⟨rfl, hS', HM0.out.trans hM'⟩
    -- number 8 first
    · refine PF.step_one rfl (by kernel_rfl) (fun K hK => ?_)
      go_simp
      refine hK _ _ (by repeat (first | exact PF.owes_nil | refine PF.owes_left ?_ | refine PF.owes_no (by decide +kernel) ?_ | refine PF.owes_yes (by first | rfl | assumption | go_simp) ?_)) ?_
      clear hK K
      try simp only [Act.put, pz0, pz1, pz2]
      refine PF.pf_take0 9 (by kernel_rfl) rfl (fun _ _ _ _ _ h => h) (by kernel_rfl) (fun u => by go_simp; try rfl) ?_
      try simp only [Act.put, pz0, pz1, pz2]
      refine PF.pf_take0 10 (by kernel_rfl) rfl (fun _ _ _ _ _ h => h) (by kernel_rfl) (fun u => by go_simp; try rfl) ?_
      try simp only [Act.put, pz0, pz1, pz2]
      refine PF.pf_exec 7 (by kernel_rfl) rfl (by kernel_rfl) (fun K hK => ?_)
      go_simp
      refine hK _ _ (by repeat (first | exact PF.owes_nil | refine PF.owes_left ?_ | refine PF.owes_no (by decide +kernel) ?_ | refine PF.owes_yes (by first | rfl | assumption | go_simp) ?_)) ?_
      clear hK K
      try simp only [Act.put, pz0, pz1, pz2]
      refine PF.pf_exec 11 (by kernel_rfl) rfl (by kernel_rfl) (fun K hK => ?_)
      go_simp
      refine hc.mono ?_
      rintro e w' ⟨rfl, hS', hM'⟩
      refine hK _ _ (by repeat (first | exact PF.owes_nil | refine PF.owes_left ?_ | refine PF.owes_no (by decide +kernel) ?_ | refine PF.owes_yes (by first | rfl | assumption | go_simp) ?_)) ?_
      clear hK K
      try simp only [Act.put, pz0, pz1, pz2]
      refine PF.pf_done (by kernel_rfl) ?_
      exact ⟨rfl, hS', HM0.out.trans hM'⟩
  rintro w1 ⟨hS', hM'⟩
  have hz' : ([1, 2].foldl (gInt cs) S0).1.length ≤ 1020 := by
    have h1 := gInts_len (os := [1, 2]) (fun o' ho' => HTI.out o' (by simp at ho'; rcases ho' with rfl | rfl <;> decide)) S0
    have h2 := HL0.out
    try simp only [List.length_cons, List.length_nil, List.foldl_cons, List.foldl_nil] at h1
    try simp only [List.foldl_cons, List.foldl_nil]
    omega
  obtain ⟨S1, e'⟩ : ∃ S, S = [1, 2].foldl (gInt cs) S0 := ⟨_, rfl⟩
  rw [← e'] at hS' hz'
  have HS1 := Lib.hid hS'
  have HM1 := Lib.hid hM'
  have HL1 := Lib.hid hz'
  have HE1 := Lib.hid e'
  clear hS' hM' hz' e' 
  go_wp2_with fail
  have hc := wballot_var HS1.out [3] (by simp) (fun o' ho' => HBL.out o' (by simp at ho'; subst ho'; decide)) (below_new w1 _) (by simp) (ptrs_row0 [3] 111) (Nat.le_trans HL1.out (by omega))
  simp only [List.map_cons, List.map_nil, List.length_cons, List.length_nil, List.foldl_cons, List.foldl_nil, pc, Nat.zero_add, Nat.reduceAdd] at hc
  refine hc.mono ?_
  rintro e w2 ⟨rfl, hS', hM0⟩
  have hM' := HM1.out.trans hM0
  clear hM0 hc
  have hz' : (gBal cs S1 3).1.length ≤ 1050 := by
    have h1 := gBals_len (os := [3]) (fun o' ho' => HBL.out o' (by simp at ho'; subst ho'; decide)) S1
    have h2 := HL1.out
    try simp only [List.length_cons, List.length_nil, List.foldl_cons, List.foldl_nil] at h1
    try simp only [List.foldl_cons, List.foldl_nil]
    omega
  obtain ⟨S2, e'⟩ : ∃ S, S = gBal cs S1 3 := ⟨_, rfl⟩
  rw [← e'] at hS' hz'
  have HS2 := Lib.hid hS'
  have HM2 := Lib.hid hM'
  have HL2 := Lib.hid hz'
  have HE2 := Lib.hid e'
  clear hS' hM' hz' e' 
  go_wp2_with fail
  have hfin : askW cs S0 = S2 := by unfold askW; rw [HE2.out, HE1.out]
  have hc := wtextm_any (HS2.out.same (Below.refl _ _).drew) 6 A b c HO.out ((HB.out _ HM2.out).below (Below.refl _ _).drew) hbl (Nat.le_trans HL2.out (by omega))
  unfold pc at hc
  refine PF.pf_begin (by kernel_rfl) ?_
  refine PF.pf_take0 0 (by kernel_rfl) rfl (fun _ _ _ _ _ h => h) (by kernel_rfl) (fun u => by go_simp; try rfl) ?_
  try simp only [Act.put, pz0, pz1, pz2]
  refine PF.pf_take0 1 (by kernel_rfl) rfl (fun _ _ _ _ _ h => h) (by kernel_rfl) (fun u => by go_simp; try rfl) ?_
  try simp only [Act.put, pz0, pz1, pz2]
  refine PF.pf_take0 2 (by kernel_rfl) rfl (fun _ _ _ _ _ h => h) (by kernel_rfl) (fun u => by go_simp; try rfl) ?_
  try simp only [Act.put, pz0, pz1, pz2]
  refine PF.pf_take0 3 (by kernel_rfl) rfl (fun _ _ _ _ _ h => h) (by kernel_rfl) (fun u => by go_simp; try rfl) ?_
  try simp only [Act.put, pz0, pz1, pz2]
  refine PF.pf_exec 4 (by kernel_rfl) rfl (by kernel_rfl) (fun K hK => ?_)
  go_simp
  refine hK _ _ (by repeat (first | exact PF.owes_nil | refine PF.owes_left ?_ | refine PF.owes_no (by decide +kernel) ?_ | refine PF.owes_yes (by first | rfl | assumption | go_simp) ?_)) ?_
  clear hK K
  try simp only [Act.put, pz0, pz1, pz2]
  refine PF.pf_take0 5 (by kernel_rfl) rfl (fun _ _ _ _ _ h => h) (by kernel_rfl) (fun u => by go_simp; try rfl) ?_
  try simp only [Act.put, pz0, pz1, pz2]
  refine PF.pf_take0 6 (by kernel_rfl) rfl (fun _ _ _ _ _ h => h) (by kernel_rfl) (fun u => by go_simp; try rfl) ?_
  try simp only [Act.put, pz0, pz1, pz2]
  refine PF.pf_exec 7 (by kernel_rfl) rfl (by kernel_rfl) (fun K hK => ?_)
  go_simp
  refine hc.mono ?_
  rintro e wt ⟨rfl, hS', hM'⟩
  refine hK _ _ (by repeat (first | exact PF.owes_nil | refine PF.owes_left ?_ | refine PF.owes_no (by decide +kernel) ?_ | refine PF.owes_yes (by first | rfl | assumption | go_simp) ?_)) ?_
  clear hK K
  try simp only [Act.put, pz0, pz1, pz2]
  refine PF.pf_done (by kernel_rfl) ?_
  have hMt := HM2.out.trans (((Mod.refl _ w2).drew).trans hM')
  have HS' := Lib.hid hS'
  have HMt := Lib.hid hMt
  have HFI := Lib.hid hfin
  clear hc hS' hM' hMt hfin
  go_wp2_with fail
  go_ret
  rw [HFI.out]
  exact ⟨rfl, HS'.out, HMt.out⟩

set_option maxHeartbeats 16000000 in
theorem wfields_says {w0 : World} {K : Nat → Prop} {xb wb pb : Nat} {T : TypeId} {cs : Array Value} {S0 : WS} (h : WSt w0 K xb wb pb T cs S0) (hk : cs[0]? = some (.int .i64 2)) (ht : PkT cs) (hl : S0.1.length ≤ 1000) {A : Option Addr} {b : List UInt8} {c : Nat} (ho : cs[18]? = some (.slice A b.length c)) (hb : ∀ w', Mod (fun b => ¬ K b) w0 w' → Bytes w' A b) (hbl : b.length ≤ 1000000) :
    Calls Tryd.prog 22 #[.iface 128 (.pointer (some ⟨xb, 0, none⟩)), pc pb 0] w0 fun e w' => e = .returned (.bool true) ∧ WSt w' K xb wb pb T cs (gText b (saysW cs S0)) ∧ Mod (fun b => ¬ K b) w0 w' := by
  have hm1 := wr_ints xb
  have hm2 := wr_nums xb
  have hm3 := wr_text xb
  have hm4 := wr_list xb
  have k0 := h.pk.cell 0
  rw [hk] at k0
  have HS0 := Lib.hid h
  have HL0 : Hid (S0.1.length ≤ 1000) := hl
  have HM0 : Hid (Mod (fun b => ¬ K b) w0 w0) := Mod.refl _ _
  have HTI := Lib.hid ht.1
  have HTN := Lib.hid ht.2
  have HBL : Hid (∀ o ∈ [3, 9, 12, 15], IsBal cs o) := ht.bal
  have HP : Hid (∀ o ∈ [19, 29], IsPl cs o) := ht.pl
  have HB := Lib.hid hb
  have HO := Lib.hid ho
  clear h hk ht hl hb ho
  unfold pc
  go_enter Tryd.func22, Tryd.ntmps22
  go_wp2_with fail
  clear k0
  apply share (S := fun w' => WSt w' K xb wb pb T cs ([7, 8].foldl (gInt cs) S0) ∧ Mod (fun b => ¬ K b) w0 w')
  case walk =>
    have hc := wints_var HS0.out [7, 8] (by simp) (fun o' ho' => HTI.out o' (by simp at ho'; rcases ho' with rfl | rfl <;> decide)) (below_var w0 _) (by show _ < (w0.alloc _).heap.size; simp) (ptrs_row [7, 8] 109) (Nat.le_trans HL0.out (by omega))
    simp only [List.map_cons, List.map_nil, List.length_cons, List.length_nil, List.foldl_cons, List.foldl_nil, pc, Nat.zero_add, Nat.reduceAdd] at hc
    refine PF.pf_begin (by kernel_rfl) ?_
    refine PF.pf_take0 0 (by kernel_rfl) rfl (fun _ _ _ _ _ h => h) (by kernel_rfl) (fun u => by go_simp; try rfl) ?_
    try simp only [Act.put, pz0, pz1, pz2]
    refine PF.pf_take0 1 (by kernel_rfl) rfl (fun _ _ _ _ _ h => h) (by kernel_rfl) (fun u => by go_simp; try rfl) ?_
    try simp only [Act.put, pz0, pz1, pz2]
    refine PF.pf_take0 2 (by kernel_rfl) rfl (fun _ _ _ _ _ h => h) (by kernel_rfl) (fun u => by go_simp; try rfl) ?_
    try simp only [Act.put, pz0, pz1, pz2]
    refine PF.pf_take0 3 (by kernel_rfl) rfl (fun _ _ _ _ _ h => h) (by kernel_rfl) (fun u => by go_simp; try rfl) ?_
    try simp only [Act.put, pz0, pz1, pz2]
    refine PF.pf_take0 4 (by kernel_rfl) rfl (fun _ _ _ _ _ h => h) (by kernel_rfl) (fun u => by go_simp; try rfl) ?_
    try simp only [Act.put, pz0, pz1, pz2]
    refine PF.pf_take0 5 (by kernel_rfl) rfl (fun _ _ _ _ _ h => h) (by kernel_rfl) (fun u => by go_simp; try rfl) ?_
    try simp only [Act.put, pz0, pz1, pz2]
    refine PF.pf_take0 6 (by kernel_rfl) rfl (fun _ _ _ _ _ h => h) (by kernel_rfl) (fun u => by go_simp; try rfl) ?_
    try simp only [Act.put, pz0, pz1, pz2]
    refine PF.pf_fork [7, 8] (by kernel_rfl) rfl (PF.fork_cons ?_ (PF.fork_cons ?_ PF.fork_nil))
    -- number 7 first
    · refine PF.step_one rfl (by kernel_rfl) (fun K hK => ?_)
      go_simp
      refine hK _ _ (by repeat (first | exact PF.owes_nil | refine PF.owes_left ?_ | refine PF.owes_no (by decide +kernel) ?_ | refine PF.owes_yes (by first | rfl | assumption | go_simp) ?_)) ?_
      clear hK K
      try simp only [Act.put, pz0, pz1, pz2]
      refine PF.pf_exec 8 (by kernel_rfl) rfl (by kernel_rfl) (fun K hK => ?_)
      go_simp
      refine hK _ _ (by repeat (first | exact PF.owes_nil | refine PF.owes_left ?_ | refine PF.owes_no (by decide +kernel) ?_ | refine PF.owes_yes (by first | rfl | assumption | go_simp) ?_)) ?_
      clear hK K
      try simp only [Act.put, pz0, pz1, pz2]
      refine PF.pf_take0 9 (by kernel_rfl) rfl (fun _ _ _ _ _ h => h) (by kernel_rfl) (fun u => by go_simp; try rfl) ?_
      try simp only [Act.put, pz0, pz1, pz2]
      refine PF.pf_take0 10 (by kernel_rfl) rfl (fun _ _ _ _ _ h => h) (by kernel_rfl) (fun u => by go_simp; try rfl) ?_
      try simp only [Act.put, pz0, pz1, pz2]
      refine PF.pf_exec 11 (by kernel_rfl) rfl (by kernel_rfl) (fun K hK => ?_)
      go_simp
      refine hc.mono ?_
      rintro e w' ⟨rfl, hS', hM'⟩
      refine hK _ _ (by repeat (first | exact PF.owes_nil | refine PF.owes_left ?_ | refine PF.owes_no (by decide +kernel) ?_ | refine PF.owes_yes (by first | rfl | assumption | go_simp) ?_)) ?_
      clear hK K
      try simp only [Act.put, pz0, pz1, pz2]
      refine PF.pf_done (by kernel_rfl) ?_
      exact ⟨rfl, hS', HM0.out.trans hM'⟩
    -- number 8 first
    · refine PF.step_one rfl (by kernel_rfl) (fun K hK => ?_)
      go_simp
      refine hK _ _ (by repeat (first | exact PF.owes_nil | refine PF.owes_left ?_ | refine PF.owes_no (by decide +kernel) ?_ | refine PF.owes_yes (by first | rfl | assumption | go_simp) ?_)) ?_
      clear hK K
      try simp only [Act.put, pz0, pz1, pz2]
      refine PF.pf_take0 9 (by kernel_rfl) rfl (fun _ _ _ _ _ h => h) (by kernel_rfl) (fun u => by go_simp; try rfl) ?_
      try simp only [Act.put, pz0, pz1, pz2]
      refine PF.pf_take0 10 (by kernel_rfl) rfl (fun _ _ _ _ _ h => h) (by kernel_rfl) (fun u => by go_simp; try rfl) ?_
      try simp only [Act.put, pz0, pz1, pz2]
      refine PF.pf_exec 7 (by kernel_rfl) rfl (by kernel_rfl) (fun K hK => ?_)
      go_simp
      refine hK _ _ (by repeat (first | exact PF.owes_nil | refine PF.owes_left ?_ | refine PF.owes_no (by decide +kernel) ?_ | refine PF.owes_yes (by first | rfl | assumption | go_simp) ?_)) ?_
      clear hK K
      try simp only [Act.put, pz0, pz1, pz2]
      refine PF.pf_exec 11 (by kernel_rfl) rfl (by kernel_rfl) (fun K hK => ?_)
      go_simp
      refine hc.mono ?_
      rintro e w' ⟨rfl, hS', hM'⟩
      refine hK _ _ (by repeat (first | exact PF.owes_nil | refine PF.owes_left ?_ | refine PF.owes_no (by decide +kernel) ?_ | refine PF.owes_yes (by first | rfl | assumption | go_simp) ?_)) ?_
      clear hK K
      try simp only [Act.put, pz0, pz1, pz2]
      refine PF.pf_done (by kernel_rfl) ?_
      exact ⟨rfl, hS', HM0.out.trans hM'⟩
  rintro w1 ⟨hS', hM'⟩
  have hz' : ([7, 8].foldl (gInt cs) S0).1.length ≤ 1020 := by
    have h1 := gInts_len (os := [7, 8]) (fun o' ho' => HTI.out o' (by simp at ho'; rcases ho' with rfl | rfl <;> decide)) S0
    have h2 := HL0.out
    try simp only [List.length_cons, List.length_nil, List.foldl_cons, List.foldl_nil] at h1
    try simp only [List.foldl_cons, List.foldl_nil]
    omega
  obtain ⟨S1, e'⟩ : ∃ S, S = [7, 8].foldl (gInt cs) S0 := ⟨_, rfl⟩
  rw [← e'] at hS' hz'
  have HS1 := Lib.hid hS'
  have HM1 := Lib.hid hM'
  have HL1 := Lib.hid hz'
  have HE1 := Lib.hid e'
  clear hS' hM' hz' e' 
  go_wp2_with fail
  apply share (S := fun w' => WSt w' K xb wb pb T cs ([9, 12, 15].foldl (gBal cs) S1) ∧ Mod (fun b => ¬ K b) w0 w')
  case walk =>
    have hc := wballot_var HS1.out [9, 12, 15] (by simp) (fun o' ho' => HBL.out o' (by simp at ho'; rcases ho' with rfl | rfl | rfl <;> decide)) (below_var w1 _) (by show _ < (w1.alloc _).heap.size; simp) (ptrs_row [9, 12, 15] 111) (Nat.le_trans HL1.out (by omega))
    simp only [List.map_cons, List.map_nil, List.length_cons, List.length_nil, List.foldl_cons, List.foldl_nil, pc, Nat.zero_add, Nat.reduceAdd] at hc
    refine PF.pf_begin (by kernel_rfl) ?_
    refine PF.pf_take0 0 (by kernel_rfl) rfl (fun _ _ _ _ _ h => h) (by kernel_rfl) (fun u => by go_simp; try rfl) ?_
    try simp only [Act.put, pz0, pz1, pz2]
    refine PF.pf_take0 1 (by kernel_rfl) rfl (fun _ _ _ _ _ h => h) (by kernel_rfl) (fun u => by go_simp; try rfl) ?_
    try simp only [Act.put, pz0, pz1, pz2]
    refine PF.pf_take0 2 (by kernel_rfl) rfl (fun _ _ _ _ _ h => h) (by kernel_rfl) (fun u => by go_simp; try rfl) ?_
    try simp only [Act.put, pz0, pz1, pz2]
    refine PF.pf_take0 3 (by kernel_rfl) rfl (fun _ _ _ _ _ h => h) (by kernel_rfl) (fun u => by go_simp; try rfl) ?_
    try simp only [Act.put, pz0, pz1, pz2]
    refine PF.pf_take0 4 (by kernel_rfl) rfl (fun _ _ _ _ _ h => h) (by kernel_rfl) (fun u => by go_simp; try rfl) ?_
    try simp only [Act.put, pz0, pz1, pz2]
    refine PF.pf_take0 5 (by kernel_rfl) rfl (fun _ _ _ _ _ h => h) (by kernel_rfl) (fun u => by go_simp; try rfl) ?_
    try simp only [Act.put, pz0, pz1, pz2]
    refine PF.pf_take0 6 (by kernel_rfl) rfl (fun _ _ _ _ _ h => h) (by kernel_rfl) (fun u => by go_simp; try rfl) ?_
    try simp only [Act.put, pz0, pz1, pz2]
    refine PF.pf_take0 7 (by kernel_rfl) rfl (fun _ _ _ _ _ h => h) (by kernel_rfl) (fun u => by go_simp; try rfl) ?_
    try simp only [Act.put, pz0, pz1, pz2]
    refine PF.pf_take0 8 (by kernel_rfl) rfl (fun _ _ _ _ _ h => h) (by kernel_rfl) (fun u => by go_simp; try rfl) ?_
    try simp only [Act.put, pz0, pz1, pz2]
    refine PF.pf_take0 9 (by kernel_rfl) rfl (fun _ _ _ _ _ h => h) (by kernel_rfl) (fun u => by go_simp; try rfl) ?_
    try simp only [Act.put, pz0, pz1, pz2]
    refine PF.pf_exec 10 (by kernel_rfl) rfl (by kernel_rfl) (fun K hK => ?_)
    go_simp
    refine hK _ _ (by repeat (first | exact PF.owes_nil | refine PF.owes_left ?_ | refine PF.owes_no (by decide +kernel) ?_ | refine PF.owes_yes (by first | rfl | assumption | go_simp) ?_)) ?_
    clear hK K
    try simp only [Act.put, pz0, pz1, pz2]
    refine PF.pf_exec 11 (by kernel_rfl) rfl (by kernel_rfl) (fun K hK => ?_)
    go_simp
    refine hc.mono ?_
    rintro e w' ⟨rfl, hS', hM'⟩
    refine hK _ _ (by repeat (first | exact PF.owes_nil | refine PF.owes_left ?_ | refine PF.owes_no (by decide +kernel) ?_ | refine PF.owes_yes (by first | rfl | assumption | go_simp) ?_)) ?_
    clear hK K
    try simp only [Act.put, pz0, pz1, pz2]
    refine PF.pf_done (by kernel_rfl) ?_
    exact ⟨rfl, hS', HM1.out.trans hM'⟩
  rintro w2 ⟨hS', hM'⟩
  have hz' : ([9, 12, 15].foldl (gBal cs) S1).1.length ≤ 1110 := by
    have h1 := gBals_len (os := [9, 12, 15]) (fun o' ho' => HBL.out o' (by simp at ho'; rcases ho' with rfl | rfl | rfl <;> decide)) S1
    have h2 := HL1.out
    try simp only [List.length_cons, List.length_nil, List.foldl_cons, List.foldl_nil] at h1
    try simp only [List.foldl_cons, List.foldl_nil]
    omega
  obtain ⟨S2, e'⟩ : ∃ S, S = [9, 12, 15].foldl (gBal cs) S1 := ⟨_, rfl⟩
  rw [← e'] at hS' hz'
  have HS2 := Lib.hid hS'
  have HM2 := Lib.hid hM'
  have HL2 := Lib.hid hz'
  have HE2 := Lib.hid e'
  clear hS' hM' hz' e' 
  go_wp2_with fail
  have hfin : saysW cs S0 = S2 := by unfold saysW; rw [HE2.out, HE1.out]
  have hc := wtextm_any (HS2.out.same (Below.refl _ _).drew) 18 A b c HO.out ((HB.out _ HM2.out).below (Below.refl _ _).drew) hbl (Nat.le_trans HL2.out (by omega))
  unfold pc at hc
  refine PF.pf_begin (by kernel_rfl) ?_
  refine PF.pf_take0 0 (by kernel_rfl) rfl (fun _ _ _ _ _ h => h) (by kernel_rfl) (fun u => by go_simp; try rfl) ?_
  try simp only [Act.put, pz0, pz1, pz2]
  refine PF.pf_take0 1 (by kernel_rfl) rfl (fun _ _ _ _ _ h => h) (by kernel_rfl) (fun u => by go_simp; try rfl) ?_
  try simp only [Act.put, pz0, pz1, pz2]
  refine PF.pf_take0 2 (by kernel_rfl) rfl (fun _ _ _ _ _ h => h) (by kernel_rfl) (fun u => by go_simp; try rfl) ?_
  try simp only [Act.put, pz0, pz1, pz2]
  refine PF.pf_take0 3 (by kernel_rfl) rfl (fun _ _ _ _ _ h => h) (by kernel_rfl) (fun u => by go_simp; try rfl) ?_
  try simp only [Act.put, pz0, pz1, pz2]
  refine PF.pf_exec 4 (by kernel_rfl) rfl (by kernel_rfl) (fun K hK => ?_)
  go_simp
  refine hK _ _ (by repeat (first | exact PF.owes_nil | refine PF.owes_left ?_ | refine PF.owes_no (by decide +kernel) ?_ | refine PF.owes_yes (by first | rfl | assumption | go_simp) ?_)) ?_
  clear hK K
  try simp only [Act.put, pz0, pz1, pz2]
  refine PF.pf_take0 5 (by kernel_rfl) rfl (fun _ _ _ _ _ h => h) (by kernel_rfl) (fun u => by go_simp; try rfl) ?_
  try simp only [Act.put, pz0, pz1, pz2]
  refine PF.pf_take0 6 (by kernel_rfl) rfl (fun _ _ _ _ _ h => h) (by kernel_rfl) (fun u => by go_simp; try rfl) ?_
  try simp only [Act.put, pz0, pz1, pz2]
  refine PF.pf_exec 7 (by kernel_rfl) rfl (by kernel_rfl) (fun K hK => ?_)
  go_simp
  refine hc.mono ?_
  rintro e wt ⟨rfl, hS', hM'⟩
  refine hK _ _ (by repeat (first | exact PF.owes_nil | refine PF.owes_left ?_ | refine PF.owes_no (by decide +kernel) ?_ | refine PF.owes_yes (by first | rfl | assumption | go_simp) ?_)) ?_
  clear hK K
  try simp only [Act.put, pz0, pz1, pz2]
  refine PF.pf_done (by kernel_rfl) ?_
  have hMt := HM2.out.trans (((Mod.refl _ w2).drew).trans hM')
  have HS' := Lib.hid hS'
  have HMt := Lib.hid hMt
  have HFI := Lib.hid hfin
  clear hc hS' hM' hMt hfin
  go_wp2_with fail
  go_ret
  rw [HFI.out]
  exact ⟨rfl, HS'.out, HMt.out⟩

end Go.Proofs.YtdckdjkkaangmaaDoor
