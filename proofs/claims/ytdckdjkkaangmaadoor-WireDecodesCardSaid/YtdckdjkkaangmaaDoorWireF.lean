/- The reading walker over the fields. -/
import Derived.Test.YtdckdjkkaangmaaDoorWireE
namespace Go.Proofs.YtdckdjkkaangmaaDoor
set_option linter.unusedVariables false
set_option linter.unusedSimpArgs false
set_option maxRecDepth 100000
open Go.RowKit

theorem ptrs_row0 {w : World} {pb : Nat} (os : List Nat) (t : TypeId) : Reads (w.alloc (.cells (os.map (pc pb)).toArray t)) 1 (some ⟨w.heap.size, 0, none⟩) os.length (os.map (pc pb)) := ptrs_row os t
theorem rballot_var {w W : World} {xb lo hi r pb : Nat} {T : TypeId} {l : List UInt8} {S : RS} (h : RSt w xb lo hi r pb T l S) (hhi : hi ≤ w.heap.size) (os : List Nat) (hn : os.length ≤ 1000000) (ho : ∀ o ∈ os, o + 2 < S.1.size) (hb : Below w.heap.size w W) (hA : Reads W 1 (some ⟨w.heap.size, 0, none⟩) os.length (os.map (pc pb))) :
    Calls Tryd.prog 59 #[.iface 64 (.pointer (some ⟨xb, 0, none⟩)), .slice (some ⟨w.heap.size, 0, none⟩) os.length os.length] W fun e w' => e = .returned (.tuple #[]) ∧ RSt w' xb lo hi r pb T l (os.foldl (fBal l) S) ∧ Mod (Rw lo hi pb) w w' := by
  have hp := h.pk.lt
  refine (rballot_any (h.below hb) (Nat.le_trans hhi hb.size) os _ _ hA hn (fun ad e hr => ?_) ho).mono fun e w' ⟨h1, h2, h3⟩ => ⟨h1, h2, (Mod.below hb (Nat.le_refl _)).trans h3⟩
  injection e with e
  subst e
  exact hr.elim (fun e => by have e2 := e.2; simp only at e2; omega) fun e => by simp only at e; omega
/-- The fields of a kind that ends with a text. -/
def RText (w : World) (xb lo hi r pb : Nat) (T : TypeId) (l : List UInt8) (S : RS) (ot : Nat) (e : Ending) (w' : World) : Prop :=
  e = .returned (.bool true) ∧ ∃ g c, (rText l S.2).1.length ≤ c ∧ c ≤ 9223372036854775807 ∧ w.heap.size ≤ g ∧ WRow w' g (rText l S.2).1 ∧
    RSt w' xb lo hi r pb T l (S.1.setIfInBounds ot (.slice (some ⟨g, 0, none⟩) (rText l S.2).1.length c), (rText l S.2).2) ∧ Mod (Rw lo hi pb) w w'
/-- The fields of the kind that ends with a text and a list. -/
def RKeep (w : World) (xb lo hi r pb : Nat) (T : TypeId) (l : List UInt8) (S : RS) (ot : Nat) (e : Ending) (w' : World) : Prop :=
  e = .returned (.bool true) ∧ ∃ g c A c2, (rText l S.2).1.length ≤ c ∧ c ≤ 9223372036854775807 ∧ w.heap.size ≤ g ∧ WRow w' g (rText l S.2).1 ∧
    w'.ownsRow (g + 1) 24 1 (.slice A (rList l (rText l S.2).2).1.length c2) (rList l (rText l S.2).2).1.length ((rList l (rText l S.2).2).1.map u64v) ∧
    RSt w' xb lo hi r pb T l ((S.1.setIfInBounds ot (.slice (some ⟨g, 0, none⟩) (rText l S.2).1.length c)).setIfInBounds (ot + 1) (.slice A (rList l (rText l S.2).2).1.length c2), (rList l (rText l S.2).2).2) ∧ Mod (Rw lo hi pb) w w'
def askR (l : List UInt8) (S : RS) : RS := fBal l ([1, 2].foldl (fInt l) S) 3
def saysR (l : List UInt8) (S : RS) : RS := [9, 12, 15].foldl (fBal l) ([7, 8].foldl (fInt l) S)
def reqR (l : List UInt8) (S : RS) : RS := fInt l ([22, 23, 24, 25].foldl (fNum l) (fInt l (fPl l S 19) 21)) 26
def respR (l : List UInt8) (S : RS) : RS := [33, 34, 35, 36].foldl (fNum l) ([31, 32].foldl (fInt l) (fPl l S 29))
def callR (l : List UInt8) (S : RS) : RS := [44, 45].foldl (fNum l) ([41, 42, 43].foldl (fInt l) ([39, 40].foldl (fNum l) (fInt l S 38)))
def replyR (l : List UInt8) (S : RS) : RS := fNum l ([52, 53].foldl (fInt l) (fNum l (fInt l ([48, 49].foldl (fNum l) (fInt l S 47)) 50) 51)) 54
set_option maxHeartbeats 16000000 in
theorem rfields_ask {w0 : World} {xb lo hi r pb : Nat} {T : TypeId} {l : List UInt8} {S0 : RS} (h : RSt w0 xb lo hi r pb T l S0) (hhi : hi ≤ w0.heap.size) (hll : l.length ≤ 1000000) (hk : S0.1[0]? = some (.int .i64 1)) (hs : S0.1.size = 56) :
    Calls Tryd.prog 22 #[.iface 64 (.pointer (some ⟨xb, 0, none⟩)), pc pb 0] w0 (RText w0 xb lo hi r pb T l (askR l S0) 6) := by
  have hm1 := rd_ints xb
  have hm2 := rd_nums xb
  have hm3 := rd_text xb
  have hm4 := rd_list xb
  have HI : Hid (∀ w', Mod (Rw lo hi pb) w0 w' → hi ≤ w'.heap.size) := fun w' hm => Nat.le_trans hhi hm.size
  have k0 := h.pk.cell 0
  rw [hk] at k0
  have HS0 := Lib.hid h
  have HZ0 := Lib.hid hs
  have HM0 : Hid (Mod (Rw lo hi pb) w0 w0) := Mod.refl _ _
  have HK := Lib.hid hk
  clear h hk hs
  unfold pc
  go_enter Tryd.func22, Tryd.ntmps22
  go_wp2_with fail
  clear k0
  apply share (S := fun w' => RSt w' xb lo hi r pb T l ([1, 2].foldl (fInt l) S0) ∧ Mod (Rw lo hi pb) w0 w')
  case walk =>
    have hc := rints_var HS0.out (HI.out _ HM0.out) [1, 2] (by simp) (by intro o' ho'; have := HZ0.out; simp at ho'; omega) (below_var w0 _) (ptrs_row [1, 2] 109)
    simp only [List.map_cons, List.map_nil, List.length_cons, List.length_nil, List.foldl_cons, List.foldl_nil, pc, Nat.zero_add, Nat.reduceAdd] at hc
    refine PF.pf_begin (by kernel_rfl) ?_
    refine PF.pf_take0 0 (by kernel_rfl) rfl (fun _ _ _ _ _ h => h) (by kernel_rfl) (fun u => by go_simp; try rfl) ?_
    try simp only [Act.put, pz0, pz1, pz2]
    refine PF.pf_take0 1 (by kernel_rfl) rfl (fun _ _ _ _ _ h => h) (by kernel_rfl) (fun u => by go_simp; try rfl) ?_
    try simp only [Act.put, pz0, pz1, pz2]
    refine PF.pf_take0 2 (by kernel_rfl) rfl (fun _ _ _ _ _ h => h) (by kernel_rfl) (fun u => by go_simp; try rfl) ?_
    try simp only [Act.put, pz0, pz1, pz2]
    refine PF.pf_take0 3 (by kernel_rfl) rfl (fun _ _ _ _ _ h => h) (by kernel_rfl) (fun u => by go_simp; try rfl) ?_
    try simp only [Act.put, pz0, pz1, pz2]
    refine PF.pf_take0 4 (by kernel_rfl) rfl (fun _ _ _ _ _ h => h) (by kernel_rfl) (fun u => by go_simp; try rfl) ?_
    try simp only [Act.put, pz0, pz1, pz2]
    refine PF.pf_take0 5 (by kernel_rfl) rfl (fun _ _ _ _ _ h => h) (by kernel_rfl) (fun u => by go_simp; try rfl) ?_
    try simp only [Act.put, pz0, pz1, pz2]
    refine PF.pf_take0 6 (by kernel_rfl) rfl (fun _ _ _ _ _ h => h) (by kernel_rfl) (fun u => by go_simp; try rfl) ?_
    try simp only [Act.put, pz0, pz1, pz2]
    refine PF.pf_fork [7, 8] (by kernel_rfl) rfl (PF.fork_cons ?_ (PF.fork_cons ?_ PF.fork_nil))
    -- number 7 first
    · refine PF.step_one rfl (by kernel_rfl) (fun K hK => ?_)
      go_simp
      refine hK _ _ (by repeat (first | exact PF.owes_nil | refine PF.owes_left ?_ | refine PF.owes_no (by decide +kernel) ?_ | refine PF.owes_yes (by first | rfl | assumption | go_simp) ?_)) ?_
      clear hK K
      try simp only [Act.put, pz0, pz1, pz2]
      refine PF.pf_exec 8 (by kernel_rfl) rfl (by kernel_rfl) (fun K hK => ?_)
      go_simp
      refine hK _ _ (by repeat (first | exact PF.owes_nil | refine PF.owes_left ?_ | refine PF.owes_no (by decide +kernel) ?_ | refine PF.owes_yes (by first | rfl | assumption | go_simp) ?_)) ?_
      clear hK K
      try simp only [Act.put, pz0, pz1, pz2]
      refine PF.pf_take0 9 (by kernel_rfl) rfl (fun _ _ _ _ _ h => h) (by kernel_rfl) (fun u => by go_simp; try rfl) ?_
      try simp only [Act.put, pz0, pz1, pz2]
      refine PF.pf_take0 10 (by kernel_rfl) rfl (fun _ _ _ _ _ h => h) (by kernel_rfl) (fun u => by go_simp; try rfl) ?_
      try simp only [Act.put, pz0, pz1, pz2]
      refine PF.pf_exec 11 (by kernel_rfl) rfl (by kernel_rfl) (fun K hK => ?_)
      go_simp
      refine hc.mono ?_
      rintro e w' ⟨rfl, hS', hM'⟩
      refine hK _ _ (by repeat (first | exact PF.owes_nil | refine PF.owes_left ?_ | refine PF.owes_no (by decide +kernel) ?_ | refine PF.owes_yes (by first | rfl | assumption | go_simp) ?_)) ?_
      clear hK K
      try simp only [Act.put, pz0, pz1, pz2]
      refine PF.pf_done (by kernel_rfl) ?_
      exact ⟨rfl, hS', HM0.out.trans hM'⟩
    -- number 8 first
    · refine PF.step_one rfl (by kernel_rfl) (fun K hK => ?_)
      go_simp
      refine hK _ _ (by repeat (first | exact PF.owes_nil | refine PF.owes_left ?_ | refine PF.owes_no (by decide +kernel) ?_ | refine PF.owes_yes (by first | rfl | assumption | go_simp) ?_)) ?_
      clear hK K
      try simp only [Act.put, pz0, pz1, pz2]
      refine PF.pf_take0 9 (by kernel_rfl) rfl (fun _ _ _ _ _ h => h) (by kernel_rfl) (fun u => by go_simp; try rfl) ?_
      try simp only [Act.put, pz0, pz1, pz2]
      refine PF.pf_take0 10 (by kernel_rfl) rfl (fun _ _ _ _ _ h => h) (by kernel_rfl) (fun u => by go_simp; try rfl) ?_
      try simp only [Act.put, pz0, pz1, pz2]
      refine PF.pf_exec 7 (by kernel_rfl) rfl (by kernel_rfl) (fun K hK => ?_)
      go_simp
      refine hK _ _ (by repeat (first | exact PF.owes_nil | refine PF.owes_left ?_ | refine PF.owes_no (by decide +kernel) ?_ | refine PF.owes_yes (by first | rfl | assumption | go_simp) ?_)) ?_
      clear hK K
      try simp only [Act.put, pz0, pz1, pz2]
      refine PF.pf_exec 11 (by kernel_rfl) rfl (by kernel_rfl) (fun K hK => ?_)
      go_simp
      refine hc.mono ?_
      rintro e w' ⟨rfl, hS', hM'⟩
      refine hK _ _ (by repeat (first | exact PF.owes_nil | refine PF.owes_left ?_ | refine PF.owes_no (by decide +kernel) ?_ | refine PF.owes_yes (by first | rfl | assumption | go_simp) ?_)) ?_
      clear hK K
      try simp only [Act.put, pz0, pz1, pz2]
      refine PF.pf_done (by kernel_rfl) ?_
      exact ⟨rfl, hS', HM0.out.trans hM'⟩
  rintro w1 ⟨hS', hM'⟩
  have hz' : ([1, 2].foldl (fInt l) S0).1.size = 56 := by
    rw [← HZ0.out]
    simp [fInt_size, fNum_size, fBal_size, fPl_size, fold_size (fInt_size l), fold_size (fNum_size l), fold_size (fBal_size l)]
  obtain ⟨S1, e'⟩ : ∃ S, S = [1, 2].foldl (fInt l) S0 := ⟨_, rfl⟩
  rw [← e'] at hS' hz'
  have HS1 := Lib.hid hS'
  have HM1 := Lib.hid hM'
  have HZ1 := Lib.hid hz'
  have HE1 := Lib.hid e'
  clear hS' hM' hz' e'
  go_wp2_with fail
  have hc := rballot_var HS1.out (HI.out _ HM1.out) [3] (by simp) (by intro o' ho'; have := HZ1.out; simp at ho'; omega) (below_new w1 _) (ptrs_row0 [3] 111)
  simp only [List.map_cons, List.map_nil, List.length_cons, List.length_nil, List.foldl_cons, List.foldl_nil, pc, Nat.zero_add, Nat.reduceAdd] at hc
  refine hc.mono ?_
  rintro e w2 ⟨rfl, hS', hM0⟩
  have hM' := HM1.out.trans hM0
  clear hM0 hc
  have hz' : (fBal l S1 3).1.size = 56 := by
    rw [← HZ1.out]
    simp [fInt_size, fNum_size, fBal_size, fPl_size, fold_size (fInt_size l), fold_size (fNum_size l), fold_size (fBal_size l)]
  obtain ⟨S2, e'⟩ : ∃ S, S = fBal l S1 3 := ⟨_, rfl⟩
  rw [← e'] at hS' hz'
  have HS2 := Lib.hid hS'
  have HM2 := Lib.hid hM'
  have HZ2 := Lib.hid hz'
  have HE2 := Lib.hid e'
  clear hS' hM' hz' e'
  go_wp2_with fail
  have hc := rtext_any (HS2.out.below (Below.refl _ _).drew) hll 6 (by have := HZ2.out; omega)
  unfold pc at hc
  refine PF.pf_begin (by kernel_rfl) ?_
  refine PF.pf_take0 0 (by kernel_rfl) rfl (fun _ _ _ _ _ h => h) (by kernel_rfl) (fun u => by go_simp; try rfl) ?_
  try simp only [Act.put, pz0, pz1, pz2]
  refine PF.pf_take0 1 (by kernel_rfl) rfl (fun _ _ _ _ _ h => h) (by kernel_rfl) (fun u => by go_simp; try rfl) ?_
  try simp only [Act.put, pz0, pz1, pz2]
  refine PF.pf_take0 2 (by kernel_rfl) rfl (fun _ _ _ _ _ h => h) (by kernel_rfl) (fun u => by go_simp; try rfl) ?_
  try simp only [Act.put, pz0, pz1, pz2]
  refine PF.pf_take0 3 (by kernel_rfl) rfl (fun _ _ _ _ _ h => h) (by kernel_rfl) (fun u => by go_simp; try rfl) ?_
  try simp only [Act.put, pz0, pz1, pz2]
  refine PF.pf_exec 4 (by kernel_rfl) rfl (by kernel_rfl) (fun K hK => ?_)
  go_simp
  refine hK _ _ (by repeat (first | exact PF.owes_nil | refine PF.owes_left ?_ | refine PF.owes_no (by decide +kernel) ?_ | refine PF.owes_yes (by first | rfl | assumption | go_simp) ?_)) ?_
  clear hK K
  try simp only [Act.put, pz0, pz1, pz2]
  refine PF.pf_take0 5 (by kernel_rfl) rfl (fun _ _ _ _ _ h => h) (by kernel_rfl) (fun u => by go_simp; try rfl) ?_
  try simp only [Act.put, pz0, pz1, pz2]
  refine PF.pf_take0 6 (by kernel_rfl) rfl (fun _ _ _ _ _ h => h) (by kernel_rfl) (fun u => by go_simp; try rfl) ?_
  try simp only [Act.put, pz0, pz1, pz2]
  refine PF.pf_exec 7 (by kernel_rfl) rfl (by kernel_rfl) (fun K hK => ?_)
  go_simp
  refine hc.mono ?_
  rintro e wt ⟨rfl, g, c, hc1, hc2, hg, hW, hS', hM'⟩
  refine hK _ _ (by repeat (first | exact PF.owes_nil | refine PF.owes_left ?_ | refine PF.owes_no (by decide +kernel) ?_ | refine PF.owes_yes (by first | rfl | assumption | go_simp) ?_)) ?_
  clear hK K
  try simp only [Act.put, pz0, pz1, pz2]
  refine PF.pf_done (by kernel_rfl) ?_
  have hfin : askR l S0 = S2 := by unfold askR; rw [HE2.out, HE1.out]
  have HW := Lib.hid hW
  have HS' := Lib.hid hS'
  have HMt := Lib.hid (HM2.out.trans (((Mod.refl _ w2).drew).trans hM'))
  have HG := Lib.hid (Nat.le_trans HM2.out.size hg)
  clear hc hW hS' hM' hg
  go_wp2_with fail
  go_ret
  rw [hfin]
  exact ⟨rfl, g, c, hc1, hc2, HG.out, HW.out, HS'.out, HMt.out⟩

set_option maxHeartbeats 16000000 in
theorem rfields_says {w0 : World} {xb lo hi r pb : Nat} {T : TypeId} {l : List UInt8} {S0 : RS} (h : RSt w0 xb lo hi r pb T l S0) (hhi : hi ≤ w0.heap.size) (hll : l.length ≤ 1000000) (hk : S0.1[0]? = some (.int .i64 2)) (hs : S0.1.size = 56) :
    Calls Tryd.prog 22 #[.iface 64 (.pointer (some ⟨xb, 0, none⟩)), pc pb 0] w0 (RText w0 xb lo hi r pb T l (saysR l S0) 18) := by
  have hm1 := rd_ints xb
  have hm2 := rd_nums xb
  have hm3 := rd_text xb
  have hm4 := rd_list xb
  have HI : Hid (∀ w', Mod (Rw lo hi pb) w0 w' → hi ≤ w'.heap.size) := fun w' hm => Nat.le_trans hhi hm.size
  have k0 := h.pk.cell 0
  rw [hk] at k0
  have HS0 := Lib.hid h
  have HZ0 := Lib.hid hs
  have HM0 : Hid (Mod (Rw lo hi pb) w0 w0) := Mod.refl _ _
  have HK := Lib.hid hk
  clear h hk hs
  unfold pc
  go_enter Tryd.func22, Tryd.ntmps22
  go_wp2_with fail
  clear k0
  apply share (S := fun w' => RSt w' xb lo hi r pb T l ([7, 8].foldl (fInt l) S0) ∧ Mod (Rw lo hi pb) w0 w')
  case walk =>
    have hc := rints_var HS0.out (HI.out _ HM0.out) [7, 8] (by simp) (by intro o' ho'; have := HZ0.out; simp at ho'; omega) (below_var w0 _) (ptrs_row [7, 8] 109)
    simp only [List.map_cons, List.map_nil, List.length_cons, List.length_nil, List.foldl_cons, List.foldl_nil, pc, Nat.zero_add, Nat.reduceAdd] at hc
    refine PF.pf_begin (by kernel_rfl) ?_
    refine PF.pf_take0 0 (by kernel_rfl) rfl (fun _ _ _ _ _ h => h) (by kernel_rfl) (fun u => by go_simp; try rfl) ?_
    try simp only [Act.put, pz0, pz1, pz2]
    refine PF.pf_take0 1 (by kernel_rfl) rfl (fun _ _ _ _ _ h => h) (by kernel_rfl) (fun u => by go_simp; try rfl) ?_
    try simp only [Act.put, pz0, pz1, pz2]
    refine PF.pf_take0 2 (by kernel_rfl) rfl (fun _ _ _ _ _ h => h) (by kernel_rfl) (fun u => by go_simp; try rfl) ?_
    try simp only [Act.put, pz0, pz1, pz2]
    refine PF.pf_take0 3 (by kernel_rfl) rfl (fun _ _ _ _ _ h => h) (by kernel_rfl) (fun u => by go_simp; try rfl) ?_
    try simp only [Act.put, pz0, pz1, pz2]
    refine PF.pf_take0 4 (by kernel_rfl) rfl (fun _ _ _ _ _ h => h) (by kernel_rfl) (fun u => by go_simp; try rfl) ?_
    try simp only [Act.put, pz0, pz1, pz2]
    refine PF.pf_take0 5 (by kernel_rfl) rfl (fun _ _ _ _ _ h => h) (by kernel_rfl) (fun u => by go_simp; try rfl) ?_
    try simp only [Act.put, pz0, pz1, pz2]
    refine PF.pf_take0 6 (by kernel_rfl) rfl (fun _ _ _ _ _ h => h) (by kernel_rfl) (fun u => by go_simp; try rfl) ?_
    try simp only [Act.put, pz0, pz1, pz2]
    refine PF.pf_fork [7, 8] (by kernel_rfl) rfl (PF.fork_cons ?_ (PF.fork_cons ?_ PF.fork_nil))
    -- number 7 first
    · refine PF.step_one rfl (by kernel_rfl) (fun K hK => ?_)
      go_simp
      refine hK _ _ (by repeat (first | exact PF.owes_nil | refine PF.owes_left ?_ | refine PF.owes_no (by decide +kernel) ?_ | refine PF.owes_yes (by first | rfl | assumption | go_simp) ?_)) ?_
      clear hK K
      try simp only [Act.put, pz0, pz1, pz2]
      refine PF.pf_exec 8 (by kernel_rfl) rfl (by kernel_rfl) (fun K hK => ?_)
      go_simp
      refine hK _ _ (by repeat (first | exact PF.owes_nil | refine PF.owes_left ?_ | refine PF.owes_no (by decide +kernel) ?_ | refine PF.owes_yes (by first | rfl | assumption | go_simp) ?_)) ?_
      clear hK K
      try simp only [Act.put, pz0, pz1, pz2]
      refine PF.pf_take0 9 (by kernel_rfl) rfl (fun _ _ _ _ _ h => h) (by kernel_rfl) (fun u => by go_simp; try rfl) ?_
      try simp only [Act.put, pz0, pz1, pz2]
      refine PF.pf_take0 10 (by kernel_rfl) rfl (fun _ _ _ _ _ h => h) (by kernel_rfl) (fun u => by go_simp; try rfl) ?_
      try simp only [Act.put, pz0, pz1, pz2]
      refine PF.pf_exec 11 (by kernel_rfl) rfl (by kernel_rfl) (fun K hK => ?_)
      go_simp
      refine hc.mono ?_
      rintro e w' ⟨rfl, hS', hM'⟩
      refine hK _ _ (by repeat (first | exact PF.owes_nil | refine PF.owes_left ?_ | refine PF.owes_no (by decide +kernel) ?_ | refine PF.owes_yes (by first | rfl | assumption | go_simp) ?_)) ?_
      clear hK K
      try simp only [Act.put, pz0, pz1, pz2]
      refine PF.pf_done (by kernel_rfl) ?_
      exact ⟨rfl, hS', HM0.out.trans hM'⟩
    -- number 8 first
    · refine PF.step_one rfl (by kernel_rfl) (fun K hK => ?_)
      go_simp
      refine hK _ _ (by repeat (first | exact PF.owes_nil | refine PF.owes_left ?_ | refine PF.owes_no (by decide +kernel) ?_ | refine PF.owes_yes (by first | rfl | assumption | go_simp) ?_)) ?_
      clear hK K
      try simp only [Act.put, pz0, pz1, pz2]
      refine PF.pf_take0 9 (by kernel_rfl) rfl (fun _ _ _ _ _ h => h) (by kernel_rfl) (fun u => by go_simp; try rfl) ?_
      try simp only [Act.put, pz0, pz1, pz2]
      refine PF.pf_take0 10 (by kernel_rfl) rfl (fun _ _ _ _ _ h => h) (by kernel_rfl) (fun u => by go_simp; try rfl) ?_
      try simp only [Act.put, pz0, pz1, pz2]
      refine PF.pf_exec 7 (by kernel_rfl) rfl (by kernel_rfl) (fun K hK => ?_)
      go_simp
      refine hK _ _ (by repeat (first | exact PF.owes_nil | refine PF.owes_left ?_ | refine PF.owes_no (by decide +kernel) ?_ | refine PF.owes_yes (by first | rfl | assumption | go_simp) ?_)) ?_
      clear hK K
      try simp only [Act.put, pz0, pz1, pz2]
      refine PF.pf_exec 11 (by kernel_rfl) rfl (by kernel_rfl) (fun K hK => ?_)
      go_simp
      refine hc.mono ?_
      rintro e w' ⟨rfl, hS', hM'⟩
      refine hK _ _ (by repeat (first | exact PF.owes_nil | refine PF.owes_left ?_ | refine PF.owes_no (by decide +kernel) ?_ | refine PF.owes_yes (by first | rfl | assumption | go_simp) ?_)) ?_
      clear hK K
      try simp only [Act.put, pz0, pz1, pz2]
      refine PF.pf_done (by kernel_rfl) ?_
      exact ⟨rfl, hS', HM0.out.trans hM'⟩
  rintro w1 ⟨hS', hM'⟩
  have hz' : ([7, 8].foldl (fInt l) S0).1.size = 56 := by
    rw [← HZ0.out]
    simp [fInt_size, fNum_size, fBal_size, fPl_size, fold_size (fInt_size l), fold_size (fNum_size l), fold_size (fBal_size l)]
  obtain ⟨S1, e'⟩ : ∃ S, S = [7, 8].foldl (fInt l) S0 := ⟨_, rfl⟩
  rw [← e'] at hS' hz'
  have HS1 := Lib.hid hS'
  have HM1 := Lib.hid hM'
  have HZ1 := Lib.hid hz'
  have HE1 := Lib.hid e'
  clear hS' hM' hz' e'
  go_wp2_with fail
  apply share (S := fun w' => RSt w' xb lo hi r pb T l ([9, 12, 15].foldl (fBal l) S1) ∧ Mod (Rw lo hi pb) w0 w')
  case walk =>
    have hc := rballot_var HS1.out (HI.out _ HM1.out) [9, 12, 15] (by simp) (by intro o' ho'; have := HZ1.out; simp at ho'; omega) (below_var w1 _) (ptrs_row [9, 12, 15] 111)
    simp only [List.map_cons, List.map_nil, List.length_cons, List.length_nil, List.foldl_cons, List.foldl_nil, pc, Nat.zero_add, Nat.reduceAdd] at hc
    refine PF.pf_begin (by kernel_rfl) ?_
    refine PF.pf_take0 0 (by kernel_rfl) rfl (fun _ _ _ _ _ h => h) (by kernel_rfl) (fun u => by go_simp; try rfl) ?_
    try simp only [Act.put, pz0, pz1, pz2]
    refine PF.pf_take0 1 (by kernel_rfl) rfl (fun _ _ _ _ _ h => h) (by kernel_rfl) (fun u => by go_simp; try rfl) ?_
    try simp only [Act.put, pz0, pz1, pz2]
    refine PF.pf_take0 2 (by kernel_rfl) rfl (fun _ _ _ _ _ h => h) (by kernel_rfl) (fun u => by go_simp; try rfl) ?_
    try simp only [Act.put, pz0, pz1, pz2]
    refine PF.pf_take0 3 (by kernel_rfl) rfl (fun _ _ _ _ _ h => h) (by kernel_rfl) (fun u => by go_simp; try rfl) ?_
    try simp only [Act.put, pz0, pz1, pz2]
    refine PF.pf_take0 4 (by kernel_rfl) rfl (fun _ _ _ _ _ h => h) (by kernel_rfl) (fun u => by go_simp; try rfl) ?_
    try simp only [Act.put, pz0, pz1, pz2]
    refine PF.pf_take0 5 (by kernel_rfl) rfl (fun _ _ _ _ _ h => h) (by kernel_rfl) (fun u => by go_simp; try rfl) ?_
    try simp only [Act.put, pz0, pz1, pz2]
    refine PF.pf_take0 6 (by kernel_rfl) rfl (fun _ _ _ _ _ h => h) (by kernel_rfl) (fun u => by go_simp; try rfl) ?_
    try simp only [Act.put, pz0, pz1, pz2]
    refine PF.pf_take0 7 (by kernel_rfl) rfl (fun _ _ _ _ _ h => h) (by kernel_rfl) (fun u => by go_simp; try rfl) ?_
    try simp only [Act.put, pz0, pz1, pz2]
    refine PF.pf_take0 8 (by kernel_rfl) rfl (fun _ _ _ _ _ h => h) (by kernel_rfl) (fun u => by go_simp; try rfl) ?_
    try simp only [Act.put, pz0, pz1, pz2]
    refine PF.pf_take0 9 (by kernel_rfl) rfl (fun _ _ _ _ _ h => h) (by kernel_rfl) (fun u => by go_simp; try rfl) ?_
    try simp only [Act.put, pz0, pz1, pz2]
    refine PF.pf_exec 10 (by kernel_rfl) rfl (by kernel_rfl) (fun K hK => ?_)
    go_simp
    refine hK _ _ (by repeat (first | exact PF.owes_nil | refine PF.owes_left ?_ | refine PF.owes_no (by decide +kernel) ?_ | refine PF.owes_yes (by first | rfl | assumption | go_simp) ?_)) ?_
    clear hK K
    try simp only [Act.put, pz0, pz1, pz2]
    refine PF.pf_exec 11 (by kernel_rfl) rfl (by kernel_rfl) (fun K hK => ?_)
    go_simp
    refine hc.mono ?_
    rintro e w' ⟨rfl, hS', hM'⟩
    refine hK _ _ (by repeat (first | exact PF.owes_nil | refine PF.owes_left ?_ | refine PF.owes_no (by decide +kernel) ?_ | refine PF.owes_yes (by first | rfl | assumption | go_simp) ?_)) ?_
    clear hK K
    try simp only [Act.put, pz0, pz1, pz2]
    refine PF.pf_done (by kernel_rfl) ?_
    exact ⟨rfl, hS', HM1.out.trans hM'⟩
  rintro w2 ⟨hS', hM'⟩
  have hz' : ([9, 12, 15].foldl (fBal l) S1).1.size = 56 := by
    rw [← HZ1.out]
    simp [fInt_size, fNum_size, fBal_size, fPl_size, fold_size (fInt_size l), fold_size (fNum_size l), fold_size (fBal_size l)]
  obtain ⟨S2, e'⟩ : ∃ S, S = [9, 12, 15].foldl (fBal l) S1 := ⟨_, rfl⟩
  rw [← e'] at hS' hz'
  have HS2 := Lib.hid hS'
  have HM2 := Lib.hid hM'
  have HZ2 := Lib.hid hz'
  have HE2 := Lib.hid e'
  clear hS' hM' hz' e'
  go_wp2_with fail
  have hc := rtext_any (HS2.out.below (Below.refl _ _).drew) hll 18 (by have := HZ2.out; omega)
  unfold pc at hc
  refine PF.pf_begin (by kernel_rfl) ?_
  refine PF.pf_take0 0 (by kernel_rfl) rfl (fun _ _ _ _ _ h => h) (by kernel_rfl) (fun u => by go_simp; try rfl) ?_
  try simp only [Act.put, pz0, pz1, pz2]
  refine PF.pf_take0 1 (by kernel_rfl) rfl (fun _ _ _ _ _ h => h) (by kernel_rfl) (fun u => by go_simp; try rfl) ?_
  try simp only [Act.put, pz0, pz1, pz2]
  refine PF.pf_take0 2 (by kernel_rfl) rfl (fun _ _ _ _ _ h => h) (by kernel_rfl) (fun u => by go_simp; try rfl) ?_
  try simp only [Act.put, pz0, pz1, pz2]
  refine PF.pf_take0 3 (by kernel_rfl) rfl (fun _ _ _ _ _ h => h) (by kernel_rfl) (fun u => by go_simp; try rfl) ?_
  try simp only [Act.put, pz0, pz1, pz2]
  refine PF.pf_exec 4 (by kernel_rfl) rfl (by kernel_rfl) (fun K hK => ?_)
  go_simp
  refine hK _ _ (by repeat (first | exact PF.owes_nil | refine PF.owes_left ?_ | refine PF.owes_no (by decide +kernel) ?_ | refine PF.owes_yes (by first | rfl | assumption | go_simp) ?_)) ?_
  clear hK K
  try simp only [Act.put, pz0, pz1, pz2]
  refine PF.pf_take0 5 (by kernel_rfl) rfl (fun _ _ _ _ _ h => h) (by kernel_rfl) (fun u => by go_simp; try rfl) ?_
  try simp only [Act.put, pz0, pz1, pz2]
  refine PF.pf_take0 6 (by kernel_rfl) rfl (fun _ _ _ _ _ h => h) (by kernel_rfl) (fun u => by go_simp; try rfl) ?_
  try simp only [Act.put, pz0, pz1, pz2]
  refine PF.pf_exec 7 (by kernel_rfl) rfl (by kernel_rfl) (fun K hK => ?_)
  go_simp
  refine hc.mono ?_
  rintro e wt ⟨rfl, g, c, hc1, hc2, hg, hW, hS', hM'⟩
  refine hK _ _ (by repeat (first | exact PF.owes_nil | refine PF.owes_left ?_ | refine PF.owes_no (by decide +kernel) ?_ | refine PF.owes_yes (by first | rfl | assumption | go_simp) ?_)) ?_
  clear hK K
  try simp only [Act.put, pz0, pz1, pz2]
  refine PF.pf_done (by kernel_rfl) ?_
  have hfin : saysR l S0 = S2 := by unfold saysR; rw [HE2.out, HE1.out]
  have HW := Lib.hid hW
  have HS' := Lib.hid hS'
  have HMt := Lib.hid (HM2.out.trans (((Mod.refl _ w2).drew).trans hM'))
  have HG := Lib.hid (Nat.le_trans HM2.out.size hg)
  clear hc hW hS' hM' hg
  go_wp2_with fail
  go_ret
  rw [hfin]
  exact ⟨rfl, g, c, hc1, hc2, HG.out, HW.out, HS'.out, HMt.out⟩

end Go.Proofs.YtdckdjkkaangmaaDoor
