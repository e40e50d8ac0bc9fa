/- The reading walker: ballots, fields. -/
import Derived.Test.YtdckdjkkaangmaaDoorJE
namespace Go.Proofs.YtdckdjkkaangmaaDoor
set_option linter.unusedVariables false
set_option linter.unusedSimpArgs false
set_option maxRecDepth 100000
open Go.RowKit

def fPl (l : List UInt8) (S : RS) (o : Nat) : RS := fNum l (fInt l S o) (o + 1)
def fBal (l : List UInt8) (S : RS) (o : Nat) : RS := fNum l (fInt l (fNum l S o) (o + 1)) (o + 2)
theorem fPl_size (l : List UInt8) (S : RS) (o : Nat) : (fPl l S o).1.size = S.1.size := by simp [fPl, fNum_size, fInt_size]
theorem fBal_size (l : List UInt8) (S : RS) (o : Nat) : (fBal l S o).1.size = S.1.size := by simp [fBal, fNum_size, fInt_size]
set_option maxHeartbeats 8000000 in
theorem rballot_any {w : World} {xb lo hi r pb : Nat} {T : TypeId} {l : List UInt8} {S : RS} (h : RSt w xb lo hi r pb T l S) (hhi : hi ≤ w.heap.size) (os : List Nat) (A : Option Addr) (c : Nat) (hA : Reads w 1 A os.length (os.map (pc pb))) (hn : os.length ≤ 1000000)
    (hB : ∀ ad, A = some ad → ¬ Rw lo hi pb ad.block) (ho : ∀ o ∈ os, o + 2 < S.1.size) :
    Calls Tryd.prog 59 #[.iface 64 (.pointer (some ⟨xb, 0, none⟩)), .slice A os.length c] w fun e w' => e = .returned (.tuple #[]) ∧ RSt w' xb lo hi r pb T l (os.foldl (fBal l) S) ∧ Mod (Rw lo hi pb) w w' := by
  have hm1 := rd_ints xb
  have hm2 := rd_nums xb
  have HI : Hid (∀ w', Mod (Rw lo hi pb) w w' → hi ≤ w'.heap.size) := fun w' hm => Nat.le_trans hhi hm.size
  go_enter Tryd.func59, Tryd.ntmps59
  go_wp2_with fail
  go_loopw [8] (fun i wr => ∃ k : Nat, k ≤ os.length ∧ i = .int .i64 k ∧ RSt wr xb lo hi r pb T l ((os.take k).foldl (fBal l) S) ∧ Mod (Rw lo hi pb) w wr) (fun i _ => os.length - (intOf i).toNat)
  case atStart => exact ⟨0, by omega, rfl, h, Mod.refl _ _⟩
  case round =>
    obtain ⟨k, hk, rfl, hS, hM⟩ := hrel
    by_cases hlt : k < os.length
    · obtain ⟨w0, hw0⟩ : ∃ w0 : World, w0 = wr := ⟨_, rfl⟩
      rw [← hw0] at hS hM ⊢
      clear hw0
      have hA2 := Reads.mod hA hM hB
      obtain ⟨b, o, rfl, hbl, hc⟩ := Reads.flat hA2 (by omega) (by decide)
      have c0 : w0.cell? ⟨b, o + k, none⟩ = some (.pointer (some ⟨pb, os[k], none⟩)) := by
        exact hc k (pc pb os[k]) (by rw [List.getElem?_map, List.getElem?_eq_getElem hlt]; rfl)
      have hF := fold_take1 (f := fBal l) hlt S
      have hsz : os[k] + 2 < ((os.take k).foldl (fBal l) S).1.size := by rw [fold_size (fBal_size l)]; exact ho _ (List.getElem_mem hlt)
      generalize (os.take k).foldl (fBal l) S = S0 at hS hF hsz
      generalize os[k] = j at c0 hF hsz
      have HF := Lib.hid hF
      have HS0 := Lib.hid hS
      have HM0 := Lib.hid hM
      have HZ0 : Hid (S0.1.size = S0.1.size) := rfl
      clear hF hS hM hA hA2 h hc
      go_wp2_with fail
      clear c0
      apply share (S := fun w' => RSt w' xb lo hi r pb T l (fNum l S0 j) ∧ Mod (Rw lo hi pb) w w')
      case walk =>
        have hc := rnums_var HS0.out (HI.out _ HM0.out) [j] (by simp) (by intro o' ho';  simp at ho'; omega) (below_var w0 _) (ptrs_row [j] 118)
        simp only [List.map_cons, List.map_nil, List.length_cons, List.length_nil, List.foldl_cons, List.foldl_nil, pc, Nat.zero_add, Nat.reduceAdd] at hc
        refine PF.pf_begin (by kernel_rfl) ?_
        refine PF.pf_take0 0 (by kernel_rfl) rfl (fun _ _ _ _ _ h => h) (by kernel_rfl) (fun u => by go_simp; try rfl) ?_
        try simp only [Act.put, pz0, pz1, pz2]
        refine PF.pf_take0 1 (by kernel_rfl) rfl (fun _ _ _ _ _ h => h) (by kernel_rfl) (fun u => by go_simp; try rfl) ?_
        try simp only [Act.put, pz0, pz1, pz2]
        refine PF.pf_take0 2 (by kernel_rfl) rfl (fun _ _ _ _ _ h => h) (by kernel_rfl) (fun u => by go_simp; try rfl) ?_
        try simp only [Act.put, pz0, pz1, pz2]
        refine PF.pf_take0 3 (by kernel_rfl) rfl (fun _ _ _ _ _ h => h) (by kernel_rfl) (fun u => by go_simp; try rfl) ?_
        try simp only [Act.put, pz0, pz1, pz2]
        refine PF.pf_fork [4, 5] (by kernel_rfl) rfl (PF.fork_cons ?_ (PF.fork_cons ?_ PF.fork_nil))
        -- number 4 first
        · refine PF.step_one rfl (by kernel_rfl) (fun K hK => ?_)
          go_simp
          refine hK _ _ (by repeat (first | exact PF.owes_nil | refine PF.owes_left ?_ | refine PF.owes_no (by decide +kernel) ?_ | refine PF.owes_yes (by first | rfl | assumption | go_simp) ?_)) ?_
          clear hK K
          try simp only [Act.put, pz0, pz1, pz2]
          refine PF.pf_exec 5 (by kernel_rfl) rfl (by kernel_rfl) (fun K hK => ?_)
          go_simp
          refine hK _ _ (by repeat (first | exact PF.owes_nil | refine PF.owes_left ?_ | refine PF.owes_no (by decide +kernel) ?_ | refine PF.owes_yes (by first | rfl | assumption | go_simp) ?_)) ?_
          clear hK K
          try simp only [Act.put, pz0, pz1, pz2]
          refine PF.pf_take0 6 (by kernel_rfl) rfl (fun _ _ _ _ _ h => h) (by kernel_rfl) (fun u => by go_simp; try rfl) ?_
          try simp only [Act.put, pz0, pz1, pz2]
          refine PF.pf_take0 7 (by kernel_rfl) rfl (fun _ _ _ _ _ h => h) (by kernel_rfl) (fun u => by go_simp; try rfl) ?_
          try simp only [Act.put, pz0, pz1, pz2]
          refine PF.pf_exec 8 (by kernel_rfl) rfl (by kernel_rfl) (fun K hK => ?_)
          go_simp
          refine hc.mono ?_
          rintro e w' ⟨rfl, hS', hM'⟩
          refine hK _ _ (by repeat (first | exact PF.owes_nil | refine PF.owes_left ?_ | refine PF.owes_no (by decide +kernel) ?_ | refine PF.owes_yes (by first | rfl | assumption | go_simp) ?_)) ?_
          clear hK K
          try simp only [Act.put, pz0, pz1, pz2]
          refine PF.pf_done (by kernel_rfl) ?_
          exact ⟨rfl, hS', HM0.out.trans hM'⟩
        -- number 5 first
        · refine PF.step_one rfl (by kernel_rfl) (fun K hK => ?_)
          go_simp
          refine hK _ _ (by repeat (first | exact PF.owes_nil | refine PF.owes_left ?_ | refine PF.owes_no (by decide +kernel) ?_ | refine PF.owes_yes (by first | rfl | assumption | go_simp) ?_)) ?_
          clear hK K
          try simp only [Act.put, pz0, pz1, pz2]
          refine PF.pf_take0 6 (by kernel_rfl) rfl (fun _ _ _ _ _ h => h) (by kernel_rfl) (fun u => by go_simp; try rfl) ?_
          try simp only [Act.put, pz0, pz1, pz2]
          refine PF.pf_take0 7 (by kernel_rfl) rfl (fun _ _ _ _ _ h => h) (by kernel_rfl) (fun u => by go_simp; try rfl) ?_
          try simp only [Act.put, pz0, pz1, pz2]
          refine PF.pf_exec 4 (by kernel_rfl) rfl (by kernel_rfl) (fun K hK => ?_)
          go_simp
          refine hK _ _ (by repeat (first | exact PF.owes_nil | refine PF.owes_left ?_ | refine PF.owes_no (by decide +kernel) ?_ | refine PF.owes_yes (by first | rfl | assumption | go_simp) ?_)) ?_
          clear hK K
          try simp only [Act.put, pz0, pz1, pz2]
          refine PF.pf_exec 8 (by kernel_rfl) rfl (by kernel_rfl) (fun K hK => ?_)
          go_simp
          refine hc.mono ?_
          rintro e w' ⟨rfl, hS', hM'⟩
          refine hK _ _ (by repeat (first | exact PF.owes_nil | refine PF.owes_left ?_ | refine PF.owes_no (by decide +kernel) ?_ | refine PF.owes_yes (by first | rfl | assumption | go_simp) ?_)) ?_
          clear hK K
          try simp only [Act.put, pz0, pz1, pz2]
          refine PF.pf_done (by kernel_rfl) ?_
          exact ⟨rfl, hS', HM0.out.trans hM'⟩
      rintro w1 ⟨hS', hM'⟩
      have hz' : (fNum l S0 j).1.size = S0.1.size := by
        skip
        simp [fInt_size, fNum_size, fBal_size, fPl_size, fold_size (fInt_size l), fold_size (fNum_size l), fold_size (fBal_size l)]
      obtain ⟨S1, e'⟩ : ∃ S, S = fNum l S0 j := ⟨_, rfl⟩
      rw [← e'] at hS' hz'
      have HS1 := Lib.hid hS'
      have HM1 := Lib.hid hM'
      have HZ1 := Lib.hid hz'
      have HE1 := Lib.hid e'
      clear hS' hM' hz' e'
      go_wp2_with fail
      apply share (S := fun w' => RSt w' xb lo hi r pb T l (fInt l S1 (j + 1)) ∧ Mod (Rw lo hi pb) w w')
      case walk =>
        have hc := rints_var HS1.out (HI.out _ HM1.out) [j + 1] (by simp) (by intro o' ho'; have := HZ1.out; simp at ho'; omega) (below_var w1 _) (ptrs_row [j + 1] 109)
        simp only [List.map_cons, List.map_nil, List.length_cons, List.length_nil, List.foldl_cons, List.foldl_nil, pc, Nat.zero_add, Nat.reduceAdd] at hc
        refine PF.pf_begin (by kernel_rfl) ?_
        refine PF.pf_take0 0 (by kernel_rfl) rfl (fun _ _ _ _ _ h => h) (by kernel_rfl) (fun u => by go_simp; try rfl) ?_
        try simp only [Act.put, pz0, pz1, pz2]
        refine PF.pf_take0 1 (by kernel_rfl) rfl (fun _ _ _ _ _ h => h) (by kernel_rfl) (fun u => by go_simp; try rfl) ?_
        try simp only [Act.put, pz0, pz1, pz2]
        refine PF.pf_take0 2 (by kernel_rfl) rfl (fun _ _ _ _ _ h => h) (by kernel_rfl) (fun u => by go_simp; try rfl) ?_
        try simp only [Act.put, pz0, pz1, pz2]
        refine PF.pf_take0 3 (by kernel_rfl) rfl (fun _ _ _ _ _ h => h) (by kernel_rfl) (fun u => by go_simp; try rfl) ?_
        try simp only [Act.put, pz0, pz1, pz2]
        refine PF.pf_fork [4, 5] (by kernel_rfl) rfl (PF.fork_cons ?_ (PF.fork_cons ?_ PF.fork_nil))
        -- number 4 first
        · refine PF.step_one rfl (by kernel_rfl) (fun K hK => ?_)
          go_simp
          refine hK _ _ (by repeat (first | exact PF.owes_nil | refine PF.owes_left ?_ | refine PF.owes_no (by decide +kernel) ?_ | refine PF.owes_yes (by first | rfl | assumption | go_simp) ?_)) ?_
          clear hK K
          try simp only [Act.put, pz0, pz1, pz2]
          refine PF.pf_exec 5 (by kernel_rfl) rfl (by kernel_rfl) (fun K hK => ?_)
          go_simp
          refine hK _ _ (by repeat (first | exact PF.owes_nil | refine PF.owes_left ?_ | refine PF.owes_no (by decide +kernel) ?_ | refine PF.owes_yes (by first | rfl | assumption | go_simp) ?_)) ?_
          clear hK K
          try simp only [Act.put, pz0, pz1, pz2]
          refine PF.pf_take0 6 (by kernel_rfl) rfl (fun _ _ _ _ _ h => h) (by kernel_rfl) (fun u => by go_simp; try rfl) ?_
          try simp only [Act.put, pz0, pz1, pz2]
          refine PF.pf_take0 7 (by kernel_rfl) rfl (fun _ _ _ _ _ h => h) (by kernel_rfl) (fun u => by go_simp; try rfl) ?_
          try simp only [Act.put, pz0, pz1, pz2]
          refine PF.pf_exec 8 (by kernel_rfl) rfl (by kernel_rfl) (fun K hK => ?_)
          go_simp
          refine hc.mono ?_
          rintro e w' ⟨rfl, hS', hM'⟩
          refine hK _ _ (by repeat (first | exact PF.owes_nil | refine PF.owes_left ?_ | refine PF.owes_no (by decide +kernel) ?_ | refine PF.owes_yes (by first | rfl | assumption | go_simp) ?_)) ?_
          clear hK K
          try simp only [Act.put, pz0, pz1, pz2]
          refine PF.pf_done (by kernel_rfl) ?_
          exact ⟨rfl, hS', HM1.out.trans hM'⟩
        -- number 5 first
        · refine PF.step_one rfl (by kernel_rfl) (fun K hK => ?_)
          go_simp
          refine hK _ _ (by repeat (first | exact PF.owes_nil | refine PF.owes_left ?_ | refine PF.owes_no (by decide +kernel) ?_ | refine PF.owes_yes (by first | rfl | assumption | go_simp) ?_)) ?_
          clear hK K
          try simp only [Act.put, pz0, pz1, pz2]
          refine PF.pf_take0 6 (by kernel_rfl) rfl (fun _ _ _ _ _ h => h) (by kernel_rfl) (fun u => by go_simp; try rfl) ?_
          try simp only [Act.put, pz0, pz1, pz2]
          refine PF.pf_take0 7 (by kernel_rfl) rfl (fun _ _ _ _ _ h => h) (by kernel_rfl) (fun u => by go_simp; try rfl) ?_
          try simp only [Act.put, pz0, pz1, pz2]
          refine PF.pf_exec 4 (by kernel_rfl) rfl (by kernel_rfl) (fun K hK => ?_)
          go_simp
          refine hK _ _ (by repeat (first | exact PF.owes_nil | refine PF.owes_left ?_ | refine PF.owes_no (by decide +kernel) ?_ | refine PF.owes_yes (by first | rfl | assumption | go_simp) ?_)) ?_
          clear hK K
          try simp only [Act.put, pz0, pz1, pz2]
          refine PF.pf_exec 8 (by kernel_rfl) rfl (by kernel_rfl) (fun K hK => ?_)
          go_simp
          refine hc.mono ?_
          rintro e w' ⟨rfl, hS', hM'⟩
          refine hK _ _ (by repeat (first | exact PF.owes_nil | refine PF.owes_left ?_ | refine PF.owes_no (by decide +kernel) ?_ | refine PF.owes_yes (by first | rfl | assumption | go_simp) ?_)) ?_
          clear hK K
          try simp only [Act.put, pz0, pz1, pz2]
          refine PF.pf_done (by kernel_rfl) ?_
          exact ⟨rfl, hS', HM1.out.trans hM'⟩
      rintro w2 ⟨hS', hM'⟩
      have hz' : (fInt l S1 (j + 1)).1.size = S0.1.size := by
        rw [← HZ1.out]
        simp [fInt_size, fNum_size, fBal_size, fPl_size, fold_size (fInt_size l), fold_size (fNum_size l), fold_size (fBal_size l)]
      obtain ⟨S2, e'⟩ : ∃ S, S = fInt l S1 (j + 1) := ⟨_, rfl⟩
      rw [← e'] at hS' hz'
      have HS2 := Lib.hid hS'
      have HM2 := Lib.hid hM'
      have HZ2 := Lib.hid hz'
      have HE2 := Lib.hid e'
      clear hS' hM' hz' e'
      go_wp2_with fail
      apply share (S := fun w' => RSt w' xb lo hi r pb T l (fNum l S2 (j + 2)) ∧ Mod (Rw lo hi pb) w w')
      case walk =>
        have hc := rnums_var HS2.out (HI.out _ HM2.out) [j + 2] (by simp) (by intro o' ho'; have := HZ2.out; simp at ho'; omega) (below_var w2 _) (ptrs_row [j + 2] 118)
        simp only [List.map_cons, List.map_nil, List.length_cons, List.length_nil, List.foldl_cons, List.foldl_nil, pc, Nat.zero_add, Nat.reduceAdd] at hc
        refine PF.pf_begin (by kernel_rfl) ?_
        refine PF.pf_take0 0 (by kernel_rfl) rfl (fun _ _ _ _ _ h => h) (by kernel_rfl) (fun u => by go_simp; try rfl) ?_
        try simp only [Act.put, pz0, pz1, pz2]
        refine PF.pf_take0 1 (by kernel_rfl) rfl (fun _ _ _ _ _ h => h) (by kernel_rfl) (fun u => by go_simp; try rfl) ?_
        try simp only [Act.put, pz0, pz1, pz2]
        refine PF.pf_take0 2 (by kernel_rfl) rfl (fun _ _ _ _ _ h => h) (by kernel_rfl) (fun u => by go_simp; try rfl) ?_
        try simp only [Act.put, pz0, pz1, pz2]
        refine PF.pf_take0 3 (by kernel_rfl) rfl (fun _ _ _ _ _ h => h) (by kernel_rfl) (fun u => by go_simp; try rfl) ?_
        try simp only [Act.put, pz0, pz1, pz2]
        refine PF.pf_fork [4, 5] (by kernel_rfl) rfl (PF.fork_cons ?_ (PF.fork_cons ?_ PF.fork_nil))
        -- number 4 first
        · refine PF.step_one rfl (by kernel_rfl) (fun K hK => ?_)
          go_simp
          refine hK _ _ (by repeat (first | exact PF.owes_nil | refine PF.owes_left ?_ | refine PF.owes_no (by decide +kernel) ?_ | refine PF.owes_yes (by first | rfl | assumption | go_simp) ?_)) ?_
          clear hK K
          try simp only [Act.put, pz0, pz1, pz2]
          refine PF.pf_exec 5 (by kernel_rfl) rfl (by kernel_rfl) (fun K hK => ?_)
          go_simp
          refine hK _ _ (by repeat (first | exact PF.owes_nil | refine PF.owes_left ?_ | refine PF.owes_no (by decide +kernel) ?_ | refine PF.owes_yes (by first | rfl | assumption | go_simp) ?_)) ?_
          clear hK K
          try simp only [Act.put, pz0, pz1, pz2]
          refine PF.pf_take0 6 (by kernel_rfl) rfl (fun _ _ _ _ _ h => h) (by kernel_rfl) (fun u => by go_simp; try rfl) ?_
          try simp only [Act.put, pz0, pz1, pz2]
          refine PF.pf_take0 7 (by kernel_rfl) rfl (fun _ _ _ _ _ h => h) (by kernel_rfl) (fun u => by go_simp; try rfl) ?_
          try simp only [Act.put, pz0, pz1, pz2]
          refine PF.pf_exec 8 (by kernel_rfl) rfl (by kernel_rfl) (fun K hK => ?_)
          go_simp
          refine hc.mono ?_
          rintro e w' ⟨rfl, hS', hM'⟩
          refine hK _ _ (by repeat (first | exact PF.owes_nil | refine PF.owes_left ?_ | refine PF.owes_no (by decide +kernel) ?_ | refine PF.owes_yes (by first | rfl | assumption | go_simp) ?_)) ?_
          clear hK K
          try simp only [Act.put, pz0, pz1, pz2]
          refine PF.pf_done (by kernel_rfl) ?_
          exact ⟨rfl, hS', HM2.out.trans hM'⟩
        -- number 5 first
        · refine PF.step_one rfl (by kernel_rfl) (fun K hK => ?_)
          go_simp
          refine hK _ _ (by repeat (first | exact PF.owes_nil | refine PF.owes_left ?_ | refine PF.owes_no (by decide +kernel) ?_ | refine PF.owes_yes (by first | rfl | assumption | go_simp) ?_)) ?_
          clear hK K
          try simp only [Act.put, pz0, pz1, pz2]
          refine PF.pf_take0 6 (by kernel_rfl) rfl (fun _ _ _ _ _ h => h) (by kernel_rfl) (fun u => by go_simp; try rfl) ?_
          try simp only [Act.put, pz0, pz1, pz2]
          refine PF.pf_take0 7 (by kernel_rfl) rfl (fun _ _ _ _ _ h => h) (by kernel_rfl) (fun u => by go_simp; try rfl) ?_
          try simp only [Act.put, pz0, pz1, pz2]
          refine PF.pf_exec 4 (by kernel_rfl) rfl (by kernel_rfl) (fun K hK => ?_)
          go_simp
          refine hK _ _ (by repeat (first | exact PF.owes_nil | refine PF.owes_left ?_ | refine PF.owes_no (by decide +kernel) ?_ | refine PF.owes_yes (by first | rfl | assumption | go_simp) ?_)) ?_
          clear hK K
          try simp only [Act.put, pz0, pz1, pz2]
          refine PF.pf_exec 8 (by kernel_rfl) rfl (by kernel_rfl) (fun K hK => ?_)
          go_simp
          refine hc.mono ?_
          rintro e w' ⟨rfl, hS', hM'⟩
          refine hK _ _ (by repeat (first | exact PF.owes_nil | refine PF.owes_left ?_ | refine PF.owes_no (by decide +kernel) ?_ | refine PF.owes_yes (by first | rfl | assumption | go_simp) ?_)) ?_
          clear hK K
          try simp only [Act.put, pz0, pz1, pz2]
          refine PF.pf_done (by kernel_rfl) ?_
          exact ⟨rfl, hS', HM2.out.trans hM'⟩
      rintro w3 ⟨hS', hM'⟩
      have hz' : (fNum l S2 (j + 2)).1.size = S0.1.size := by
        rw [← HZ2.out]
        simp [fInt_size, fNum_size, fBal_size, fPl_size, fold_size (fInt_size l), fold_size (fNum_size l), fold_size (fBal_size l)]
      obtain ⟨S3, e'⟩ : ∃ S, S = fNum l S2 (j + 2) := ⟨_, rfl⟩
      rw [← e'] at hS' hz'
      have HS3 := Lib.hid hS'
      have HM3 := Lib.hid hM'
      have HZ3 := Lib.hid hz'
      have HE3 := Lib.hid e'
      clear hS' hM' hz' e'
      go_wp2_with fail
      go_roundw
      case rel => exact ⟨k + 1, by omega, by go_num, by rw [HF.out]; unfold fBal; rw [← HE1.out, ← HE2.out, ← HE3.out]; exact HS3.out, HM3.out⟩
      case measure => simp [intOf]; omega
    · obtain rfl : k = os.length := by omega
      rw [List.take_length] at hS
      have HS := Lib.hid hS
      clear hS
      go_wp2_with fail
      go_end0
      exact ⟨rfl, HS.out, hM⟩
end Go.Proofs.YtdckdjkkaangmaaDoor
