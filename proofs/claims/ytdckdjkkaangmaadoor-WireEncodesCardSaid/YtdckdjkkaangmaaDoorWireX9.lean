/- The document's Encode: what may not be. -/
import Derived.Test.YtdckdjkkaangmaaDoorWireX8
import Derived.Test.YtdckdjkkaangmaaDoorWireI2
import Derived.Test.YtdckdjkkaangmaaDoorWireP2
import Derived.Test.YtdckdjkkaangmaaDoorJN
import Derived.Test.YtdckdjkkaangmaaDoorSumF
namespace Go.Proofs.YtdckdjkkaangmaaDoor
set_option linter.unusedVariables false
set_option linter.unusedSimpArgs false
set_option maxRecDepth 100000
open Go.RowKit

set_option maxRecDepth 100000 in
set_option maxHeartbeats 16000000 in
theorem denc_low {w : World} {cs : Array Value} {P : Pk} (hP : PkV w cs P) (h : P.n 0 < 1) :
    Calls Tryd.prog 17 #[.agg cs] w fun e w' => EncPost w.heap.size P e w' ∧ Below w.heap.size w w' := by
  have hB1 : Blk (w.alloc (.cells cs 44)) w.heap.size 44 cs := Blk.new _ _ _
  have c0 := (hB1.cell 0).trans hP.kind.1
  have HBB := Lib.hid (below_new w (.cells cs 44))
  have HNO : Hid (¬ OkP P) := fun h' => by have := h'.1; omega
  have d0 : decide (P.n 0 < 1) = true := decide_eq_true h
  clear hB1 hP h
  go_enter Tryd.func17, Tryd.ntmps17
  go_wp2_with fail
  refine PF.pf_begin (by kernel_rfl) ?_
  refine PF.pf_take0 0 (by kernel_rfl) rfl (fun _ _ _ _ _ h => h) (by kernel_rfl) (fun u => by go_simp; try rfl) ?_
  try simp only [Act.put, pz0, pz1, pz2]
  refine PF.pf_take1 1 (PF.Same (w.heap.size) _) (by kernel_rfl) rfl (fun _ _ _ _ _ h => h) (by kernel_rfl) (PF.Same.refl _ _) (fun u hu => by have hcu := hu.cell; go_simp; try rfl) ?_
  try simp only [Act.put, pz0, pz1, pz2]
  refine PF.pf_take0 2 (by kernel_rfl) rfl (fun _ _ _ _ _ h => h) (by kernel_rfl) (fun u => by go_simp; try rfl) ?_
  try simp only [Act.put, pz0, pz1, pz2]
  refine PF.pf_take0 3 (by kernel_rfl) rfl (fun _ _ _ _ _ h => h) (by kernel_rfl) (fun u => by go_simp; try rfl) ?_
  try simp only [Act.put, pz0, pz1, pz2]
  refine PF.pf_skip0 4 (by kernel_rfl) rfl (fun _ _ _ _ _ h => h) (by kernel_rfl) ?_
  try simp only [Act.put, pz0, pz1, pz2]
  refine PF.pf_skip0 5 (by kernel_rfl) rfl (fun _ _ _ _ _ h => h) (by kernel_rfl) ?_
  try simp only [Act.put, pz0, pz1, pz2]
  refine PF.pf_skip0 6 (by kernel_rfl) rfl (fun _ _ _ _ _ h => h) (by kernel_rfl) ?_
  try simp only [Act.put, pz0, pz1, pz2]
  refine PF.pf_take0 7 (by kernel_rfl) rfl (fun _ _ _ _ _ h => h) (by kernel_rfl) (fun u => by go_simp; try rfl) ?_
  try simp only [Act.put, pz0, pz1, pz2]
  refine PF.pf_take0 8 (by kernel_rfl) rfl (fun _ _ _ _ _ h => h) (by kernel_rfl) (fun u => by go_simp; try rfl) ?_
  try simp only [Act.put, pz0, pz1, pz2]
  refine PF.pf_skip0 9 (by kernel_rfl) rfl (fun _ _ _ _ _ h => h) (by kernel_rfl) ?_
  try simp only [Act.put, pz0, pz1, pz2]
  refine PF.pf_skip0 10 (by kernel_rfl) rfl (fun _ _ _ _ _ h => h) (by kernel_rfl) ?_
  try simp only [Act.put, pz0, pz1, pz2]
  refine PF.pf_skip 11 (by kernel_rfl) rfl (by kernel_rfl) ?_
  try simp only [Act.put, pz0, pz1, pz2]
  refine PF.pf_skip 12 (by kernel_rfl) rfl (by kernel_rfl) ?_
  try simp only [Act.put, pz0, pz1, pz2]
  refine PF.pf_skip0 13 (by kernel_rfl) rfl (fun _ _ _ _ _ h => h) (by kernel_rfl) ?_
  try simp only [Act.put, pz0, pz1, pz2]
  refine PF.pf_take0 14 (by kernel_rfl) rfl (fun _ _ _ _ _ h => h) (by kernel_rfl) (fun u => by go_simp; try rfl) ?_
  try simp only [Act.put, pz0, pz1, pz2]
  refine PF.pf_done (by kernel_rfl) ?_
  go_wp2_with fail
  go_ret2
  exact ⟨EncPost.no HNO.out, HBB.out.drew⟩
set_option maxRecDepth 100000 in
set_option maxHeartbeats 16000000 in
theorem denc_high {w : World} {cs : Array Value} {P : Pk} (hP : PkV w cs P) (h1 : 1 ≤ P.n 0) (h : 6 < P.n 0) :
    Calls Tryd.prog 17 #[.agg cs] w fun e w' => EncPost w.heap.size P e w' ∧ Below w.heap.size w w' := by
  have hB1 : Blk (w.alloc (.cells cs 44)) w.heap.size 44 cs := Blk.new _ _ _
  have c0 := (hB1.cell 0).trans hP.kind.1
  have HBB := Lib.hid (below_new w (.cells cs 44))
  have HNO : Hid (¬ OkP P) := fun h' => by have := h'.2.1; omega
  have d0 : decide (P.n 0 < 1) = false := decide_eq_false (by omega)
  have d1 : decide (6 < P.n 0) = true := decide_eq_true h
  clear hB1 hP h h1
  go_enter Tryd.func17, Tryd.ntmps17
  go_wp2_with fail
  refine PF.pf_begin (by kernel_rfl) ?_
  refine PF.pf_take0 0 (by kernel_rfl) rfl (fun _ _ _ _ _ h => h) (by kernel_rfl) (fun u => by go_simp; try rfl) ?_
  try simp only [Act.put, pz0, pz1, pz2]
  refine PF.pf_take1 1 (PF.Same (w.heap.size) _) (by kernel_rfl) rfl (fun _ _ _ _ _ h => h) (by kernel_rfl) (PF.Same.refl _ _) (fun u hu => by have hcu := hu.cell; go_simp; try rfl) ?_
  try simp only [Act.put, pz0, pz1, pz2]
  refine PF.pf_take0 2 (by kernel_rfl) rfl (fun _ _ _ _ _ h => h) (by kernel_rfl) (fun u => by go_simp; try rfl) ?_
  try simp only [Act.put, pz0, pz1, pz2]
  refine PF.pf_take0 3 (by kernel_rfl) rfl (fun _ _ _ _ _ h => h) (by kernel_rfl) (fun u => by go_simp; try rfl) ?_
  try simp only [Act.put, pz0, pz1, pz2]
  refine PF.pf_take0 4 (by kernel_rfl) rfl (fun _ _ _ _ _ h => h) (by kernel_rfl) (fun u => by go_simp; try rfl) ?_
  try simp only [Act.put, pz0, pz1, pz2]
  refine PF.pf_take1 5 (PF.Same (w.heap.size) _) (by kernel_rfl) rfl (fun _ _ _ _ _ h => h) (by kernel_rfl) (PF.Same.refl _ _) (fun u hu => by have hcu := hu.cell; go_simp; try rfl) ?_
  try simp only [Act.put, pz0, pz1, pz2]
  refine PF.pf_take0 6 (by kernel_rfl) rfl (fun _ _ _ _ _ h => h) (by kernel_rfl) (fun u => by go_simp; try rfl) ?_
  try simp only [Act.put, pz0, pz1, pz2]
  refine PF.pf_take0 7 (by kernel_rfl) rfl (fun _ _ _ _ _ h => h) (by kernel_rfl) (fun u => by go_simp; try rfl) ?_
  try simp only [Act.put, pz0, pz1, pz2]
  refine PF.pf_take0 8 (by kernel_rfl) rfl (fun _ _ _ _ _ h => h) (by kernel_rfl) (fun u => by go_simp; try rfl) ?_
  try simp only [Act.put, pz0, pz1, pz2]
  refine PF.pf_skip0 9 (by kernel_rfl) rfl (fun _ _ _ _ _ h => h) (by kernel_rfl) ?_
  try simp only [Act.put, pz0, pz1, pz2]
  refine PF.pf_skip0 10 (by kernel_rfl) rfl (fun _ _ _ _ _ h => h) (by kernel_rfl) ?_
  try simp only [Act.put, pz0, pz1, pz2]
  refine PF.pf_skip 11 (by kernel_rfl) rfl (by kernel_rfl) ?_
  try simp only [Act.put, pz0, pz1, pz2]
  refine PF.pf_skip 12 (by kernel_rfl) rfl (by kernel_rfl) ?_
  try simp only [Act.put, pz0, pz1, pz2]
  refine PF.pf_skip0 13 (by kernel_rfl) rfl (fun _ _ _ _ _ h => h) (by kernel_rfl) ?_
  try simp only [Act.put, pz0, pz1, pz2]
  refine PF.pf_take0 14 (by kernel_rfl) rfl (fun _ _ _ _ _ h => h) (by kernel_rfl) (fun u => by go_simp; try rfl) ?_
  try simp only [Act.put, pz0, pz1, pz2]
  refine PF.pf_done (by kernel_rfl) ?_
  go_wp2_with fail
  go_ret2
  exact ⟨EncPost.no HNO.out, HBB.out.drew⟩
set_option maxRecDepth 100000 in
set_option maxHeartbeats 16000000 in
theorem denc_far {w : World} {cs : Array Value} {P : Pk} (hP : PkV w cs P) (h1 : 1 ≤ P.n 0) (h6 : P.n 0 ≤ 6) (he : ¬ PkEq P (alonePk P)) :
    Calls Tryd.prog 17 #[.agg cs] w fun e w' => EncPost w.heap.size P e w' ∧ Below w.heap.size w w' := by
  have hB1 : Blk (w.alloc (.cells cs 44)) w.heap.size 44 cs := Blk.new _ _ _
  have c0 := (hB1.cell 0).trans hP.kind.1
  have HBB := Lib.hid (below_new w (.cells cs 44))
  have HB1 := Lib.hid hB1
  have HP1 := Lib.hid (hP.below HBB.out)
  have HZ := Lib.hid hP.size
  have HNO : Hid (¬ OkP P) := fun h' => he h'.2.2.2.symm
  have HK : Hid (1 ≤ P.n 0 ∧ P.n 0 ≤ 6) := ⟨h1, h6⟩
  have HE := Lib.hid he
  have d0 : decide (P.n 0 < 1) = false := decide_eq_false (by omega)
  have d1 : decide (6 < P.n 0) = false := decide_eq_false (by omega)
  clear hB1 hP h1 h6 he
  go_enter Tryd.func17, Tryd.ntmps17
  go_wp2_with fail
  refine PF.pf_begin (by kernel_rfl) ?_
  refine PF.pf_take0 0 (by kernel_rfl) rfl (fun _ _ _ _ _ h => h) (by kernel_rfl) (fun u => by go_simp; try rfl) ?_
  try simp only [Act.put, pz0, pz1, pz2]
  refine PF.pf_take1 1 (PF.Same (w.heap.size) _) (by kernel_rfl) rfl (fun _ _ _ _ _ h => h) (by kernel_rfl) (PF.Same.refl _ _) (fun u hu => by have hcu := hu.cell; go_simp; try rfl) ?_
  try simp only [Act.put, pz0, pz1, pz2]
  refine PF.pf_take0 2 (by kernel_rfl) rfl (fun _ _ _ _ _ h => h) (by kernel_rfl) (fun u => by go_simp; try rfl) ?_
  try simp only [Act.put, pz0, pz1, pz2]
  refine PF.pf_take0 3 (by kernel_rfl) rfl (fun _ _ _ _ _ h => h) (by kernel_rfl) (fun u => by go_simp; try rfl) ?_
  try simp only [Act.put, pz0, pz1, pz2]
  refine PF.pf_take0 4 (by kernel_rfl) rfl (fun _ _ _ _ _ h => h) (by kernel_rfl) (fun u => by go_simp; try rfl) ?_
  try simp only [Act.put, pz0, pz1, pz2]
  refine PF.pf_take1 5 (PF.Same (w.heap.size) _) (by kernel_rfl) rfl (fun _ _ _ _ _ h => h) (by kernel_rfl) (PF.Same.refl _ _) (fun u hu => by have hcu := hu.cell; go_simp; try rfl) ?_
  try simp only [Act.put, pz0, pz1, pz2]
  refine PF.pf_take0 6 (by kernel_rfl) rfl (fun _ _ _ _ _ h => h) (by kernel_rfl) (fun u => by go_simp; try rfl) ?_
  try simp only [Act.put, pz0, pz1, pz2]
  refine PF.pf_take0 7 (by kernel_rfl) rfl (fun _ _ _ _ _ h => h) (by kernel_rfl) (fun u => by go_simp; try rfl) ?_
  try simp only [Act.put, pz0, pz1, pz2]
  refine PF.pf_take0 8 (by kernel_rfl) rfl (fun _ _ _ _ _ h => h) (by kernel_rfl) (fun u => by go_simp; try rfl) ?_
  try simp only [Act.put, pz0, pz1, pz2]
  refine PF.pf_take1 9 (fun u => Blk u w.heap.size 44 cs) (by kernel_rfl) rfl (fun _ _ _ _ _ h => h) (by kernel_rfl) (HB1.out) (fun u hu => by (exact exec_load_blk rfl rfl hu Tryd.underlying44 rfl (pk_56 HZ.out))) ?_
  try simp only [Act.put, pz0, pz1, pz2]
  refine PF.pf_take1 10 (fun u => Blk u w.heap.size 44 cs) (by kernel_rfl) rfl (fun _ _ _ _ _ h => h) (by kernel_rfl) (HB1.out) (fun u hu => by (exact exec_load_blk rfl rfl hu Tryd.underlying44 rfl (pk_56 HZ.out))) ?_
  try simp only [Act.put, pz0, pz1, pz2]
  refine PF.pf_exec 11 (by kernel_rfl) rfl (by kernel_rfl) (fun K hK => ?_)
  go_simp
  refine (dalone_any (HP1.out.below ((Below.refl _ _).drew)) HK.out.1 HK.out.2).mono ?_
  rintro e w2 ⟨rfl, hb2⟩
  have HT2 := Lib.hid (((Below.refl _ _).drew).trans hb2)
  have HB2 := Lib.hid (HB1.out.below HT2.out HB1.out.lt)
  have HP2 := Lib.hid (HP1.out.below HT2.out)
  clear hb2
  refine hK _ _ (by repeat (first | exact PF.owes_nil | refine PF.owes_left ?_ | refine PF.owes_no (by decide +kernel) ?_ | refine PF.owes_yes (by exact HB2.out) ?_)) ?_
  clear hK K
  try simp only [Act.put, pz0, pz1, pz2]
  refine PF.pf_exec 12 (by kernel_rfl) rfl (by kernel_rfl) (fun K hK => ?_)
  go_simp
  refine (dsame_any HP2.out HP2.out.alone).mono ?_
  rintro e w3 ⟨rfl, hb3⟩
  rw [decide_eq_false HE.out]
  refine hK _ _ (by repeat (first | exact PF.owes_nil | refine PF.owes_left ?_ | refine PF.owes_no (by decide +kernel) ?_ | refine PF.owes_yes (by first | rfl | assumption | go_simp) ?_)) ?_
  clear hK K
  try simp only [Act.put, pz0, pz1, pz2]
  refine PF.pf_take0 13 (by kernel_rfl) rfl (fun _ _ _ _ _ h => h) (by kernel_rfl) (fun u => by go_simp; try rfl) ?_
  try simp only [Act.put, pz0, pz1, pz2]
  refine PF.pf_take0 14 (by kernel_rfl) rfl (fun _ _ _ _ _ h => h) (by kernel_rfl) (fun u => by go_simp; try rfl) ?_
  try simp only [Act.put, pz0, pz1, pz2]
  refine PF.pf_done (by kernel_rfl) ?_
  go_wp2_with fail
  go_ret2
  exact ⟨EncPost.no HNO.out, below_call HBB.out HBB.out.size (HT2.out.trans (hb3.mono HT2.out.size))⟩
end Go.Proofs.YtdckdjkkaangmaaDoor
