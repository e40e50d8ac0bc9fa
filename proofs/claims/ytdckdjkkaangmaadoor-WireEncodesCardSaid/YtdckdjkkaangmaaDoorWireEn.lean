/- The law WireEncodes, walked. -/
import Derived.Test.YtdckdjkkaangmaaDoorWireBk
import Derived.Test.YtdckdjkkaangmaaDoorWireY2
import Derived.Test.YtdckdjkkaangmaaDoorWireQ2
import Derived.Test.YtdckdjkkaangmaaDoorWireL2
import Derived.Test.YtdckdjkkaangmaaDoorWireF2
namespace Go.Proofs.YtdckdjkkaangmaaDoor
set_option linter.unusedVariables false
set_option linter.unusedSimpArgs false
set_option maxRecDepth 100000
open Go.RowKit

/-- The bytes that a packet has, or none; what is told of it. -/
def eB (P : Pk) : List UInt8 := if OkL P then Crc.sealed (enc P).1 else []
def eE (P : Pk) : Int := if OkL P then 0 else if OkP P then 7 else 1
theorem EncPost.one {B : Nat} {P : Pk} {e : Ending} {w' : World} (h : EncPost B P e w') : ∃ A c, e = .returned (.tuple #[.slice A (eB P).length c, .int .i64 (eE P)]) ∧ Bytes w' A (eB P) := by
  unfold EncPost at h
  unfold eB eE
  by_cases hl : OkL P
  · rw [if_pos hl] at h
    rw [if_pos hl, if_pos hl]
    obtain ⟨A, c, h1, h2⟩ := h
    exact ⟨A, c, h1, own_bytes h2⟩
  · rw [if_neg hl] at h
    rw [if_neg hl, if_neg hl]
    exact ⟨none, 0, h, Bytes.nil_ _ _⟩
theorem eE_ok (P : Pk) : decide (eE P = 0) = decide (OkL P) := by
  unfold eE
  by_cases hl : OkL P
  · rw [if_pos hl, decide_eq_true hl]
    rfl
  · rw [if_neg hl, decide_eq_false hl]
    split <;> rfl
theorem PkO.belowE {B : Nat} {w w' : World} {cs : Array Value} {P : Pk} (h : PkO B w cs P) (hb : Below w.heap.size w w') : PkO B w' cs P :=
  h.mod (Mod.below (S := fun _ => False) hb (Nat.le_refl _)) fun _ _ _ h => h
set_option maxRecDepth 100000 in
set_option maxHeartbeats 16000000 in
theorem en_longa {w : World} {ca cb : Array Value} {Pa Pb : Pk} (ha : PkA w ca Pa) (hb : PkA w cb Pb) (h1 : 40000 < lenP Pa) :
    Calls Tryd.prog 6 #[.agg ca, .agg cb] w fun e w' => e = .returned (.bool true) ∧ Below w.heap.size w w' := by
  have hB1 : Blk ((w.alloc (.cells ca 44)).alloc (.cells cb 44)) w.heap.size 44 ca := (Blk.new _ _ _).alloc _
  have hB2 : Blk ((w.alloc (.cells ca 44)).alloc (.cells cb 44)) (w.heap.size + 1) 44 cb := by simpa using Blk.new (w.alloc (.cells ca 44)) 44 cb
  have hbt : Below w.heap.size w ((w.alloc (.cells ca 44)).alloc (.cells cb 44)) := (below_new w _).alloc (by simp) _
  have HZA := Lib.hid ha.size
  have HZB := Lib.hid hb.size
  have HLA := Lib.hid ha.long
  have HLB := Lib.hid hb.long
  have HBa0 := Lib.hid hB1
  have HBb0 := Lib.hid hB2
  have HT0 := Lib.hid hbt
  have hd : decide (40000 < lenP Pa) = true := decide_eq_true h1
  rw [hd] at HLA
  clear hd h1 ha hb
  clear hB1 hB2 hbt
  go_enter Tryd.func6, Tryd.ntmps6
  go_wp2_with (refine wpList_load_blk rfl (ty := 44) rfl rfl HBa0.out Tryd.underlying44 rfl (pk_56 HZA.out) ?_; refine Hid.out ?_)
  refine Lib.hid ?_
  generalize ((w.alloc (.cells ca 44)).alloc (.cells cb 44)) = w0 at *
  go_wp2_with fail
  refine (HLA.out w0).mono ?_
  rintro e w1 ⟨rfl, hb1⟩
  have HBa1 := Lib.hid (HBa0.out.below hb1 HBa0.out.lt)
  have HBb1 := Lib.hid (HBb0.out.below hb1 HBb0.out.lt)
  have HT1 := Lib.hid (below_call HT0.out HT0.out.size hb1)
  clear HBa0 HBb0 HT0
  clear hb1
  go_wp2_with fail
  refine (awake_any w1).mono ?_
  rintro e w' ⟨rfl, hb'⟩
  have HBa2 := Lib.hid (HBa1.out.below hb' HBa1.out.lt)
  have HBb2 := Lib.hid (HBb1.out.below hb' HBb1.out.lt)
  have HT2 := Lib.hid (below_call HT1.out HT1.out.size hb')
  clear HBa1 HBb1 HT1
  go_wp2_with fail
  go_ret
  exact ⟨rfl, HT2.out⟩
set_option maxRecDepth 100000 in
set_option maxHeartbeats 16000000 in
theorem en_longb {w : World} {ca cb : Array Value} {Pa Pb : Pk} (ha : PkA w ca Pa) (hb : PkA w cb Pb) (h1 : ¬ 40000 < lenP Pa) (h2 : 40000 < lenP Pb) :
    Calls Tryd.prog 6 #[.agg ca, .agg cb] w fun e w' => e = .returned (.bool true) ∧ Below w.heap.size w w' := by
  have hB1 : Blk ((w.alloc (.cells ca 44)).alloc (.cells cb 44)) w.heap.size 44 ca := (Blk.new _ _ _).alloc _
  have hB2 : Blk ((w.alloc (.cells ca 44)).alloc (.cells cb 44)) (w.heap.size + 1) 44 cb := by simpa using Blk.new (w.alloc (.cells ca 44)) 44 cb
  have hbt : Below w.heap.size w ((w.alloc (.cells ca 44)).alloc (.cells cb 44)) := (below_new w _).alloc (by simp) _
  have HZA := Lib.hid ha.size
  have HZB := Lib.hid hb.size
  have HLA := Lib.hid ha.long
  have HLB := Lib.hid hb.long
  have HBa0 := Lib.hid hB1
  have HBb0 := Lib.hid hB2
  have HT0 := Lib.hid hbt
  have hd : decide (40000 < lenP Pa) = false := decide_eq_false h1
  rw [hd] at HLA
  have hd2 : decide (40000 < lenP Pb) = true := decide_eq_true h2
  rw [hd2] at HLB
  clear hd hd2 h1 h2 ha hb
  clear hB1 hB2 hbt
  go_enter Tryd.func6, Tryd.ntmps6
  go_wp2_with (refine wpList_load_blk rfl (ty := 44) rfl rfl HBa0.out Tryd.underlying44 rfl (pk_56 HZA.out) ?_; refine Hid.out ?_)
  refine Lib.hid ?_
  generalize ((w.alloc (.cells ca 44)).alloc (.cells cb 44)) = w0 at *
  go_wp2_with fail
  refine (HLA.out w0).mono ?_
  rintro e w1 ⟨rfl, hb1⟩
  have HBa1 := Lib.hid (HBa0.out.below hb1 HBa0.out.lt)
  have HBb1 := Lib.hid (HBb0.out.below hb1 HBb0.out.lt)
  have HT1 := Lib.hid (below_call HT0.out HT0.out.size hb1)
  clear HBa0 HBb0 HT0
  clear hb1
  go_wp2_with (refine wpList_load_blkG (by kernel_rfl) (ty := 44) rfl rfl HBb1.out Tryd.underlying44 rfl (pk_56 HZB.out) ?_; refine Hid.out ?_)
  refine Lib.hid ?_
  go_wp2_with fail
  refine (HLB.out w1).mono ?_
  rintro e w2 ⟨rfl, hb2⟩
  have HBa2 := Lib.hid (HBa1.out.below hb2 HBa1.out.lt)
  have HBb2 := Lib.hid (HBb1.out.below hb2 HBb1.out.lt)
  have HT2 := Lib.hid (below_call HT1.out HT1.out.size hb2)
  clear HBa1 HBb1 HT1
  clear hb2
  go_wp2_with fail
  refine (awake_any w2).mono ?_
  rintro e w' ⟨rfl, hb'⟩
  have HBa3 := Lib.hid (HBa2.out.below hb' HBa2.out.lt)
  have HBb3 := Lib.hid (HBb2.out.below hb' HBb2.out.lt)
  have HT3 := Lib.hid (below_call HT2.out HT2.out.size hb')
  clear HBa2 HBb2 HT2
  go_wp2_with fail
  go_ret
  exact ⟨rfl, HT3.out⟩
set_option maxRecDepth 100000 in
set_option maxHeartbeats 16000000 in
theorem en_go {w : World} {ca cb : Array Value} {Pa Pb : Pk} (ha : PkA w ca Pa) (hb : PkA w cb Pb) (h1 : ¬ 40000 < lenP Pa) (h2 : ¬ 40000 < lenP Pb) :
    Calls Tryd.prog 6 #[.agg ca, .agg cb] w fun e w' => e = .returned (.bool true) ∧ Below w.heap.size w w' := by
  have hB1 : Blk ((w.alloc (.cells ca 44)).alloc (.cells cb 44)) w.heap.size 44 ca := (Blk.new _ _ _).alloc _
  have hB2 : Blk ((w.alloc (.cells ca 44)).alloc (.cells cb 44)) (w.heap.size + 1) 44 cb := by simpa using Blk.new (w.alloc (.cells ca 44)) 44 cb
  have hbt : Below w.heap.size w ((w.alloc (.cells ca 44)).alloc (.cells cb 44)) := (below_new w _).alloc (by simp) _
  have HZA := Lib.hid ha.size
  have HZB := Lib.hid hb.size
  have HLA := Lib.hid ha.long
  have HLB := Lib.hid hb.long
  have HBa0 := Lib.hid hB1
  have HBb0 := Lib.hid hB2
  have HT0 := Lib.hid hbt
  have hVA : PkV w ca Pa := ha.pkv (by unfold lenP at h1; omega)
  have hVB : PkV w cb Pb := hb.pkv (by unfold lenP at h2; omega)
  have HVa0 := Lib.hid (hVA.below HT0.out)
  have HVb0 := Lib.hid (hVB.below HT0.out)
  have hd : decide (40000 < lenP Pa) = false := decide_eq_false h1
  rw [hd] at HLA
  have hd2 : decide (40000 < lenP Pb) = false := decide_eq_false h2
  rw [hd2] at HLB
  clear hd hd2 h1 h2 ha hb hVA hVB
  clear hB1 hB2 hbt
  go_enter Tryd.func6, Tryd.ntmps6
  go_wp2_with (refine wpList_load_blk rfl (ty := 44) rfl rfl HBa0.out Tryd.underlying44 rfl (pk_56 HZA.out) ?_; refine Hid.out ?_)
  refine Lib.hid ?_
  generalize ((w.alloc (.cells ca 44)).alloc (.cells cb 44)) = w0 at *
  go_wp2_with fail
  refine (HLA.out w0).mono ?_
  rintro e w1 ⟨rfl, hb1⟩
  have HBa1 := Lib.hid (HBa0.out.below hb1 HBa0.out.lt)
  have HBb1 := Lib.hid (HBb0.out.below hb1 HBb0.out.lt)
  have HT1 := Lib.hid (below_call HT0.out HT0.out.size hb1)
  have HVa1 := Lib.hid (HVa0.out.below hb1)
  have HVb1 := Lib.hid (HVb0.out.below hb1)
  clear HBa0 HBb0 HT0 HVa0 HVb0
  clear hb1
  go_wp2_with (refine wpList_load_blkG (by kernel_rfl) (ty := 44) rfl rfl HBb1.out Tryd.underlying44 rfl (pk_56 HZB.out) ?_; refine Hid.out ?_)
  refine Lib.hid ?_
  go_wp2_with fail
  refine (HLB.out w1).mono ?_
  rintro e w2 ⟨rfl, hb2⟩
  have HBa2 := Lib.hid (HBa1.out.below hb2 HBa1.out.lt)
  have HBb2 := Lib.hid (HBb1.out.below hb2 HBb1.out.lt)
  have HT2 := Lib.hid (below_call HT1.out HT1.out.size hb2)
  have HVa2 := Lib.hid (HVa1.out.below hb2)
  have HVb2 := Lib.hid (HVb1.out.below hb2)
  clear HBa1 HBb1 HT1 HVa1 HVb1
  clear hb2 HLA HLB
  go_wp2_with (refine wpList_load_blk rfl (ty := 44) rfl rfl HBa2.out Tryd.underlying44 rfl (pk_56 HZA.out) ?_; refine Hid.out ?_)
  refine Lib.hid ?_
  go_wp2_with fail
  refine (rown_any HVa2.out).mono ?_
  rintro e w3 ⟨⟨cw, rfl, hvw⟩, hb3⟩
  have HZW := Lib.hid hvw.size
  have HVw3 := Lib.hid hvw
  have HBa3 := Lib.hid (HBa2.out.below hb3 HBa2.out.lt)
  have HBb3 := Lib.hid (HBb2.out.below hb3 HBb2.out.lt)
  have HT3 := Lib.hid (below_call HT2.out HT2.out.size hb3)
  have HVa3 := Lib.hid (HVa2.out.below hb3)
  have HVb3 := Lib.hid (HVb2.out.below hb3)
  clear HBa2 HBb2 HT2 HVa2 HVb2
  clear hb3 hvw
  go_wp2_with (refine wpList_alloc_blk rfl rfl zero_pk ?_; rintro gw wz hgw hBz hbz; refine Hid.out ?_)
  refine Lib.hid ?_
  go_wp2_with (refine wpList_store_blk rfl rfl rfl rfl hBz (by rw [HZW.out]; rfl) (pk_56 HZW.out) HVw3.out.one ?_; rintro w4 hBw hmw; refine Hid.out ?_)
  refine Lib.hid ?_
  have hb4 : Below w3.heap.size w3 w4 := hbz.trans (hmw.to_below hbz.size fun b hb e => by omega)
  have HBw4 := Lib.hid hBw
  have HBa4 := Lib.hid (HBa3.out.below hb4 HBa3.out.lt)
  have HBb4 := Lib.hid (HBb3.out.below hb4 HBb3.out.lt)
  have HT4 := Lib.hid (below_call HT3.out HT3.out.size hb4)
  have HVa4 := Lib.hid (HVa3.out.below hb4)
  have HVb4 := Lib.hid (HVb3.out.below hb4)
  have HVw4 := Lib.hid (HVw3.out.below hb4)
  clear HBa3 HBb3 HT3 HVa3 HVb3 HVw3
  clear hb4 hBz hbz hBw hmw hgw
  go_wp2_with (refine wpList_load_blk rfl (ty := 44) rfl rfl HBa4.out Tryd.underlying44 rfl (pk_56 HZA.out) ?_; refine Hid.out ?_)
  refine Lib.hid ?_
  go_wp2_with fail
  refine (encode_any HVa4.out).mono ?_
  rintro e w5 ⟨he, hb5⟩
  obtain ⟨A, cA, rfl, hx⟩ := he.one
  have HX5 := Lib.hid hx
  have HBa5 := Lib.hid (HBa4.out.below hb5 HBa4.out.lt)
  have HBb5 := Lib.hid (HBb4.out.below hb5 HBb4.out.lt)
  have HT5 := Lib.hid (below_call HT4.out HT4.out.size hb5)
  have HVa5 := Lib.hid (HVa4.out.below hb5)
  have HVb5 := Lib.hid (HVb4.out.below hb5)
  have HVw5 := Lib.hid (HVw4.out.below hb5)
  have HBw5 := Lib.hid (HBw4.out.below hb5 HBw4.out.lt)
  clear HBa4 HBb4 HT4 HVa4 HVb4 HVw4 HBw4
  clear hb5 he hx
  go_wp2_with (refine wpList_load_blk rfl (ty := 44) rfl rfl HBw5.out Tryd.underlying44 rfl (pk_56 HZW.out) ?_; refine Hid.out ?_)
  refine Lib.hid ?_
  go_wp2_with fail
  refine (drenc_any HVw5.out).mono ?_
  rintro e w6 ⟨he, hb6⟩
  obtain ⟨B, cB, rfl, hy⟩ := he.one
  have HY6 := Lib.hid hy
  have HBa6 := Lib.hid (HBa5.out.below hb6 HBa5.out.lt)
  have HBb6 := Lib.hid (HBb5.out.below hb6 HBb5.out.lt)
  have HT6 := Lib.hid (below_call HT5.out HT5.out.size hb6)
  have HVa6 := Lib.hid (HVa5.out.below hb6)
  have HVb6 := Lib.hid (HVb5.out.below hb6)
  have HVw6 := Lib.hid (HVw5.out.below hb6)
  have HBw6 := Lib.hid (HBw5.out.below hb6 HBw5.out.lt)
  have HX6 := Lib.hid (HX5.out.below hb6)
  clear HBa5 HBb5 HT5 HVa5 HVb5 HVw5 HBw5 HX5
  clear hb6 he hy
  have hk0 := eE_ok Pa
  have HKB : ∃ b, decide (OkL Pa) = b := ⟨_, rfl⟩
  obtain ⟨b, HKB⟩ := HKB
  rw [HKB] at hk0
  have HKB := Lib.hid HKB
  generalize eE Pa = k at *
  have hk1 : (k == 0) = b := by rw [← hk0]; rfl
  generalize eB Pa = X at *
  have hnb : (k != k) = false := by simp
  have hnc : decide (k = k) = true := by simp
  have HPP := Lib.hid (PkEq.refl Pa)
  go_wp2_with fail
  refine PF.pf_begin (by kernel_rfl) ?_
  refine PF.pf_take0 0 (by kernel_rfl) rfl (fun _ _ _ _ _ h => h) (by kernel_rfl) (fun u => by go_simp; try rfl) ?_
  try simp only [Act.put, pz0, pz1, pz2]
  refine PF.pf_take0 1 (by kernel_rfl) rfl (fun _ _ _ _ _ h => h) (by kernel_rfl) (fun u => by go_simp; try rfl) ?_
  try simp only [Act.put, pz0, pz1, pz2]
  refine PF.pf_take0 2 (by kernel_rfl) rfl (fun _ _ _ _ _ h => h) (by kernel_rfl) (fun u => by go_simp; try rfl) ?_
  try simp only [Act.put, pz0, pz1, pz2]
  refine PF.pf_take0 3 (by kernel_rfl) rfl (fun _ _ _ _ _ h => h) (by kernel_rfl) (fun u => by go_simp; try rfl) ?_
  try simp only [Act.put, pz0, pz1, pz2]
  refine PF.pf_take0 4 (by kernel_rfl) rfl (fun _ _ _ _ _ h => h) (by kernel_rfl) (fun u => by go_simp; try rfl) ?_
  try simp only [Act.put, pz0, pz1, pz2]
  refine PF.pf_take1 5 (fun u => Bytes u A X) (by kernel_rfl) rfl (fun _ _ _ _ _ h => h) (by kernel_rfl) (HX6.out) (fun u hu => by (have hcv := conv_str (P := Tryd.prog) (w := u) (n := X.length) (c := cA) Tryd.underlying22 Tryd.underlying5 Tryd.underlying9 hu rfl; go_simp; rfl)) ?_
  try simp only [Act.put, pz0, pz1, pz2]
  refine PF.pf_take0 6 (by kernel_rfl) rfl (fun _ _ _ _ _ h => h) (by kernel_rfl) (fun u => by go_simp; try rfl) ?_
  try simp only [Act.put, pz0, pz1, pz2]
  refine PF.pf_take1 7 (fun u => Bytes u B X) (by kernel_rfl) rfl (fun _ _ _ _ _ h => h) (by kernel_rfl) (HY6.out) (fun u hu => by (have hcv := conv_str (P := Tryd.prog) (w := u) (n := X.length) (c := cB) Tryd.underlying22 Tryd.underlying5 Tryd.underlying9 hu rfl; go_simp; rfl)) ?_
  try simp only [Act.put, pz0, pz1, pz2]
  refine PF.pf_take0 8 (by kernel_rfl) rfl (fun _ _ _ _ _ h => h) (by kernel_rfl) (fun u => by go_simp; try rfl) ?_
  try simp only [Act.put, pz0, pz1, pz2]
  refine PF.pf_take0 9 (by kernel_rfl) rfl (fun _ _ _ _ _ h => h) (by kernel_rfl) (fun u => by go_simp; try rfl) ?_
  try simp only [Act.put, pz0, pz1, pz2]
  refine PF.pf_take0 10 (by kernel_rfl) rfl (fun _ _ _ _ _ h => h) (by kernel_rfl) (fun u => by go_simp; try rfl) ?_
  try simp only [Act.put, pz0, pz1, pz2]
  refine PF.pf_take1 11 (fun u => Blk u w.heap.size 44 ca) (by kernel_rfl) rfl (fun _ _ _ _ _ h => h) (by kernel_rfl) (HBa6.out) (fun u hu => by (exact exec_load_blk rfl rfl hu Tryd.underlying44 rfl (pk_56 HZA.out))) ?_
  try simp only [Act.put, pz0, pz1, pz2]
  refine PF.pf_take0 13 (by kernel_rfl) rfl (fun _ _ _ _ _ h => h) (by kernel_rfl) (fun u => by go_simp; try rfl) ?_
  try simp only [Act.put, pz0, pz1, pz2]
  refine PF.pf_take0 14 (by kernel_rfl) rfl (fun _ _ _ _ _ h => h) (by kernel_rfl) (fun u => by go_simp; try rfl) ?_
  try simp only [Act.put, pz0, pz1, pz2]
  refine PF.pf_exec 12 (by kernel_rfl) rfl (by kernel_rfl) (fun K hK => ?_)
  go_simp
  refine (may_any (HVa6.out.below ((Below.refl _ _).drew))).mono ?_
  rintro e w7 ⟨rfl, hb7⟩
  have hbx : Below w6.heap.size w6 w7 := ((Below.refl _ _).drew).trans hb7
  have HBa7 := Lib.hid (HBa6.out.below hbx HBa6.out.lt)
  have HBb7 := Lib.hid (HBb6.out.below hbx HBb6.out.lt)
  have HT7 := Lib.hid (below_call HT6.out HT6.out.size hbx)
  have HVa7 := Lib.hid (HVa6.out.below hbx)
  have HVb7 := Lib.hid (HVb6.out.below hbx)
  have HVw7 := Lib.hid (HVw6.out.below hbx)
  have HBw7 := Lib.hid (HBw6.out.below hbx HBw6.out.lt)
  have HX7 := Lib.hid (HX6.out.below hbx)
  clear HBa6 HBb6 HT6 HVa6 HVb6 HVw6 HBw6 HX6
  rw [HKB.out]
  clear hb7 hbx
  refine hK _ _ (by repeat (first | exact PF.owes_nil | refine PF.owes_left ?_ | refine PF.owes_no (by decide +kernel) ?_ | refine PF.owes_yes (by first | rfl | assumption | go_simp) ?_)) ?_
  clear hK K
  try simp only [Act.put, pz0, pz1, pz2]
  refine PF.pf_take0 15 (by kernel_rfl) rfl (fun _ _ _ _ _ h => h) (by kernel_rfl) (fun u => by go_simp; try rfl) ?_
  try simp only [Act.put, pz0, pz1, pz2]
  refine PF.pf_take0 16 (by kernel_rfl) rfl (fun _ _ _ _ _ h => h) (by kernel_rfl) (fun u => by go_simp; try rfl) ?_
  try simp only [Act.put, pz0, pz1, pz2]
  refine PF.pf_take0 17 (by kernel_rfl) rfl (fun _ _ _ _ _ h => h) (by kernel_rfl) (fun u => by go_simp; try rfl) ?_
  try simp only [Act.put, pz0, pz1, pz2]
  refine PF.pf_take1 18 (fun u => Blk u w.heap.size 44 ca) (by kernel_rfl) rfl (fun _ _ _ _ _ h => h) (by kernel_rfl) (HBa7.out) (fun u hu => by (exact exec_load_blk rfl rfl hu Tryd.underlying44 rfl (pk_56 HZA.out))) ?_
  try simp only [Act.put, pz0, pz1, pz2]
  refine PF.pf_take1 19 (fun u => Blk u (w.heap.size + 1) 44 cb) (by kernel_rfl) rfl (fun _ _ _ _ _ h => h) (by kernel_rfl) (HBb7.out) (fun u hu => by (exact exec_load_blk rfl rfl hu Tryd.underlying44 rfl (pk_56 HZB.out))) ?_
  try simp only [Act.put, pz0, pz1, pz2]
  refine PF.pf_take1 21 (fun u => Blk u w.heap.size 44 ca) (by kernel_rfl) rfl (fun _ _ _ _ _ h => h) (by kernel_rfl) (HBa7.out) (fun u hu => by (exact exec_load_blk rfl rfl hu Tryd.underlying44 rfl (pk_56 HZA.out))) ?_
  try simp only [Act.put, pz0, pz1, pz2]
  refine PF.pf_take1 22 (fun u => Blk u (w.heap.size + 1) 44 cb) (by kernel_rfl) rfl (fun _ _ _ _ _ h => h) (by kernel_rfl) (HBb7.out) (fun u hu => by (exact exec_load_blk rfl rfl hu Tryd.underlying44 rfl (pk_56 HZB.out))) ?_
  try simp only [Act.put, pz0, pz1, pz2]
  refine PF.pf_exec 20 (by kernel_rfl) rfl (by kernel_rfl) (fun K hK => ?_)
  go_simp
  refine (same_any HVa7.out HVb7.out).mono ?_
  rintro e w8 ⟨rfl, hb8⟩
  have HBa8 := Lib.hid (HBa7.out.below hb8 HBa7.out.lt)
  have HBb8 := Lib.hid (HBb7.out.below hb8 HBb7.out.lt)
  have HT8 := Lib.hid (below_call HT7.out HT7.out.size hb8)
  have HVa8 := Lib.hid (HVa7.out.below hb8)
  have HVb8 := Lib.hid (HVb7.out.below hb8)
  have HVw8 := Lib.hid (HVw7.out.below hb8)
  have HBw8 := Lib.hid (HBw7.out.below hb8 HBw7.out.lt)
  have HX8 := Lib.hid (HX7.out.below hb8)
  clear HBa7 HBb7 HT7 HVa7 HVb7 HVw7 HBw7 HX7
  clear hb8
  refine hK _ _ (by repeat (first | exact PF.owes_nil | refine PF.owes_left ?_ | refine PF.owes_no (by decide +kernel) ?_ | refine PF.owes_yes (by first | exact HBa8.out | exact HBb8.out) ?_)) ?_
  clear hK K
  try simp only [Act.put, pz0, pz1, pz2]
  refine PF.pf_exec 23 (by kernel_rfl) rfl (by kernel_rfl) (fun K hK => ?_)
  go_simp
  refine (dsame_any HVa8.out HVb8.out).mono ?_
  rintro e w9 ⟨rfl, hb9⟩
  have HBa9 := Lib.hid (HBa8.out.below hb9 HBa8.out.lt)
  have HBb9 := Lib.hid (HBb8.out.below hb9 HBb8.out.lt)
  have HT9 := Lib.hid (below_call HT8.out HT8.out.size hb9)
  have HVa9 := Lib.hid (HVa8.out.below hb9)
  have HVb9 := Lib.hid (HVb8.out.below hb9)
  have HVw9 := Lib.hid (HVw8.out.below hb9)
  have HBw9 := Lib.hid (HBw8.out.below hb9 HBw8.out.lt)
  have HX9 := Lib.hid (HX8.out.below hb9)
  clear HBa8 HBb8 HT8 HVa8 HVb8 HVw8 HBw8 HX8
  clear hb9
  refine hK _ _ (by repeat (first | exact PF.owes_nil | refine PF.owes_left ?_ | refine PF.owes_no (by decide +kernel) ?_ | refine PF.owes_yes (by first | rfl | assumption | go_simp) ?_)) ?_
  clear hK K
  try simp only [Act.put, pz0, pz1, pz2]
  refine PF.pf_take0 24 (by kernel_rfl) rfl (fun _ _ _ _ _ h => h) (by kernel_rfl) (fun u => by go_simp; try rfl) ?_
  try simp only [Act.put, pz0, pz1, pz2]
  refine PF.pf_take0 25 (by kernel_rfl) rfl (fun _ _ _ _ _ h => h) (by kernel_rfl) (fun u => by go_simp; try rfl) ?_
  try simp only [Act.put, pz0, pz1, pz2]
  refine PF.pf_take0 26 (by kernel_rfl) rfl (fun _ _ _ _ _ h => h) (by kernel_rfl) (fun u => by go_simp; try rfl) ?_
  try simp only [Act.put, pz0, pz1, pz2]
  refine PF.pf_take1 27 (fun u => Blk u w.heap.size 44 ca) (by kernel_rfl) rfl (fun _ _ _ _ _ h => h) (by kernel_rfl) (HBa9.out) (fun u hu => by (exact exec_load_blk rfl rfl hu Tryd.underlying44 rfl (pk_56 HZA.out))) ?_
  try simp only [Act.put, pz0, pz1, pz2]
  refine PF.pf_take1 28 (fun u => Blk u w.heap.size 44 ca) (by kernel_rfl) rfl (fun _ _ _ _ _ h => h) (by kernel_rfl) (HBa9.out) (fun u hu => by (exact exec_load_blk rfl rfl hu Tryd.underlying44 rfl (pk_56 HZA.out))) ?_
  try simp only [Act.put, pz0, pz1, pz2]
  refine PF.pf_exec 29 (by kernel_rfl) rfl (by kernel_rfl) (fun K hK => ?_)
  go_simp
  refine (same_any HVa9.out HVa9.out).mono ?_
  rintro e w10 ⟨rfl, hb10⟩
  rw [decide_eq_true HPP.out]
  have HBa10 := Lib.hid (HBa9.out.below hb10 HBa9.out.lt)
  have HBb10 := Lib.hid (HBb9.out.below hb10 HBb9.out.lt)
  have HT10 := Lib.hid (below_call HT9.out HT9.out.size hb10)
  have HVa10 := Lib.hid (HVa9.out.below hb10)
  have HVb10 := Lib.hid (HVb9.out.below hb10)
  have HVw10 := Lib.hid (HVw9.out.below hb10)
  have HBw10 := Lib.hid (HBw9.out.below hb10 HBw9.out.lt)
  have HX10 := Lib.hid (HX9.out.below hb10)
  clear HBa9 HBb9 HT9 HVa9 HVb9 HVw9 HBw9 HX9
  clear hb10
  refine hK _ _ (by repeat (first | exact PF.owes_nil | refine PF.owes_left ?_ | refine PF.owes_no (by decide +kernel) ?_ | refine PF.owes_yes (by first | rfl | assumption | go_simp) ?_)) ?_
  clear hK K
  try simp only [Act.put, pz0, pz1, pz2]
  refine PF.pf_take0 30 (by kernel_rfl) rfl (fun _ _ _ _ _ h => h) (by kernel_rfl) (fun u => by go_simp; try rfl) ?_
  try simp only [Act.put, pz0, pz1, pz2]
  refine PF.pf_take0 31 (by kernel_rfl) rfl (fun _ _ _ _ _ h => h) (by kernel_rfl) (fun u => by go_simp; try rfl) ?_
  try simp only [Act.put, pz0, pz1, pz2]
  refine PF.pf_done (by kernel_rfl) ?_
  clear hk0 hk1 hnb hnc
  go_wp2_with (refine wpList_load_blk rfl (ty := 44) rfl rfl HBa10.out Tryd.underlying44 rfl (pk_56 HZA.out) ?_; refine Hid.out ?_)
  refine Lib.hid ?_
  go_wp2_with fail
  refine (own_any HVa10.out).mono ?_
  rintro e w11 ⟨⟨co, rfl, ho⟩, hb11⟩
  have HZO := Lib.hid ho.pk.size
  have HQ11 := Lib.hid ho
  have HO11 := Lib.hid hb11
  have HVS := Lib.hid HVa10.out
  have HBS := Lib.hid HBa10.out
  have HBSW := Lib.hid HBw10.out
  have HTS := Lib.hid HT10.out
  have HVSW := Lib.hid HVw10.out
  have HBa11 := Lib.hid (HBa10.out.below hb11 HBa10.out.lt)
  have HBb11 := Lib.hid (HBb10.out.below hb11 HBb10.out.lt)
  have HT11 := Lib.hid (below_call HT10.out HT10.out.size hb11)
  have HVa11 := Lib.hid (HVa10.out.below hb11)
  have HVb11 := Lib.hid (HVb10.out.below hb11)
  have HVw11 := Lib.hid (HVw10.out.below hb11)
  have HBw11 := Lib.hid (HBw10.out.below hb11 HBw10.out.lt)
  have HX11 := Lib.hid (HX10.out.below hb11)
  clear HBa10 HBb10 HT10 HVa10 HVb10 HVw10 HBw10 HX10
  clear hb11 ho
  go_wp2_with (refine wpList_alloc_blk rfl rfl zero_pk ?_; rintro go wz hgo hBz hbz; refine Hid.out ?_)
  refine Lib.hid ?_
  go_wp2_with (refine wpList_store_blk rfl rfl rfl rfl hBz (by rw [HZO.out]; rfl) (pk_56 HZO.out) HQ11.out.pk.one ?_; rintro w12 hBo hmo; refine Hid.out ?_)
  refine Lib.hid ?_
  have hb12 : Below w11.heap.size w11 w12 := hbz.trans (hmo.to_below hbz.size fun b hb e => by omega)
  have HQ12 := Lib.hid (HQ11.out.belowE hb12)
  have HO12 := Lib.hid (below_call HO11.out HO11.out.size hb12)
  have HBo12 := Lib.hid hBo
  have HBa12 := Lib.hid (HBa11.out.below hb12 HBa11.out.lt)
  have HBb12 := Lib.hid (HBb11.out.below hb12 HBb11.out.lt)
  have HT12 := Lib.hid (below_call HT11.out HT11.out.size hb12)
  have HVa12 := Lib.hid (HVa11.out.below hb12)
  have HVb12 := Lib.hid (HVb11.out.below hb12)
  have HVw12 := Lib.hid (HVw11.out.below hb12)
  have HBw12 := Lib.hid (HBw11.out.below hb12 HBw11.out.lt)
  have HX12 := Lib.hid (HX11.out.below hb12)
  clear HBa11 HBb11 HT11 HVa11 HVb11 HVw11 HBw11 HX11
  clear hb12 hBz hbz hBo hmo hgo HQ11 HO11
  go_wp2_with (refine wpList_load_blk rfl (ty := 44) rfl rfl HBo12.out Tryd.underlying44 rfl (pk_56 HZO.out) ?_; refine Hid.out ?_)
  refine Lib.hid ?_
  go_wp2_with (refine wpList_load_blk rfl (ty := 44) rfl rfl HBw12.out Tryd.underlying44 rfl (pk_56 HZW.out) ?_; refine Hid.out ?_)
  refine Lib.hid ?_
  go_wp2_with fail
  refine (dsame_any HQ12.out.pk HVw12.out).mono ?_
  rintro e w13 ⟨rfl, hb13⟩
  rw [decide_eq_true HPP.out]
  have HQ13 := Lib.hid (HQ12.out.belowE hb13)
  have HO13 := Lib.hid (below_call HO12.out HO12.out.size hb13)
  have HBo13 := Lib.hid (HBo12.out.below hb13 HBo12.out.lt)
  have HBa13 := Lib.hid (HBa12.out.below hb13 HBa12.out.lt)
  have HBb13 := Lib.hid (HBb12.out.below hb13 HBb12.out.lt)
  have HT13 := Lib.hid (below_call HT12.out HT12.out.size hb13)
  have HVa13 := Lib.hid (HVa12.out.below hb13)
  have HVb13 := Lib.hid (HVb12.out.below hb13)
  have HVw13 := Lib.hid (HVw12.out.below hb13)
  have HBw13 := Lib.hid (HBw12.out.below hb13 HBw12.out.lt)
  have HX13 := Lib.hid (HX12.out.below hb13)
  clear HBa12 HBb12 HT12 HVa12 HVb12 HVw12 HBw12 HX12
  clear hb13 HQ12 HO12 HBo12
  go_wp2_with (refine wpList_load_blk rfl (ty := 44) rfl rfl HBo13.out Tryd.underlying44 rfl (pk_56 HZO.out) ?_; refine Hid.out ?_)
  refine Lib.hid ?_
  go_wp2_with fail
  refine (spoil_any HQ13.out).mono ?_
  rintro e w14 ⟨rfl, hm14⟩
  have hb14 : Below w10.heap.size w13 w14 := hm14.to_below HO13.out.size fun b hb e => by omega
  have HO14 : Hid (Below w10.heap.size w10 w14) := HO13.out.trans hb14
  have HVa14 := Lib.hid (HVS.out.below HO14.out)
  have HVw14 := Lib.hid (HVSW.out.below HO14.out)
  have HBa14 := Lib.hid (HBS.out.below HO14.out HBS.out.lt)
  have HBw14 := Lib.hid (HBSW.out.below HO14.out HBSW.out.lt)
  have HT14 : Hid (Below w.heap.size w w14) := HT13.out.trans (hm14.to_below HT13.out.size fun b hb e => by have := HTS.out.size; omega)
  clear hm14 hb14 HO13 HQ13 HBo13 HBa13 HBb13 HT13 HVa13 HVb13 HVw13 HBw13 HX13
  go_wp2_with (refine wpList_load_blk rfl (ty := 44) rfl rfl HBa14.out Tryd.underlying44 rfl (pk_56 HZA.out) ?_; refine Hid.out ?_)
  refine Lib.hid ?_
  go_wp2_with (refine wpList_load_blk rfl (ty := 44) rfl rfl HBw14.out Tryd.underlying44 rfl (pk_56 HZW.out) ?_; refine Hid.out ?_)
  refine Lib.hid ?_
  go_wp2_with fail
  refine (dsame_any HVa14.out HVw14.out).mono ?_
  rintro e w15 ⟨rfl, hb15⟩
  rw [decide_eq_true HPP.out]
  have HT15 := Lib.hid (below_call HT14.out HT14.out.size hb15)
  clear hb15
  go_wp2_with fail
  refine (awake_any w15).mono ?_
  rintro e w16 ⟨rfl, hb16⟩
  have HT16 := Lib.hid (below_call HT15.out HT15.out.size hb16)
  clear hb16
  go_wp2_with fail
  go_ret
  exact ⟨rfl, HT16.out⟩
theorem WireEncodes.walk {w : World} (ca : Array Value) (Pa : Pk) (ha : PkA w ca Pa) (cb : Array Value) (Pb : Pk) (hb : PkA w cb Pb) :
    Calls Tryd.prog 6 #[.agg ca, .agg cb] w fun e w' => e = .returned (.bool true) ∧ Below w.heap.size w w' := by
  by_cases h1 : 40000 < lenP Pa
  · exact en_longa ha hb h1
  by_cases h2 : 40000 < lenP Pb
  · exact en_longb ha hb h1 h2
  exact en_go ha hb h1 h2
end Go.Proofs.YtdckdjkkaangmaaDoor
