/- The document's Encode. -/
import Derived.Test.YtdckdjkkaangmaaDoorWireX9
namespace Go.Proofs.YtdckdjkkaangmaaDoor
set_option linter.unusedVariables false
set_option linter.unusedSimpArgs false
set_option maxRecDepth 100000
open Go.RowKit

set_option maxRecDepth 100000 in
set_option maxHeartbeats 16000000 in
theorem denc_rest {w : World} {cs : Array Value} {P : Pk} (hP : PkV w cs P) (h1 : 1 ≤ P.n 0) (h6 : P.n 0 ≤ 6) (he : PkEq P (alonePk P)) :
    Calls Tryd.prog 17 #[.agg cs] w fun e w' => EncPost w.heap.size P e w' ∧ Below w.heap.size w w' := by
  have hB1 : Blk (w.alloc (.cells cs 44)) w.heap.size 44 cs := Blk.new _ _ _
  have c0 := (hB1.cell 0).trans hP.kind.1
  have HBB := Lib.hid (below_new w (.cells cs 44))
  have HB1 := Lib.hid hB1
  have HP1 := Lib.hid (hP.below HBB.out)
  have HZ := Lib.hid hP.size
  have HP0 := Lib.hid hP
  have HN := Lib.hid hP.pkn
  have HKI := Lib.hid hP.kind.1
  have HK : Hid (1 ≤ P.n 0 ∧ P.n 0 ≤ 6) := ⟨h1, h6⟩
  have HE := Lib.hid he
  have d0 : decide (P.n 0 < 1) = false := decide_eq_false (by omega)
  have d1 : decide (6 < P.n 0) = false := decide_eq_false (by omega)
  have HTL : Hid ((P.t (txtO (P.n 0))).length ≤ 1000000) := by
    obtain ⟨_, _, _, _, _, _, h⟩ := hP.txts _ (txt_mem h1 h6).2.1
    exact h
  have HKL : Hid ((kK P).length ≤ 1000000 ∧ ∀ x ∈ kK P, x < 18446744073709551616) := by
    obtain ⟨_, _, _, _, _, _, h⟩ := hP.keep
    have h' := hP.keeps
    unfold kK
    split
    · exact ⟨h, h'⟩
    · exact ⟨by simp, by intro x hx; cases hx⟩
  have HXL : Hid ((numsN P).length ≤ 11 ∧ ∀ x ∈ numsN P, x < 18446744073709551616) := ⟨by unfold numsN; rw [List.length_map]; exact schema_len _, (nums_vals hP.pkn h1 h6).2⟩
  have HYL : Hid ((smallsN P).length ≤ 11) := by
    show _ ≤ _
    unfold smallsN
    rw [List.length_map]
    exact Nat.le_trans (List.length_filter_le _ _) (schema_len _)
  have HOK : Hid (OkP P ↔ ((smallsN P).any fun x => decide (x < 0) || decide (255 < x)) = false ∧ (kK P).length ≤ 64) := ok_doc.trans ⟨fun h => h.2.2, fun h => ⟨⟨h1, h6⟩, he, h⟩⟩
  have HEN : Hid (((smallsN P).any fun x => decide (x < 0) || decide (255 < x)) = false → (enc P).1 = ([UInt8.ofNat (P.n 0).toNat] ++ (numsN P).flatMap short ++ (short (P.t (txtO (P.n 0))).length ++ P.t (txtO (P.n 0)))) ++ (if P.n 0 = 3 then short (kK P).length ++ (kK P).flatMap short else [])) := fun h => enc_nums hP.pkn h1 h6 (by rw [smalls_bad]; exact h)
  clear hB1 hP h1 h6 he
  go_enter Tryd.func17, Tryd.ntmps17
  go_wp2_with fail
  refine PF.pf_begin (by kernel_rfl) ?_
  refine PF.pf_take0 0 (by kernel_rfl) rfl (fun _ _ _ _ _ h => h) (by kernel_rfl) (fun u => by go_simp; try rfl) ?_
  try simp only [Act.put, pz0, pz1, pz2]
  refine PF.pf_take1 1 (PF.Same (w.heap.size) _) (by kernel_rfl) rfl (fun _ _ _ _ _ h => h) (by kernel_rfl) (PF.Same.refl _ _) (fun u hu => by have hcu := hu.cell; go_simp; try rfl) ?_
  try simp only [Act.put, pz0, pz1, pz2]
  refine PF.pf_take0 2 (by kernel_rfl) rfl (fun _ _ _ _ _ h => h) (by kernel_rfl) (fun u => by go_simp; try rfl) ?_
  try simp only [Act.put, pz0, pz1, pz2]
  refine PF.pf_take0 3 (by kernel_rfl) rfl (fun _ _ _ _ _ h => h) (by kernel_rfl) (fun u => by go_simp; try rfl) ?_
  try simp only [Act.put, pz0, pz1, pz2]
  refine PF.pf_take0 4 (by kernel_rfl) rfl (fun _ _ _ _ _ h => h) (by kernel_rfl) (fun u => by go_simp; try rfl) ?_
  try simp only [Act.put, pz0, pz1, pz2]
  refine PF.pf_take1 5 (PF.Same (w.heap.size) _) (by kernel_rfl) rfl (fun _ _ _ _ _ h => h) (by kernel_rfl) (PF.Same.refl _ _) (fun u hu => by have hcu := hu.cell; go_simp; try rfl) ?_
  try simp only [Act.put, pz0, pz1, pz2]
  refine PF.pf_take0 6 (by kernel_rfl) rfl (fun _ _ _ _ _ h => h) (by kernel_rfl) (fun u => by go_simp; try rfl) ?_
  try simp only [Act.put, pz0, pz1, pz2]
  refine PF.pf_take0 7 (by kernel_rfl) rfl (fun _ _ _ _ _ h => h) (by kernel_rfl) (fun u => by go_simp; try rfl) ?_
  try simp only [Act.put, pz0, pz1, pz2]
  refine PF.pf_take0 8 (by kernel_rfl) rfl (fun _ _ _ _ _ h => h) (by kernel_rfl) (fun u => by go_simp; try rfl) ?_
  try simp only [Act.put, pz0, pz1, pz2]
  refine PF.pf_take1 9 (fun u => Blk u w.heap.size 44 cs) (by kernel_rfl) rfl (fun _ _ _ _ _ h => h) (by kernel_rfl) (HB1.out) (fun u hu => by (exact exec_load_blk rfl rfl hu Tryd.underlying44 rfl (pk_56 HZ.out))) ?_
  try simp only [Act.put, pz0, pz1, pz2]
  refine PF.pf_take1 10 (fun u => Blk u w.heap.size 44 cs) (by kernel_rfl) rfl (fun _ _ _ _ _ h => h) (by kernel_rfl) (HB1.out) (fun u hu => by (exact exec_load_blk rfl rfl hu Tryd.underlying44 rfl (pk_56 HZ.out))) ?_
  try simp only [Act.put, pz0, pz1, pz2]
  refine PF.pf_exec 11 (by kernel_rfl) rfl (by kernel_rfl) (fun K hK => ?_)
  go_simp
  refine (dalone_any (HP1.out.below ((Below.refl _ _).drew)) HK.out.1 HK.out.2).mono ?_
  rintro e w2 ⟨rfl, hb2⟩
  have HT2 := Lib.hid (((Below.refl _ _).drew).trans hb2)
  have HB2 := Lib.hid (HB1.out.below HT2.out HB1.out.lt)
  have HP2 := Lib.hid (HP1.out.below HT2.out)
  clear hb2
  refine hK _ _ (by repeat (first | exact PF.owes_nil | refine PF.owes_left ?_ | refine PF.owes_no (by decide +kernel) ?_ | refine PF.owes_yes (by exact HB2.out) ?_)) ?_
  clear hK K
  try simp only [Act.put, pz0, pz1, pz2]
  refine PF.pf_exec 12 (by kernel_rfl) rfl (by kernel_rfl) (fun K hK => ?_)
  go_simp
  refine (dsame_any HP2.out HP2.out.alone).mono ?_
  rintro e w3 ⟨rfl, hb3⟩
  rw [decide_eq_true HE.out]
  refine hK _ _ (by repeat (first | exact PF.owes_nil | refine PF.owes_left ?_ | refine PF.owes_no (by decide +kernel) ?_ | refine PF.owes_yes (by first | rfl | assumption | go_simp) ?_)) ?_
  clear hK K
  try simp only [Act.put, pz0, pz1, pz2]
  refine PF.pf_take0 13 (by kernel_rfl) rfl (fun _ _ _ _ _ h => h) (by kernel_rfl) (fun u => by go_simp; try rfl) ?_
  try simp only [Act.put, pz0, pz1, pz2]
  refine PF.pf_take0 14 (by kernel_rfl) rfl (fun _ _ _ _ _ h => h) (by kernel_rfl) (fun u => by go_simp; try rfl) ?_
  try simp only [Act.put, pz0, pz1, pz2]
  refine PF.pf_done (by kernel_rfl) ?_
  have HT3 := Lib.hid (below_call HBB.out HBB.out.size (HT2.out.trans (hb3.mono HT2.out.size)))
  have HB3 := Lib.hid (HB2.out.below hb3 HB2.out.lt)
  have HP3 := Lib.hid (HP2.out.below hb3)
  clear hb3 c0 d0 d1 HT2 HB2 HP2 HB1 HP1 HBB
  go_wp2_with (refine wpList_load_blk rfl (ty := 44) rfl rfl HB3.out Tryd.underlying44 rfl (pk_56 HZ.out) ?_; refine Hid.out ?_)
  refine Lib.hid ?_
  go_wp2_with fail
  refine (drow_any HP3.out HK.out.1 HK.out.2).mono ?_
  rintro e w4 ⟨hdr, hb4⟩
  obtain ⟨A, c, A2, c2, ga, gb, rfl, hra, hrb, htx, hkp⟩ := hdr.get HN.out HK.out.1 HK.out.2
  have HB4 := Lib.hid (HB3.out.below hb4 HB3.out.lt)
  have HT4 := Lib.hid (below_call HT3.out HT3.out.size hb4)
  clear hb4 hdr HB3 HP3 HT3
  generalize numsN P = xs at *
  generalize smallsN P = ys at *
  generalize P.t (txtO (P.n 0)) = t at *
  generalize kK P = ks at *
  have HRA := Lib.hid hra
  have HRB := Lib.hid hrb
  have HTX := Lib.hid htx
  have HKP := Lib.hid hkp
  clear hra hrb htx hkp
  go_wp2_with fail
  go_loopw [8] (fun i wr => ∃ k : Nat, k ≤ ys.length ∧ i = .int .i64 k ∧ wr = w4 ∧ ((ys.take k).any fun x => decide (x < 0) || decide (255 < x)) = false) (fun i _ => ys.length - (intOf i).toNat)
  case atStart => exact ⟨0, by omega, rfl, rfl, rfl⟩
  case round =>
    obtain ⟨k, hk, rfl, hwr, hgood⟩ := hrel
    subst hwr
    by_cases hlt : k < ys.length
    · have c0 := Reads.cellOf (j := k) (v := .int .i64 ys[k]) HRB.out (by rw [List.getElem?_map, List.getElem?_eq_getElem hlt]; rfl)
      rw [Nat.zero_add] at c0
      have hst : ((ys.take (k + 1)).any fun x => decide (x < 0) || decide (255 < x)) = (decide (ys[k] < 0) || decide (255 < ys[k])) := by
        rw [List.take_succ_eq_append_getElem hlt, List.any_append, hgood, Bool.false_or]
        simp
      have hmem : ys[k] ∈ ys := List.getElem_mem hlt
      generalize ys[k] = x at c0 hst hmem
      have HST := Lib.hid hst
      have HG := Lib.hid hgood
      have HMM := Lib.hid hmem
      clear hst hgood hmem
      by_cases hb0 : x < 0
      · have d0 : decide (x < 0) = true := decide_eq_true hb0
        have HNO : Hid (¬ OkP P) := fun h => by
          have h2 := (HOK.out.1 h).1
          have h3 := List.any_eq_false.1 h2 x HMM.out
          simp [hb0] at h3
        clear hb0
        go_wp2_with fail
        go_ret2
        exact ⟨EncPost.no HNO.out, HT4.out⟩
      have d0 : decide (x < 0) = false := decide_eq_false hb0
      by_cases hb1 : 255 < x
      · have d1 : decide (255 < x) = true := decide_eq_true hb1
        have HNO : Hid (¬ OkP P) := fun h => by
          have h2 := (HOK.out.1 h).1
          have h3 := List.any_eq_false.1 h2 x HMM.out
          simp [hb1] at h3
        clear hb0 hb1
        go_wp2_with fail
        go_ret2
        exact ⟨EncPost.no HNO.out, HT4.out⟩
      have d1 : decide (255 < x) = false := decide_eq_false hb1
      have HS2 : Hid (((ys.take (k + 1)).any fun x => decide (x < 0) || decide (255 < x)) = false) := by
        show _ = _
        rw [HST.out, d0, d1]
        rfl
      clear hb0 hb1
      have hy11 := HYL.out
      go_wp2_with fail
      go_roundw
      case rel => exact ⟨k + 1, by omega, by go_num, by first | rfl | trivial, HS2.out⟩
      case measure => simp [intOf]; omega
    · obtain rfl : k = ys.length := by omega
      rw [List.take_length] at hgood
      have HG := Lib.hid (HEN.out hgood)
      have HO2 : Hid (OkP P ↔ ks.length ≤ 64) := HOK.out.trans ⟨fun h => h.2, fun h => ⟨hgood, h⟩⟩
      clear hgood HOK HEN hlt hk HRB
      by_cases hbig : 64 < ks.length
      · have d0 : decide ((64 : Int) < (ks.length : Int)) = true := decide_eq_true (by omega)
        have HNO : Hid (¬ OkP P) := fun h => by have := HO2.out.1 h; omega
        clear hbig
        go_wp2_with fail
        go_ret2
        exact ⟨EncPost.no HNO.out, HT4.out⟩
      have d0 : decide ((64 : Int) < (ks.length : Int)) = false := decide_eq_false (by omega)
      have HYES : Hid (OkP P) := HO2.out.2 (by omega)
      have HK64 : Hid (ks.length ≤ 64) := by show _ ≤ _; omega
      have c0 := (HB4.out.cell 0).trans HKI.out
      have hkv : IntKind.u8.wrap (P.n 0) = ((UInt8.ofNat (P.n 0).toNat).toNat : Int) := by
        have h := HK.out
        rw [IntKind.wrap_u8, UInt8.toNat_ofNat']
        omega
      generalize UInt8.ofNat (P.n 0).toNat = q at *
      have HKV := Lib.hid hkv
      clear hbig
      go_wp2_with fail
      clear c0 d0 hkv
      obtain ⟨wo, rfl⟩ : ∃ wo : World, wo = wr := ⟨_, rfl⟩
      have ho5 := own_new wo 5 [bv q] (by simp)
      have hb5 : Below wo.heap.size wo (wo.alloc (.cells [bv q].toArray 5)) := below_new _ _
      go_loopw [9, 10] (fun b i w' => ∃ (k : Nat) (B : Option Addr) (c : Nat), k ≤ xs.length ∧ b = .slice B ([q] ++ (xs.take k).flatMap short).length c ∧ i = .int .i64 k ∧ w'.ownsRow wo.heap.size 5 1 (.slice B ([q] ++ (xs.take k).flatMap short).length c) ([q] ++ (xs.take k).flatMap short).length (([q] ++ (xs.take k).flatMap short).map bv) ∧ Below wo.heap.size wo w') (fun _ i _ => xs.length - (intOf i).toNat)
      case atStart => exact ⟨0, some ⟨wo.heap.size, 0, none⟩, 1, by omega, rfl, rfl, ho5, hb5⟩
      case round =>
        obtain ⟨k, B, cB, hk, rfl, rfl, hown, hbo⟩ := hrel
        have HLL : Hid (([q] ++ (xs.take k).flatMap short).length ≤ 200) := by
          show _ ≤ _
          have h1 := HXL.out.1
          have h2 := flats_len (xs.take k) fun x hx => HXL.out.2 x (List.mem_of_mem_take hx)
          rw [List.length_take] at h2
          rw [List.length_append, List.length_singleton]
          omega
        by_cases hlt : k < xs.length
        · have c1 := Reads.cellOf (j := k) (v := u64v xs[k]) (Reads.below HRA.out hbo) (by rw [List.getElem?_map, List.getElem?_eq_getElem hlt]; rfl)
          rw [Nat.zero_add] at c1
          have HST : Hid ([q] ++ (xs.take (k + 1)).flatMap short = ([q] ++ (xs.take k).flatMap short) ++ short xs[k]) := by
            show _ = _
            rw [flat_take hlt, List.append_assoc]
          have HX64 := Lib.hid (HXL.out.2 _ (List.getElem_mem hlt))
          have HNL := Lib.hid (short_len HX64.out)
          generalize ([q] ++ (xs.take k).flatMap short) = L at *
          generalize xs[k] = x at *
          unfold u64v at c1
          have hx11 := HXL.out.1
          go_wp2_with fail
          refine (rshort_any x HX64.out wr).mono ?_
          rintro e w6 ⟨A6, c6, rfl, ho6, hb6⟩
          have hnb := HNL.out
          obtain ⟨nw, hnw⟩ : ∃ nw, nw = (short x) := ⟨_, rfl⟩
          rw [← hnw] at ho6 hnb ⊢
          have ho7 := own_call hown hb6
          have hr6 := own_bytes ho6
          have hbz : Below wo.heap.size wo w6 := below_call hbo hbo.size hb6
          have h1v := bv_one nw
          have hnl : (L.length + nw.length) * 1 ≤ 140737488355328 := by have := HLL.out; omega
          have HNW := Lib.hid hnw
          clear hown ho6 hb6 hbo hnb hnw
          go_wp2_with (at_builtin; refine app_list bytes_ty rfl rfl ho7 rfl hr6 rfl h1v hnl hbz.size ?_; intro v1 w7 hown1 hg1 _; refine Hid.out ?_)
          refine Lib.hid ?_
          have hbo : Below wo.heap.size wo w7 := own_below hbz hg1 hbz.size (own_ge ho7)
          obtain ⟨A7, c7, rfl, _, _⟩ := own_slice hown1
          obtain ⟨M, hM⟩ : ∃ M, M = L ++ nw := ⟨_, rfl⟩
          have hml : L.length + nw.length = M.length := by rw [hM, List.length_append]
          rw [hml] at hown1 ⊢
          have hown : w7.ownsRow wo.heap.size 5 1 (.slice A7 M.length c7) M.length (M.map bv) := by
            rw [hM, List.map_append, ← hM]
            exact hown1
          rw [HNW.out] at hM
          clear hown1 hg1 ho7 hr6 hbz h1v hnl hml HNW
          have HOM := Lib.hid hown
          have HBO := Lib.hid hbo
          have HM := Lib.hid hM
          clear hown hbo hM c1
          go_wp2_with fail
          go_roundw
          case rel => exact ⟨k + 1, A7, c7, by omega, by rw [HST.out, ← HM.out], by go_num, by rw [HST.out, ← HM.out]; exact HOM.out, HBO.out⟩
          case measure => simp [intOf]; omega
        · obtain rfl : k = xs.length := by omega
          generalize hL : [q] ++ (xs.take xs.length).flatMap short = L at *
          rw [List.take_length] at hL
          have HLD := Lib.hid hL
          have hcv := conv_str (P := Tryd.prog) (w := wr) (n := t.length) (c := c) Tryd.underlying22 Tryd.underlying5 Tryd.underlying9 (HTX.out.below hbo) rfl
          have HNL : Hid ((short t.length ++ t).length ≤ 1000010) := by
            show _ ≤ _
            have h1 := HTL.out
            have h2 := short_len (y := t.length) (by omega)
            rw [List.length_append]
            omega
          clear hL hlt hk
          go_wp2_with fail
          clear hcv
          refine (reftext_any t (by have := HTL.out; omega) wr).mono ?_
          rintro e w6 ⟨A6, c6, rfl, ho6, hb6⟩
          have hnb := HNL.out
          obtain ⟨nw, hnw⟩ : ∃ nw, nw = (short t.length ++ t) := ⟨_, rfl⟩
          rw [← hnw] at ho6 hnb ⊢
          have ho7 := own_call hown hb6
          have hr6 := own_bytes ho6
          have hbz : Below wo.heap.size wo w6 := below_call hbo hbo.size hb6
          have h1v := bv_one nw
          have hnl : (L.length + nw.length) * 1 ≤ 140737488355328 := by have := HLL.out; omega
          have HNW := Lib.hid hnw
          clear hown ho6 hb6 hbo hnb hnw
          go_wp2_with (at_builtin; refine app_list bytes_ty rfl rfl ho7 rfl hr6 rfl h1v hnl hbz.size ?_; intro v1 w7 hown1 hg1 _; refine Hid.out ?_)
          refine Lib.hid ?_
          have hbo : Below wo.heap.size wo w7 := own_below hbz hg1 hbz.size (own_ge ho7)
          obtain ⟨A7, c7, rfl, _, _⟩ := own_slice hown1
          obtain ⟨M, hM⟩ : ∃ M, M = L ++ nw := ⟨_, rfl⟩
          have hml : L.length + nw.length = M.length := by rw [hM, List.length_append]
          rw [hml] at hown1 ⊢
          have hown : w7.ownsRow wo.heap.size 5 1 (.slice A7 M.length c7) M.length (M.map bv) := by
            rw [hM, List.map_append, ← hM]
            exact hown1
          rw [HNW.out] at hM
          clear hown1 hg1 ho7 hr6 hbz h1v hnl hml HNW
          have c0 := ((HB4.out.below hbo HB4.out.lt).cell 0).trans HKI.out
          have HMD := Lib.hid hM
          have HLM : Hid (M.length ≤ 1100000) := by
            show _ ≤ _
            have h1 := HLL.out
            have h2 := HNL.out
            rw [hM, List.length_append]
            omega
          clear hM HLL HNL
          by_cases hk3 : P.n 0 = 3
          · rw [hk3] at c0
            have HG3 : Hid ((enc P).1 = M ++ (short ks.length ++ ks.flatMap short)) := by
              show _ = _
              rw [HG.out, HLD.out, if_pos hk3, HMD.out]
            have hwk : IntKind.u64.wrap (ks.length : Int) = (ks.length : Int) := by have := HK64.out; rw [IntKind.wrap_u64]; omega
            have HLL : Hid (M.length ≤ 1100000) := HLM
            have HNL := Lib.hid (short_len (y := ks.length) (by have := HK64.out; omega))
            clear hk3
            go_wp2_with fail
            clear hwk c0
            refine (rshort_any ks.length (by have := HK64.out; omega) w7).mono ?_
            rintro e w8 ⟨A6, c6, rfl, ho6, hb6⟩
            have hnb := HNL.out
            obtain ⟨nw, hnw⟩ : ∃ nw, nw = (short ks.length) := ⟨_, rfl⟩
            rw [← hnw] at ho6 hnb ⊢
            have ho7 := own_call hown hb6
            have hr6 := own_bytes ho6
            have hbz : Below wo.heap.size wo w8 := below_call hbo hbo.size hb6
            have h1v := bv_one nw
            have hnl : (M.length + nw.length) * 1 ≤ 140737488355328 := by have := HLL.out; omega
            have HNW := Lib.hid hnw
            clear hown ho6 hb6 hbo hnb hnw
            go_wp2_with (at_builtin; refine app_list bytes_ty rfl rfl ho7 rfl hr6 rfl h1v hnl hbz.size ?_; intro v1 w9 hown1 hg1 _; refine Hid.out ?_)
            refine Lib.hid ?_
            have hbo : Below wo.heap.size wo w9 := own_below hbz hg1 hbz.size (own_ge ho7)
            obtain ⟨A7, c7, rfl, _, _⟩ := own_slice hown1
            obtain ⟨N, hN⟩ : ∃ N, N = M ++ nw := ⟨_, rfl⟩
            have hml : M.length + nw.length = N.length := by rw [hN, List.length_append]
            rw [hml] at hown1 ⊢
            have hown : w9.ownsRow wo.heap.size 5 1 (.slice A7 N.length c7) N.length (N.map bv) := by
              rw [hN, List.map_append, ← hN]
              exact hown1
            rw [HNW.out] at hN
            clear hown1 hg1 ho7 hr6 hbz h1v hnl hml HNW
            have HND := Lib.hid hN
            have HLN : Hid (N.length ≤ 1100010) := by
              show _ ≤ _
              have h1 := HLM.out
              have h2 := HNL.out
              rw [hN, List.length_append]
              omega
            clear hN HLL HNL
            go_wp2_with fail
            go_loopw [9, 11] (fun b i w' => ∃ (k : Nat) (B : Option Addr) (c : Nat), k ≤ ks.length ∧ b = .slice B (N ++ (ks.take k).flatMap short).length c ∧ i = .int .i64 k ∧ w'.ownsRow wo.heap.size 5 1 (.slice B (N ++ (ks.take k).flatMap short).length c) (N ++ (ks.take k).flatMap short).length ((N ++ (ks.take k).flatMap short).map bv) ∧ Below wo.heap.size wo w') (fun _ i _ => ks.length - (intOf i).toNat)
            case atStart => exact ⟨0, A7, c7, by omega, by simp, rfl, by simpa using hown, hbo⟩
            case round =>
              clear hown hbo
              obtain ⟨k, B, cB, hk, rfl, rfl, hown, hbo⟩ := hrel
              by_cases hlt : k < ks.length
              · obtain ⟨b2, o2, rfl, _, _⟩ := Reads.flat HKP.out (by omega) (by decide)
                have c1 := Reads.cellOf (j := k) (v := u64v ks[k]) (Reads.below HKP.out hbo) (by rw [List.getElem?_map, List.getElem?_eq_getElem hlt]; rfl)
                have HST : Hid (N ++ (ks.take (k + 1)).flatMap short = (N ++ (ks.take k).flatMap short) ++ short ks[k]) := by
                  show _ = _
                  rw [flat_take hlt, List.append_assoc]
                have HX64 := Lib.hid (HKL.out.2 _ (List.getElem_mem hlt))
                have HNL := Lib.hid (short_len HX64.out)
                have HLL : Hid ((N ++ (ks.take k).flatMap short).length ≤ 1200000) := by
                  show _ ≤ _
                  have h1 := HLN.out
                  have h3 := HK64.out
                  have h2 := flats_len (ks.take k) fun x hx => HKL.out.2 x (List.mem_of_mem_take hx)
                  rw [List.length_take] at h2
                  rw [List.length_append]
                  omega
                generalize N ++ (ks.take k).flatMap short = L2 at *
                generalize ks[k] = x at *
                unfold u64v at c1
                have hk64 := HK64.out
                go_wp2_with fail
                refine (rshort_any x HX64.out wr).mono ?_
                rintro e w10 ⟨A6, c6, rfl, ho6, hb6⟩
                have hnb := HNL.out
                obtain ⟨nw, hnw⟩ : ∃ nw, nw = (short x) := ⟨_, rfl⟩
                rw [← hnw] at ho6 hnb ⊢
                have ho7 := own_call hown hb6
                have hr6 := own_bytes ho6
                have hbz : Below wo.heap.size wo w10 := below_call hbo hbo.size hb6
                have h1v := bv_one nw
                have hnl : (L2.length + nw.length) * 1 ≤ 140737488355328 := by have := HLL.out; omega
                have HNW := Lib.hid hnw
                clear hown ho6 hb6 hbo hnb hnw
                go_wp2_with (at_builtin; refine app_list bytes_ty rfl rfl ho7 rfl hr6 rfl h1v hnl hbz.size ?_; intro v1 w11 hown1 hg1 _; refine Hid.out ?_)
                refine Lib.hid ?_
                have hbo : Below wo.heap.size wo w11 := own_below hbz hg1 hbz.size (own_ge ho7)
                obtain ⟨A7, c7, rfl, _, _⟩ := own_slice hown1
                obtain ⟨M2, hM2⟩ : ∃ M2, M2 = L2 ++ nw := ⟨_, rfl⟩
                have hml : L2.length + nw.length = M2.length := by rw [hM2, List.length_append]
                rw [hml] at hown1 ⊢
                have hown : w11.ownsRow wo.heap.size 5 1 (.slice A7 M2.length c7) M2.length (M2.map bv) := by
                  rw [hM2, List.map_append, ← hM2]
                  exact hown1
                rw [HNW.out] at hM2
                clear hown1 hg1 ho7 hr6 hbz h1v hnl hml HNW
                have HOM := Lib.hid hown
                have HBO := Lib.hid hbo
                have HM := Lib.hid hM2
                clear hown hbo hM2 c1
                go_wp2_with fail
                go_roundw
                case rel => exact ⟨k + 1, A7, c7, by omega, by rw [HST.out, ← HM.out], by go_num, by rw [HST.out, ← HM.out]; exact HOM.out, HBO.out⟩
                case measure => simp [intOf]; omega
              · obtain rfl : k = ks.length := by omega
                generalize hL2 : N ++ (ks.take ks.length).flatMap short = M2 at *
                rw [List.take_length] at hL2
                have HL2 := Lib.hid hL2
                clear hL2 hlt hk
                obtain ⟨A7, hA7⟩ : ∃ A7, A7 = B := ⟨_, rfl⟩
                obtain ⟨c7, hc7⟩ : ∃ c7, c7 = cB := ⟨_, rfl⟩
                rw [← hA7, ← hc7] at hown ⊢
                clear hA7 hc7
                have hEN : (enc P).1 = M2 := by rw [HG3.out, ← HL2.out, HND.out, List.append_assoc]
                have HME := Lib.hid hEN
                have HOM := Lib.hid hown
                have HBO := Lib.hid hbo
                have HMM : Hid (M2.length ≤ 12000000) := by
                  show _ ≤ _
                  rw [← hEN]
                  have h := enc_len HP0.out HK.out.1 HK.out.2
                  omega
                have hw4 : IntKind.i64.wrap ((M2.length : Int) + 4) = (M2.length : Int) + 4 := by have := HMM.out; rw [IntKind.wrap_i64]; omega
                clear hEN hown hbo
                by_cases hl : 16384 < M2.length + 4
                · have hld : decide ((16384 : Int) < (M2.length : Int) + 4) = true := decide_eq_true (by omega)
                  have HL := Lib.hid hl
                  clear hl
                  go_wp2_with fail
                  go_ret2
                  exact ⟨EncPost.long HYES.out (by rw [HME.out]; exact HL.out), below_call HT4.out HT4.out.size HBO.out⟩
                · have hld : decide ((16384 : Int) < (M2.length : Int) + 4) = false := decide_eq_false (by omega)
                  have HL := Lib.hid hl
                  clear hl
                  have HS := Lib.hid (refseal_any A7 c7 M2 wr (own_bytes HOM.out) (by have := HL.out; omega))
                  go_wp2_with fail
                  refine HS.out.mono ?_
                  rintro e w20 ⟨v, rfl, hown2, hb2⟩
                  have HO2 := Lib.hid hown2
                  have HB2 := Lib.hid hb2
                  clear hown2 hb2
                  go_wp2_with fail
                  go_ret2
                  have h2 := HO2.out
                  rw [← HME.out, ← sealed_len] at h2
                  exact ⟨EncPost.yes HYES.out (by rw [HME.out]; exact HL.out) (own_low h2 (Nat.le_trans HT4.out.size HBO.out.size)), below_call HT4.out HT4.out.size (below_call HBO.out HBO.out.size HB2.out)⟩
          · have d3 : decide (P.n 0 = 3) = false := decide_eq_false hk3
            have d4 : (P.n 0 == 3) = false := beq_eq_false_iff_ne.2 hk3
            have HG3 : Hid ((enc P).1 = M) := by
              show _ = _
              rw [HG.out, HLD.out, if_neg hk3, HMD.out, List.append_nil]
            clear hk3
            have hEN : (enc P).1 = M := by exact HG3.out
            have HME := Lib.hid hEN
            have HOM := Lib.hid hown
            have HBO := Lib.hid hbo
            have HMM : Hid (M.length ≤ 12000000) := by
              show _ ≤ _
              rw [← hEN]
              have h := enc_len HP0.out HK.out.1 HK.out.2
              omega
            have hw4 : IntKind.i64.wrap ((M.length : Int) + 4) = (M.length : Int) + 4 := by have := HMM.out; rw [IntKind.wrap_i64]; omega
            clear hEN hown hbo
            by_cases hl : 16384 < M.length + 4
            · have hld : decide ((16384 : Int) < (M.length : Int) + 4) = true := decide_eq_true (by omega)
              have HL := Lib.hid hl
              clear hl
              go_wp2_with fail
              go_ret2
              exact ⟨EncPost.long HYES.out (by rw [HME.out]; exact HL.out), below_call HT4.out HT4.out.size HBO.out⟩
            · have hld : decide ((16384 : Int) < (M.length : Int) + 4) = false := decide_eq_false (by omega)
              have HL := Lib.hid hl
              clear hl
              have HS := Lib.hid (refseal_any A7 c7 M w7 (own_bytes HOM.out) (by have := HL.out; omega))
              go_wp2_with fail
              refine HS.out.mono ?_
              rintro e w20 ⟨v, rfl, hown2, hb2⟩
              have HO2 := Lib.hid hown2
              have HB2 := Lib.hid hb2
              clear hown2 hb2
              go_wp2_with fail
              go_ret2
              have h2 := HO2.out
              rw [← HME.out, ← sealed_len] at h2
              exact ⟨EncPost.yes HYES.out (by rw [HME.out]; exact HL.out) (own_low h2 (Nat.le_trans HT4.out.size HBO.out.size)), below_call HT4.out HT4.out.size (below_call HBO.out HBO.out.size HB2.out)⟩
theorem drenc_any {w : World} {cs : Array Value} {P : Pk} (hP : PkV w cs P) :
    Calls Tryd.prog 17 #[.agg cs] w fun e w' => EncPost w.heap.size P e w' ∧ Below w.heap.size w w' := by
  by_cases h1 : P.n 0 < 1
  · exact denc_low hP h1
  by_cases h6 : 6 < P.n 0
  · exact denc_high hP (by omega) h6
  by_cases he : PkEq P (alonePk P)
  · exact denc_rest hP (by omega) (by omega) he
  · exact denc_far hP (by omega) (by omega) he
end Go.Proofs.YtdckdjkkaangmaaDoor
