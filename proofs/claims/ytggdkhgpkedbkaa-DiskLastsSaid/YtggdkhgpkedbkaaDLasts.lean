/- DiskLasts, walked. -/
import Derived.Test.YtggdkhgpkedbkaaLasts
namespace Go.Proofs.Ytggdkhgpkedbkaa.DiskLasts
open Go.RowKit

set_option maxRecDepth 100000 in
set_option maxHeartbeats 32000000 in
theorem walk {w : World} (x0 : Int64) (A1 : Option Addr) (l1 : List Ac) (c1 : Nat) (b1 : Acts w A1 l1) (s1 : l1.length ≤ 9223372036854775806) (A2 : Option Addr) (l2 : List Ac) (c2 : Nat) (b2 : Acts w A2 l2) (s2 : l2.length ≤ 9223372036854775806) (x3 x4 : Int64) :
    Calls Try.prog 4 #[.int .i64 x0.toInt, .slice A1 l1.length c1, .slice A2 l2.length c2, .int .i64 x3.toInt, .int .i64 x4.toInt] w fun e w' => e = .returned (.bool true) ∧ Below w.heap.size w w' := by
  generalize x0.toInt = cap
  have hk1 : -9223372036854775808 ≤ x3.toInt := by have := x3.le_toInt; simpa using this
  have hk2 : x3.toInt ≤ 9223372036854775807 := by have := x3.toInt_lt; omega
  generalize x3.toInt = keep at *
  generalize x4.toInt = torn
  have HKP : Hid (-9223372036854775808 ≤ keep ∧ keep ≤ 9223372036854775807) := ⟨hk1, hk2⟩
  clear hk1 hk2
  have hnew := (Held.nil w).new cap
  go_enter Try.func4, Try.ntmps4
  go_wp2_with fail
  refine hnew.mono ?_
  rintro e w1 ⟨hb1, ⟨_, rfl⟩ | ⟨hcap, d, rfl, h1⟩⟩
  · go_wp2_with fail
    refine (run_awake _).mono ?_
    rintro e w2 ⟨rfl, hb2⟩
    go_wp2_with fail
    go_ret
    exact ⟨rfl, hb1.trans (hb2.mono hb1.size)⟩
  unfold pd
  have hmany := many_any A1 c1 l1 w1 (b1.below hb1) s1
  clear hnew
  by_cases hm : 400 < costs l1
  · rw [decide_eq_true hm] at hmany
    go_wp2_with fail
    refine hmany.mono ?_
    rintro e w2 ⟨rfl, hb2⟩
    go_wp2_with fail
    refine (run_awake _).mono ?_
    rintro e w3 ⟨rfl, hb3⟩
    go_wp2_with fail
    go_ret
    exact ⟨rfl, (hb1.trans (hb2.mono hb1.size)).trans (hb3.mono (Nat.le_trans hb1.size hb2.size))⟩
  rw [decide_eq_false hm] at hmany
  have hlen : l1.length ≤ 400 := by have := costs_len l1; omega
  have HHD : Hid (∀ w2, Below w1.heap.size w1 w2 → Held w w2 (fun _ => False) [(d, Dk.new cap)]) := fun w2 hb2 => (h1.below hb2).less fun _ e => e.elim
  clear hm h1
  go_wp2_with fail
  refine hmany.mono ?_
  rintro e w2 ⟨rfl, hb2⟩
  have hb12 : Below w.heap.size w w2 := hb1.trans (hb2.mono hb1.size)
  have h2 := HHD.out w2 hb2
  have hmany2 := many_any A2 c2 l2 w2 (b2.below hb12) s2
  clear hmany hb1 hb2 HHD
  by_cases hm : 400 < costs l2
  · rw [decide_eq_true hm] at hmany2
    go_wp2_with fail
    refine hmany2.mono ?_
    rintro e w3 ⟨rfl, hb3⟩
    go_wp2_with fail
    refine (run_awake _).mono ?_
    rintro e w4 ⟨rfl, hb4⟩
    go_wp2_with fail
    go_ret
    exact ⟨rfl, (hb12.trans (hb3.mono hb12.size)).trans (hb4.mono (Nat.le_trans hb12.size hb3.size))⟩
  rw [decide_eq_false hm] at hmany2
  have hlen2 : l2.length ≤ 400 := by have := costs_len l2; omega
  clear hm
  go_wp2_with fail
  refine hmany2.mono ?_
  rintro e w3 ⟨rfl, hb3⟩
  have h3 : Held w w3 (fun _ => False) [(d, Dk.new cap)] := (h2.below hb3).less fun _ e => e.elim
  clear hmany2 hb12 hb3 h2
  go_wp2_with fail
  go_loopw [13] (fun i wr => ∃ (k : Nat) (x : Dk), k ≤ l1.length ∧ i = .int .i64 k ∧ Held w wr (fun _ => False) [(d, x)] ∧ Fine k x ∧ Nms x ∧ x.cap = cap) (fun i _ => l1.length - (intOf i).toNat)
  case atStart => exact ⟨0, _, by omega, rfl, h3, Fine.new hcap.1 hcap.2, Nms.new _, rfl⟩
  case round =>
    obtain ⟨k, x, hk, rfl, hh, hx, hnm, hxc⟩ := hrel
    by_cases hlt : k < l1.length
    · have hbel := hh.bel
      obtain ⟨b, o, rfl, hsix⟩ := six_of b1 hlt
      obtain ⟨had, c0, c1', c2', c3, c4, c5⟩ := hsix.below hbel
      have hdo := does_act hh hx (by omega) l1[k] ((b1.2 _ (List.getElem_mem hlt)).below hbel)
      have hx' := hx.act l1[k]
      have hnm' := hnm.act l1[k]
      have hxc' := (cap_act l1[k] x).trans hxc
      unfold Ac.val pd at hdo
      generalize l1[k] = a at c0 c1' c2' c3 c4 c5 hdo hx' hnm' hxc'
      clear hsix hbel hh hx hnm hxc h3
      go_wp2_with fail
      refine hdo.mono ?_
      clear hdo
      rintro e w4 ⟨rfl, hh, _⟩
      go_wp2_with fail
      go_roundw
      case rel => exact ⟨k + 1, _, by omega, by go_num, hh, hx', hnm', hxc'⟩
      case measure => simp [intOf]; omega
    obtain rfl : k = l1.length := by omega
    clear hlt hk h3
    have hs1 := hh.start
    unfold pd at hs1
    go_wp2_with fail
    refine hs1.mono ?_
    clear hs1
    rintro e w4 ⟨rfl, h4, _⟩
    have hd1 := st_up x
    have hx1 := hx.start
    have hn1 := hnm.start
    have hc1 := (cap_start x).trans hxc
    clear hh hx hnm hxc
    generalize x.start.2 = y at h4 hd1 hx1 hn1 hc1
    have hsy := h4.sync (hx1.small (by omega))
    have hx2 := hx1.sync
    have hn2 := hn1.sync
    have hc2 := (cap_sync y).trans hc1
    rw [sync_st hd1] at hsy hx2 hn2 hc2
    generalize y.sync.2 = x at hsy hx2 hn2 hc2
    unfold pd at hsy
    clear h4 hx1 hn1 hc1 hd1
    go_wp2_with fail
    refine hsy.mono ?_
    clear hsy
    rintro e w5 ⟨rfl, h5, _⟩
    simp only at h5 hx2 hn2 hc2
    have hsm := hx2.small (by omega)
    have hcp := h5.copy hsm
    unfold pd at hcp
    go_wp2_with fail
    refine hcp.mono ?_
    clear hcp
    rintro e w6 ⟨c1, rfl, h6, _⟩
    have hcp := (h6.perm (List.Perm.swap _ _ _)).copy hsm
    unfold pd at hcp
    go_wp2_with fail
    refine hcp.mono ?_
    clear hcp
    rintro e w7 ⟨c2', rfl, h7, _⟩
    have h7 : Held w w7 (fun _ => False) [(d, St x []), (c1, St x []), (c2', St x [])] := h7.perm (perm3b _ _ _)
    have hcx : x.cap = cap := hc2
    have HC := Lib.hid hcx
    have hsl : Srt x.last := hx2.srt
    have HS := Lib.hid hsl
    clear h5 h6 hsm hcap hcx hc2 hsl
    generalize hN : l1.length = N0 at hx2 hlen
    clear hN
    go_wp2_with fail
    go_loopw [16] (fun i wr => ∃ (k : Nat) (W : List Chg), k ≤ l2.length ∧ i = .int .i64 k ∧ Held w wr (fun _ => False) [(d, St x W), (c1, St x (W.take (kOf keep))), (c2', St x (W.take (jOf keep)))] ∧ Fine (N0 + k) (St x W) ∧ Nms (St x W)) (fun i _ => l2.length - (intOf i).toNat)
    case atStart => exact ⟨0, [], by omega, rfl, by simpa using h7, hx2, hn2⟩
    case round =>
      obtain ⟨k, W, hk, rfl, hh, hf, hn⟩ := hrel
      clear h7 hx2 hn2
      by_cases hlt : k < l2.length
      · have hbel := hh.bel
        obtain ⟨b, o, rfl, hsix⟩ := six_of b2 hlt
        have hok := b2.2 _ (List.getElem_mem hlt)
        generalize l2[k] = a at hsix hok
        have HSX := Lib.hid hsix
        have HOK := Lib.hid hok
        obtain ⟨had, a0, a1, a2, a3, a4, a5⟩ := hsix.below hbel
        clear hsix hok
        by_cases h3 : 3 < a.k.toInt
        · have d3 : decide (3 < a.k.toInt) = true := decide_eq_true h3
          clear h3
          go_wp2_with fail
          go_roundw
          case rel => exact ⟨k + 1, W, by omega, by go_num, hh, hf.mono (by omega), hn⟩
          case measure => simp [intOf]; omega
        have d3 : decide (3 < a.k.toInt) = false := decide_eq_false h3
        obtain ⟨W', hW, hcase⟩ := st_act x W (a := a) (by omega)
        have hdo := does_act hh hf (by omega) a (HOK.out.below hbel)
        have hf' := hf.act a
        have hn' := hn.act a
        have HW := Lib.hid hW
        rw [hW] at hdo hf' hn'
        unfold Ac.val pd at hdo
        obtain ⟨m, hm⟩ : ∃ m : Int, (W'.length : Int) = m := ⟨_, rfl⟩
        obtain ⟨s, hs⟩ : ∃ s : Int, IntKind.i64.wrap (keep + 1) = s := ⟨_, rfl⟩
        have HM := Lib.hid hm
        have HSS := Lib.hid hs
        clear hm h3 hW hh hn hbel
        have HF := Lib.hid hf
        go_wp2_with fail
        refine hdo.mono ?_
        clear hdo a0 a1 a2 a3 a4 a5 had hf
        rintro e w8 ⟨rfl, h8, _⟩
        have hwa := h8.stw HM.out
        have hbel := h8.bel
        obtain ⟨had, a0, a1, a2, a3, a4, a5⟩ := HSX.out.below hbel
        unfold pd at hwa
        go_wp2_with fail
        refine hwa.mono ?_
        rintro e w8_ ⟨rfl, rfl⟩
        clear hwa
        by_cases p1 : m ≤ keep
        · have q1 : decide (m ≤ keep) = true := decide_eq_true p1
          obtain ⟨t1, t2⟩ := take_on hcase (K := kOf keep) (le_k (by rw [HM.out]; exact p1))
          rw [t1] at h8
          have h8 := h8.perm (List.Perm.swap _ _ _)
          clear p1
          have hdo := does_act (h8) HF.out (by omega) a (HOK.out.below hbel)
          rw [HW.out] at hdo
          unfold Ac.val pd at hdo
          go_wp2_with fail
          refine hdo.mono ?_
          clear hdo a0 a1 a2 a3 a4 a5 had hbel
          rintro e w9 ⟨rfl, h9, _⟩
          have h9 : Held w w9 (fun _ => False) [(d, St x W'), (c1, St x (W'.take (kOf keep))), (c2', St x (W.take (jOf keep)))] := by rw [t2]; exact h9.perm (List.Perm.swap _ _ _)
          clear t1 t2
          have hbel := h9.bel
          obtain ⟨had, a0, a1, a2, a3, a4, a5⟩ := HSX.out.below hbel
          clear h8
          by_cases r1 : m ≤ s
          · by_cases r2 : 0 ≤ keep
            · have hj : W'.length ≤ jOf keep := nx_i r2 HKP.out.2 (by rw [HM.out, HSS.out]; exact r1)
              have e1 : decide (m ≤ s) = true := decide_eq_true r1
              have e2 : decide (0 ≤ keep) = true := decide_eq_true r2
              clear r1 r2
              have hwa := h9.stw HM.out
              unfold pd at hwa
              go_wp2_with fail
              refine hwa.mono ?_
              rintro e w9_ ⟨rfl, rfl⟩
              clear hwa
              obtain ⟨t1, t2⟩ := take_on hcase (K := jOf keep) hj
              rw [t1] at h9
              have h9 := h9.perm (perm3a _ _ _)
              have hdo := does_act (h9) HF.out (by omega) a (HOK.out.below hbel)
              rw [HW.out] at hdo
              unfold Ac.val pd at hdo
              go_wp2_with fail
              refine hdo.mono ?_
              clear hdo a0 a1 a2 a3 a4 a5 had hbel
              rintro e w10 ⟨rfl, h10, _⟩
              have hfin : Held w w10 (fun _ => False) [(d, St x W'), (c1, St x (W'.take (kOf keep))), (c2', St x (W'.take (jOf keep)))] := by rw [t2]; exact h10.perm (perm3b _ _ _)
              have HFIN := Lib.hid hfin
              clear hfin
              go_wp2_with fail
              go_roundw
              case rel => exact ⟨k + 1, W', by omega, by go_num, HFIN.out, hf', hn'⟩
              case measure => simp [intOf]; omega
            · have hj0 : W'.length ≤ 1 := nx_iii (keep := keep) (by omega) HKP.out.1 (by rw [HM.out, HSS.out]; exact r1)
              have hj : W'.length ≤ jOf keep := by rw [nx_neg (by omega)]; exact hj0
              have e1 : decide (m ≤ s) = true := decide_eq_true r1
              have e2 : decide (0 ≤ keep) = false := decide_eq_false r2
              have e3 : decide (keep < 0) = true := decide_eq_true (by omega)
              have e4 : decide (m ≤ 1) = true := decide_eq_true (by rw [← HM.out]; omega)
              clear r1 r2 hj0
              have hwa := h9.stw HM.out
              unfold pd at hwa
              go_wp2_with fail
              refine hwa.mono ?_
              rintro e w9_ ⟨rfl, rfl⟩
              clear hwa
              have hwa := h9.stw HM.out
              unfold pd at hwa
              go_wp2_with fail
              refine hwa.mono ?_
              rintro e w9_ ⟨rfl, rfl⟩
              clear hwa
              obtain ⟨t1, t2⟩ := take_on hcase (K := jOf keep) hj
              rw [t1] at h9
              have h9 := h9.perm (perm3a _ _ _)
              have hdo := does_act (h9) HF.out (by omega) a (HOK.out.below hbel)
              rw [HW.out] at hdo
              unfold Ac.val pd at hdo
              go_wp2_with fail
              refine hdo.mono ?_
              clear hdo a0 a1 a2 a3 a4 a5 had hbel
              rintro e w10 ⟨rfl, h10, _⟩
              have hfin : Held w w10 (fun _ => False) [(d, St x W'), (c1, St x (W'.take (kOf keep))), (c2', St x (W'.take (jOf keep)))] := by rw [t2]; exact h10.perm (perm3b _ _ _)
              have HFIN := Lib.hid hfin
              clear hfin
              go_wp2_with fail
              go_roundw
              case rel => exact ⟨k + 1, W', by omega, by go_num, HFIN.out, hf', hn'⟩
              case measure => simp [intOf]; omega
          · by_cases r2 : 0 ≤ keep
            · have hj := nx_ii (n := W'.length) r2 HKP.out.2 (by rw [HM.out, HSS.out]; exact r1)
              have e1 : decide (m ≤ s) = false := decide_eq_false r1
              have e3 : decide (keep < 0) = false := decide_eq_false (by omega)
              clear r1 r2
              have hwa := h9.stw HM.out
              unfold pd at hwa
              go_wp2_with fail
              refine hwa.mono ?_
              rintro e w9_ ⟨rfl, rfl⟩
              clear hwa
              have t := nx_off hcase hj
              have hfin : Held w w9 (fun _ => False) [(d, St x W'), (c1, St x (W'.take (kOf keep))), (c2', St x (W'.take (jOf keep)))] := by rw [t]; exact h9
              have HFIN := Lib.hid hfin
              clear hfin
              go_wp2_with fail
              go_roundw
              case rel => exact ⟨k + 1, W', by omega, by go_num, HFIN.out, hf', hn'⟩
              case measure => simp [intOf]; omega
            · have hj0 : jOf keep = 1 := nx_neg (by omega)
              have e1 : decide (m ≤ s) = false := decide_eq_false r1
              have e3 : decide (keep < 0) = true := decide_eq_true (by omega)
              clear r1 r2
              by_cases r4 : W'.length ≤ 1
              · have hj : W'.length ≤ jOf keep := by rw [hj0]; exact r4
                have e4 : decide (m ≤ 1) = true := decide_eq_true (by rw [← HM.out]; omega)
                clear hj0 r4
                have hwa := h9.stw HM.out
                unfold pd at hwa
                go_wp2_with fail
                refine hwa.mono ?_
                rintro e w9_ ⟨rfl, rfl⟩
                clear hwa
                have hwa := h9.stw HM.out
                unfold pd at hwa
                go_wp2_with fail
                refine hwa.mono ?_
                rintro e w9_ ⟨rfl, rfl⟩
                clear hwa
                obtain ⟨t1, t2⟩ := take_on hcase (K := jOf keep) hj
                rw [t1] at h9
                have h9 := h9.perm (perm3a _ _ _)
                have hdo := does_act (h9) HF.out (by omega) a (HOK.out.below hbel)
                rw [HW.out] at hdo
                unfold Ac.val pd at hdo
                go_wp2_with fail
                refine hdo.mono ?_
                clear hdo a0 a1 a2 a3 a4 a5 had hbel
                rintro e w10 ⟨rfl, h10, _⟩
                have hfin : Held w w10 (fun _ => False) [(d, St x W'), (c1, St x (W'.take (kOf keep))), (c2', St x (W'.take (jOf keep)))] := by rw [t2]; exact h10.perm (perm3b _ _ _)
                have HFIN := Lib.hid hfin
                clear hfin
                go_wp2_with fail
                go_roundw
                case rel => exact ⟨k + 1, W', by omega, by go_num, HFIN.out, hf', hn'⟩
                case measure => simp [intOf]; omega
              · have hj : jOf keep < W'.length ∨ jOf keep = 0 := by rw [hj0]; omega
                have e4 : decide (m ≤ 1) = false := decide_eq_false (by rw [← HM.out]; omega)
                clear hj0 r4
                have hwa := h9.stw HM.out
                unfold pd at hwa
                go_wp2_with fail
                refine hwa.mono ?_
                rintro e w9_ ⟨rfl, rfl⟩
                clear hwa
                have hwa := h9.stw HM.out
                unfold pd at hwa
                go_wp2_with fail
                refine hwa.mono ?_
                rintro e w9_ ⟨rfl, rfl⟩
                clear hwa
                have t := nx_off hcase hj
                have hfin : Held w w9 (fun _ => False) [(d, St x W'), (c1, St x (W'.take (kOf keep))), (c2', St x (W'.take (jOf keep)))] := by rw [t]; exact h9
                have HFIN := Lib.hid hfin
                clear hfin
                go_wp2_with fail
                go_roundw
                case rel => exact ⟨k + 1, W', by omega, by go_num, HFIN.out, hf', hn'⟩
                case measure => simp [intOf]; omega
        · have q1 : decide (m ≤ keep) = false := decide_eq_false p1
          have t := gt_k hcase (keep := keep) (by rw [HM.out]; exact p1)
          have h9 : Held w w8 (fun _ => False) [(d, St x W'), (c1, St x (W'.take (kOf keep))), (c2', St x (W.take (jOf keep)))] := by rw [t]; exact h8
          clear p1 t hbel had a0 a1 a2 a3 a4 a5
          have hbel := h9.bel
          obtain ⟨had, a0, a1, a2, a3, a4, a5⟩ := HSX.out.below hbel
          clear h8
          by_cases r1 : m ≤ s
          · by_cases r2 : 0 ≤ keep
            · have hj : W'.length ≤ jOf keep := nx_i r2 HKP.out.2 (by rw [HM.out, HSS.out]; exact r1)
              have e1 : decide (m ≤ s) = true := decide_eq_true r1
              have e2 : decide (0 ≤ keep) = true := decide_eq_true r2
              clear r1 r2
              have hwa := h9.stw HM.out
              unfold pd at hwa
              go_wp2_with fail
              refine hwa.mono ?_
              rintro e w9_ ⟨rfl, rfl⟩
              clear hwa
              obtain ⟨t1, t2⟩ := take_on hcase (K := jOf keep) hj
              rw [t1] at h9
              have h9 := h9.perm (perm3a _ _ _)
              have hdo := does_act (h9) HF.out (by omega) a (HOK.out.below hbel)
              rw [HW.out] at hdo
              unfold Ac.val pd at hdo
              go_wp2_with fail
              refine hdo.mono ?_
              clear hdo a0 a1 a2 a3 a4 a5 had hbel
              rintro e w10 ⟨rfl, h10, _⟩
              have hfin : Held w w10 (fun _ => False) [(d, St x W'), (c1, St x (W'.take (kOf keep))), (c2', St x (W'.take (jOf keep)))] := by rw [t2]; exact h10.perm (perm3b _ _ _)
              have HFIN := Lib.hid hfin
              clear hfin
              go_wp2_with fail
              go_roundw
              case rel => exact ⟨k + 1, W', by omega, by go_num, HFIN.out, hf', hn'⟩
              case measure => simp [intOf]; omega
            · have hj0 : W'.length ≤ 1 := nx_iii (keep := keep) (by omega) HKP.out.1 (by rw [HM.out, HSS.out]; exact r1)
              have hj : W'.length ≤ jOf keep := by rw [nx_neg (by omega)]; exact hj0
              have e1 : decide (m ≤ s) = true := decide_eq_true r1
              have e2 : decide (0 ≤ keep) = false := decide_eq_false r2
              have e3 : decide (keep < 0) = true := decide_eq_true (by omega)
              have e4 : decide (m ≤ 1) = true := decide_eq_true (by rw [← HM.out]; omega)
              clear r1 r2 hj0
              have hwa := h9.stw HM.out
              unfold pd at hwa
              go_wp2_with fail
              refine hwa.mono ?_
              rintro e w9_ ⟨rfl, rfl⟩
              clear hwa
              have hwa := h9.stw HM.out
              unfold pd at hwa
              go_wp2_with fail
              refine hwa.mono ?_
              rintro e w9_ ⟨rfl, rfl⟩
              clear hwa
              obtain ⟨t1, t2⟩ := take_on hcase (K := jOf keep) hj
              rw [t1] at h9
              have h9 := h9.perm (perm3a _ _ _)
              have hdo := does_act (h9) HF.out (by omega) a (HOK.out.below hbel)
              rw [HW.out] at hdo
              unfold Ac.val pd at hdo
              go_wp2_with fail
              refine hdo.mono ?_
              clear hdo a0 a1 a2 a3 a4 a5 had hbel
              rintro e w10 ⟨rfl, h10, _⟩
              have hfin : Held w w10 (fun _ => False) [(d, St x W'), (c1, St x (W'.take (kOf keep))), (c2', St x (W'.take (jOf keep)))] := by rw [t2]; exact h10.perm (perm3b _ _ _)
              have HFIN := Lib.hid hfin
              clear hfin
              go_wp2_with fail
              go_roundw
              case rel => exact ⟨k + 1, W', by omega, by go_num, HFIN.out, hf', hn'⟩
              case measure => simp [intOf]; omega
          · by_cases r2 : 0 ≤ keep
            · have hj := nx_ii (n := W'.length) r2 HKP.out.2 (by rw [HM.out, HSS.out]; exact r1)
              have e1 : decide (m ≤ s) = false := decide_eq_false r1
              have e3 : decide (keep < 0) = false := decide_eq_false (by omega)
              clear r1 r2
              have hwa := h9.stw HM.out
              unfold pd at hwa
              go_wp2_with fail
              refine hwa.mono ?_
              rintro e w9_ ⟨rfl, rfl⟩
              clear hwa
              have t := nx_off hcase hj
              have hfin : Held w w8 (fun _ => False) [(d, St x W'), (c1, St x (W'.take (kOf keep))), (c2', St x (W'.take (jOf keep)))] := by rw [t]; exact h9
              have HFIN := Lib.hid hfin
              clear hfin
              go_wp2_with fail
              go_roundw
              case rel => exact ⟨k + 1, W', by omega, by go_num, HFIN.out, hf', hn'⟩
              case measure => simp [intOf]; omega
            · have hj0 : jOf keep = 1 := nx_neg (by omega)
              have e1 : decide (m ≤ s) = false := decide_eq_false r1
              have e3 : decide (keep < 0) = true := decide_eq_true (by omega)
              clear r1 r2
              by_cases r4 : W'.length ≤ 1
              · have hj : W'.length ≤ jOf keep := by rw [hj0]; exact r4
                have e4 : decide (m ≤ 1) = true := decide_eq_true (by rw [← HM.out]; omega)
                clear hj0 r4
                have hwa := h9.stw HM.out
                unfold pd at hwa
                go_wp2_with fail
                refine hwa.mono ?_
                rintro e w9_ ⟨rfl, rfl⟩
                clear hwa
                have hwa := h9.stw HM.out
                unfold pd at hwa
                go_wp2_with fail
                refine hwa.mono ?_
                rintro e w9_ ⟨rfl, rfl⟩
                clear hwa
                obtain ⟨t1, t2⟩ := take_on hcase (K := jOf keep) hj
                rw [t1] at h9
                have h9 := h9.perm (perm3a _ _ _)
                have hdo := does_act (h9) HF.out (by omega) a (HOK.out.below hbel)
                rw [HW.out] at hdo
                unfold Ac.val pd at hdo
                go_wp2_with fail
                refine hdo.mono ?_
                clear hdo a0 a1 a2 a3 a4 a5 had hbel
                rintro e w10 ⟨rfl, h10, _⟩
                have hfin : Held w w10 (fun _ => False) [(d, St x W'), (c1, St x (W'.take (kOf keep))), (c2', St x (W'.take (jOf keep)))] := by rw [t2]; exact h10.perm (perm3b _ _ _)
                have HFIN := Lib.hid hfin
                clear hfin
                go_wp2_with fail
                go_roundw
                case rel => exact ⟨k + 1, W', by omega, by go_num, HFIN.out, hf', hn'⟩
                case measure => simp [intOf]; omega
              · have hj : jOf keep < W'.length ∨ jOf keep = 0 := by rw [hj0]; omega
                have e4 : decide (m ≤ 1) = false := decide_eq_false (by rw [← HM.out]; omega)
                clear hj0 r4
                have hwa := h9.stw HM.out
                unfold pd at hwa
                go_wp2_with fail
                refine hwa.mono ?_
                rintro e w9_ ⟨rfl, rfl⟩
                clear hwa
                have hwa := h9.stw HM.out
                unfold pd at hwa
                go_wp2_with fail
                refine hwa.mono ?_
                rintro e w9_ ⟨rfl, rfl⟩
                clear hwa
                have t := nx_off hcase hj
                have hfin : Held w w8 (fun _ => False) [(d, St x W'), (c1, St x (W'.take (kOf keep))), (c2', St x (W'.take (jOf keep)))] := by rw [t]; exact h9
                have HFIN := Lib.hid hfin
                clear hfin
                go_wp2_with fail
                go_roundw
                case rel => exact ⟨k + 1, W', by omega, by go_num, HFIN.out, hf', hn'⟩
                case measure => simp [intOf]; omega
      obtain rfl : k = l2.length := by omega
      clear hlt hk
      have hwl : W.length ≤ 1000 := Nat.le_trans hf.nw (by omega)
      have hcr := hh.crash hf (by omega) keep torn
      have hf1 := hf.crash keep torn
      have hn1 := hn.crash keep torn
      have hfk := hf.st (kOf keep)
      have hfj := hf.st (jOf keep)
      rw [crash_st] at hcr hf1 hn1
      have hf2 := hf1.start
      have hn2 := hn1.start
      rw [start_cr] at hf2 hn2
      simp only at hf2 hn2
      unfold pd at hcr
      clear hh hf hf1 hn1
      go_wp2_with fail
      refine hcr.mono ?_
      clear hcr
      rintro e w8 ⟨rfl, h8, _⟩
      have hst := h8.start
      simp only at hst
      rw [start_cr] at hst
      unfold pd at hst
      go_wp2_with fail
      refine hst.mono ?_
      clear hst h8
      rintro e w9 ⟨rfl, h9, _⟩
      simp only at h9
      have hwa := h9.waits
      rw [show (if (Up x W keep torn).down = true then (0 : Int) else ((Up x W keep torn).waits.length : Int)) = 0 from rfl] at hwa
      unfold pd at hwa
      go_wp2_with fail
      refine hwa.mono ?_
      clear hwa
      rintro e w10 ⟨rfl, rfl⟩
      by_cases ht : torn ≤ 0
      · have dt : decide (torn ≤ 0) = true := decide_eq_true ht
        have hal := alike_any h9 (hf2.small (by omega)) (hfk.small (by omega)) (lasts_whole x W ht) rfl hn2.nok
        unfold pd at hal
        go_wp2_with fail
        refine hal.mono ?_
        rintro e w11 ⟨rfl, hb11⟩
        have hle := h9.le
        have hbl := h9.bel
        clear hal h9
        go_wp2_with fail
        refine (run_awake _).mono ?_
        rintro e w12 ⟨rfl, hb12⟩
        go_wp2_with fail
        go_ret
        exact ⟨rfl, (hbl.trans (hb11.mono hle)).trans (hb12.mono (Nat.le_trans hle hb11.size))⟩
      have dt : decide (torn ≤ 0) = false := decide_eq_false ht
      have hnms := h9.names (hf2.small (by omega))
      rw [if_neg (show ¬ (Up x W keep torn).down = true by simp [Up])] at hnms
      unfold pd at hnms
      clear ht
      go_wp2_with fail
      refine hnms.mono ?_
      rintro e w11 ⟨⟨A1, c1_, rfl, o1⟩, bl1⟩
      have h11 := (h9.below bl1).less (K' := fun _ => False) fun _ => fun e => e.elim
      clear hnms h9 bl1
      have HMEM : Hid (∀ k (hk : k < ((Up x W keep torn).seen.map (·.1)).length), ∃ b, isName (((Up x W keep torn).seen.map (·.1))[k]) = true ∧ fget (((Up x W keep torn).seen.map (·.1))[k]) ((St x W).lasts keep torn) = some b) := by
        intro k hk
        rw [List.getElem_map]
        have hk' : k < (Up x W keep torn).seen.length := by simpa using hk
        have hm := List.getElem_mem hk'
        refine ⟨((Up x W keep torn).seen[k]).2, hn2.seen _ hm, kept_name hf2.srt hm⟩
      have HSZ : Hid ((fsize (Up x W keep torn).seen : Int) ≤ cap) := by have := hf2.seen_le; rw [← HC.out]; exact this
      have hnsl : ((Up x W keep torn).seen.map (·.1)).length ≤ 1000000 := by rw [List.length_map]; exact (hf2.small (by omega)).ns
      generalize (Up x W keep torn).seen.map (·.1) = ns at *
      go_wp2_with fail
      go_loopw [18] (fun i wr => ∃ k : Nat, k ≤ ns.length ∧ i = .int .i64 k ∧ Below w11.heap.size w11 wr) (fun i _ => ns.length - (intOf i).toNat)
      case atStart => exact ⟨0, by omega, rfl, Below.refl _ _⟩
      case round =>
        obtain ⟨k, hk, rfl, hb⟩ := hrel
        have k5 := (h11.below hb).less (K' := fun _ => False) fun _ => fun e => e.elim
        by_cases hlt : k < ns.length
        · obtain ⟨g1, c1', e1, _, _, _⟩ := own_ptr o1 (by omega)
          injection e1 with e1 _ e1'
          subst e1 e1'
          have gl1 := (o1.lt g1 rfl).2
          have n1 := own_name (own_call o1 hb) hlt
          obtain ⟨bs, hnk, hbs⟩ := HMEM.out k hlt
          generalize ns[k] = nm at *
          obtain ⟨hr1, hr23⟩ := reads_of HS.out hwl hnk hbs
          have ht1 := k5.tell (hf2.small (by omega)) nm (name_nok hnk)
          rw [hr1] at ht1
          have HR23 := Lib.hid hr23
          unfold pd at ht1
          clear hr1 hr23 hbs HMEM HSZ
          go_wp2_with fail
          refine ht1.mono ?_
          rintro e w12 ⟨A5, c5, K5, rfl, k6, i5, _, _, bl5⟩
          have ht2 := (k6.perm (List.Perm.swap _ _ _)).tell (hfk.small (by omega)) nm (name_nok hnk)
          have n2 := (bl5.cell (p := ⟨g1, k, none⟩) (Nat.lt_of_lt_of_le gl1 hb.size)).trans n1
          simp only at i5
          unfold pd at ht2
          clear ht1 n1 k5
          go_wp2_with fail
          refine ht2.mono ?_
          rintro e w13 ⟨A6, c6, K6, rfl, k7, i6, f6, _, bl6⟩
          have ht3 := (k7.perm (perm3a _ _ _)).tell (hfj.small (by omega)) nm (name_nok hnk)
          have n3 := (bl6.cell (p := ⟨g1, k, none⟩) (Nat.lt_of_lt_of_le gl1 (Nat.le_trans hb.size bl5.size))).trans n2
          have i5' := f6 _ _ i5
          unfold pd at ht3
          clear ht2 n2 k6 i5
          go_wp2_with fail
          refine ht3.mono ?_
          rintro e w14 ⟨A7, c7, K7, rfl, _, i7, f7, _, bl7⟩
          have j5 := f7 _ _ i5'
          have j6 := f7 _ _ i6
          have HB : Hid (Below w11.heap.size w11 w14) := ((hb.trans (bl5.mono hb.size)).trans (bl6.mono (Nat.le_trans hb.size bl5.size))).trans (bl7.mono (Nat.le_trans hb.size (Nat.le_trans bl5.size bl6.size)))
          clear ht3 n3 k7 i5' i6 f6 f7 bl5 bl6 bl7 hb gl1
          rcases HR23.out with hp | ⟨p, q, hp, hq, hne, hl1, htk, hl2⟩
          · rw [hp] at j6 ⊢
            simp only at j6
            have q5 := conv_in Try.underlying23 Try.underlying5 Try.underlying9 (P := Try.prog) j5
            have q6 := conv_in Try.underlying23 Try.underlying5 Try.underlying9 (P := Try.prog) j6
            clear hp i7 j5 j6
            go_wp2_with fail
            go_roundw
            case rel => exact ⟨k + 1, by omega, by go_num, HB.out⟩
            case measure => simp [intOf]; omega
          · rw [hq] at i7 ⊢
            rw [hp] at j6 ⊢
            simp only at i7
            generalize ((St x (W.take (kOf keep))).read nm).2 = ep
            have q5 := conv_in Try.underlying23 Try.underlying5 Try.underlying9 (P := Try.prog) j5
            have q6 := conv_in Try.underlying23 Try.underlying5 Try.underlying9 (P := Try.prog) j6
            have hbp : (bs == p) = false := by simpa using hne
            have HI5 := Lib.hid j5.bytes
            have HI7 : Hid (Bytes w14 A7 bs) := by
              have h : Bytes w14 A7 q := i7.bytes
              have := Reads.take h (k := bs.length) hl1
              rw [Nat.mul_one, ← List.map_take, htk] at this
              exact this
            have hroom := i7.room
            simp only at hroom
            have hq0 : (0 : Int) ≤ bs.length ∧ (bs.length : Int) ≤ c7 := by omega
            have g1 : decide (q.length < bs.length) = false := decide_eq_false (by omega)
            have g2 : decide ((q.length : Int) < bs.length) = false := decide_eq_false (by omega)
            have g3 : decide (bs.length < p.length) = false := decide_eq_false (by omega)
            have g4 : decide ((bs.length : Int) < p.length) = false := decide_eq_false (by omega)
            clear hp hq i7 j5 j6 hne hl1 htk hl2
            go_wp2_with fail
            refine PF.pf_begin (by kernel_rfl) ?_
            refine PF.pf_take0 0 (by kernel_rfl) rfl (fun _ _ _ _ _ h => h) (by kernel_rfl) (fun u => by go_simp; try rfl) ?_
            try simp only [Act.put, List.setIfInBounds_toArray, List.set_cons_zero, List.set_cons_succ]
            refine PF.pf_take0 1 (by kernel_rfl) rfl (fun _ _ _ _ _ h => h) (by kernel_rfl) (fun u => by go_simp; try rfl) ?_
            try simp only [Act.put, List.setIfInBounds_toArray, List.set_cons_zero, List.set_cons_succ]
            refine PF.pf_take0 2 (by kernel_rfl) rfl (fun _ _ _ _ _ h => h) (by kernel_rfl) (fun u => by go_simp; try rfl) ?_
            try simp only [Act.put, List.setIfInBounds_toArray, List.set_cons_zero, List.set_cons_succ]
            refine PF.pf_take0 3 (by kernel_rfl) rfl (fun _ _ _ _ _ h => h) (by kernel_rfl) (fun u => by go_simp; try rfl) ?_
            try simp only [Act.put, List.setIfInBounds_toArray, List.set_cons_zero, List.set_cons_succ]
            refine PF.pf_take0 4 (by kernel_rfl) rfl (fun _ _ _ _ _ h => h) (by kernel_rfl) (fun u => by go_simp; try rfl) ?_
            try simp only [Act.put, List.setIfInBounds_toArray, List.set_cons_zero, List.set_cons_succ]
            refine PF.pf_take0 5 (by kernel_rfl) rfl (fun _ _ _ _ _ h => h) (by kernel_rfl) (fun u => by go_simp; try rfl) ?_
            try simp only [Act.put, List.setIfInBounds_toArray, List.set_cons_zero, List.set_cons_succ]
            refine PF.pf_take0 6 (by kernel_rfl) rfl (fun _ _ _ _ _ h => h) (by kernel_rfl) (fun u => by go_simp; try rfl) ?_
            try simp only [Act.put, List.setIfInBounds_toArray, List.set_cons_zero, List.set_cons_succ]
            refine PF.pf_take0 7 (by kernel_rfl) rfl (fun _ _ _ _ _ h => h) (by kernel_rfl) (fun u => by go_simp; try rfl) ?_
            try simp only [Act.put, List.setIfInBounds_toArray, List.set_cons_zero, List.set_cons_succ]
            refine PF.pf_take0 8 (by kernel_rfl) rfl (fun _ _ _ _ _ h => h) (by kernel_rfl) (fun u => by go_simp; try rfl) ?_
            try simp only [Act.put, List.setIfInBounds_toArray, List.set_cons_zero, List.set_cons_succ]
            refine PF.pf_take0 9 (by kernel_rfl) rfl (fun _ _ _ _ _ h => h) (by kernel_rfl) (fun u => by go_simp; try rfl) ?_
            try simp only [Act.put, List.setIfInBounds_toArray, List.set_cons_zero, List.set_cons_succ]
            refine PF.pf_take0 10 (by kernel_rfl) rfl (fun _ _ _ _ _ h => h) (by kernel_rfl) (fun u => by go_simp; try rfl) ?_
            try simp only [Act.put, List.setIfInBounds_toArray, List.set_cons_zero, List.set_cons_succ]
            refine PF.pf_take0 11 (by kernel_rfl) rfl (fun _ _ _ _ _ h => h) (by kernel_rfl) (fun u => by go_simp; try rfl) ?_
            try simp only [Act.put, List.setIfInBounds_toArray, List.set_cons_zero, List.set_cons_succ]
            refine PF.pf_take0 12 (by kernel_rfl) rfl (fun _ _ _ _ _ h => h) (by kernel_rfl) (fun u => by go_simp; try rfl) ?_
            try simp only [Act.put, List.setIfInBounds_toArray, List.set_cons_zero, List.set_cons_succ]
            refine PF.pf_take0 13 (by kernel_rfl) rfl (fun _ _ _ _ _ h => h) (by kernel_rfl) (fun u => by go_simp; try rfl) ?_
            try simp only [Act.put, List.setIfInBounds_toArray, List.set_cons_zero, List.set_cons_succ]
            refine PF.pf_take1 14 (fun u => Bytes u A7 bs) (by kernel_rfl) rfl (fun _ _ _ _ _ h => h) (by kernel_rfl) (HI7.out) (fun u hu => by (have hcv := conv_str (P := Try.prog) (c := c7) Try.underlying23 Try.underlying5 Try.underlying9 hu rfl; go_simp; rfl)) ?_
            try simp only [Act.put, List.setIfInBounds_toArray, List.set_cons_zero, List.set_cons_succ]
            refine PF.pf_take0 15 (by kernel_rfl) rfl (fun _ _ _ _ _ h => h) (by kernel_rfl) (fun u => by go_simp; try rfl) ?_
            try simp only [Act.put, List.setIfInBounds_toArray, List.set_cons_zero, List.set_cons_succ]
            refine PF.pf_take1 16 (fun u => Bytes u A5 bs) (by kernel_rfl) rfl (fun _ _ _ _ _ h => h) (by kernel_rfl) (HI5.out) (fun u hu => by (have hcv := conv_str (P := Try.prog) (c := c5) Try.underlying23 Try.underlying5 Try.underlying9 hu rfl; go_simp; rfl)) ?_
            try simp only [Act.put, List.setIfInBounds_toArray, List.set_cons_zero, List.set_cons_succ]
            refine PF.pf_take0 17 (by kernel_rfl) rfl (fun _ _ _ _ _ h => h) (by kernel_rfl) (fun u => by go_simp; try rfl) ?_
            try simp only [Act.put, List.setIfInBounds_toArray, List.set_cons_zero, List.set_cons_succ]
            refine PF.pf_take0 18 (by kernel_rfl) rfl (fun _ _ _ _ _ h => h) (by kernel_rfl) (fun u => by go_simp; try rfl) ?_
            try simp only [Act.put, List.setIfInBounds_toArray, List.set_cons_zero, List.set_cons_succ]
            refine PF.pf_take0 19 (by kernel_rfl) rfl (fun _ _ _ _ _ h => h) (by kernel_rfl) (fun u => by go_simp; try rfl) ?_
            try simp only [Act.put, List.setIfInBounds_toArray, List.set_cons_zero, List.set_cons_succ]
            refine PF.pf_take0 20 (by kernel_rfl) rfl (fun _ _ _ _ _ h => h) (by kernel_rfl) (fun u => by go_simp; try rfl) ?_
            try simp only [Act.put, List.setIfInBounds_toArray, List.set_cons_zero, List.set_cons_succ]
            refine PF.pf_take0 21 (by kernel_rfl) rfl (fun _ _ _ _ _ h => h) (by kernel_rfl) (fun u => by go_simp; try rfl) ?_
            try simp only [Act.put, List.setIfInBounds_toArray, List.set_cons_zero, List.set_cons_succ]
            refine PF.pf_take0 22 (by kernel_rfl) rfl (fun _ _ _ _ _ h => h) (by kernel_rfl) (fun u => by go_simp; try rfl) ?_
            try simp only [Act.put, List.setIfInBounds_toArray, List.set_cons_zero, List.set_cons_succ]
            refine PF.pf_take0 23 (by kernel_rfl) rfl (fun _ _ _ _ _ h => h) (by kernel_rfl) (fun u => by go_simp; try rfl) ?_
            try simp only [Act.put, List.setIfInBounds_toArray, List.set_cons_zero, List.set_cons_succ]
            refine PF.pf_take0 24 (by kernel_rfl) rfl (fun _ _ _ _ _ h => h) (by kernel_rfl) (fun u => by go_simp; try rfl) ?_
            try simp only [Act.put, List.setIfInBounds_toArray, List.set_cons_zero, List.set_cons_succ]
            refine PF.pf_take0 25 (by kernel_rfl) rfl (fun _ _ _ _ _ h => h) (by kernel_rfl) (fun u => by go_simp; try rfl) ?_
            try simp only [Act.put, List.setIfInBounds_toArray, List.set_cons_zero, List.set_cons_succ]
            refine PF.pf_done (by kernel_rfl) ?_
            go_wp2_with fail
            go_roundw
            case rel => exact ⟨k + 1, by omega, by go_num, HB.out.drew⟩
            case measure => simp [intOf]; omega
        · obtain rfl : k = ns.length := by omega
          have hby := k5.all (hf2.small (by omega))
          rw [if_neg (show ¬ (Up x W keep torn).down = true by simp [Up])] at hby
          have hle := k5.le
          have hbl := k5.bel
          generalize (fsize (Up x W keep torn).seen : Int) = sz at hby HSZ
          have hz : decide (sz ≤ cap) = true := decide_eq_true HSZ.out
          unfold pd at hby
          clear k5
          go_wp2_with fail
          refine hby.mono ?_
          rintro e w12 ⟨rfl, hb12⟩
          go_wp2_with fail
          refine (run_awake _).mono ?_
          rintro e w13 ⟨rfl, hb13⟩
          go_wp2_with fail
          go_ret
          exact ⟨rfl, (hbl.trans (hb12.mono hle)).trans (hb13.mono (Nat.le_trans hle hb12.size))⟩
end Go.Proofs.Ytggdkhgpkedbkaa.DiskLasts
