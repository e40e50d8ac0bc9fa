/- DiskSwaps, walked. -/
import Derived.Test.YtggdkhgpkedbkaaSwaps
namespace Go.Proofs.Ytggdkhgpkedbkaa.DiskSwaps
open Go.RowKit

set_option maxRecDepth 100000 in
set_option maxHeartbeats 16000000 in
theorem walk {w : World} (x0 : Int64) (A1 : Option Addr) (l1 : List Ac) (c1 : Nat) (b1 : Acts w A1 l1) (s1 : l1.length ≤ 9223372036854775806) (A2 : Option Addr) (l2 : List UInt8) (c2 : Nat) (b2 : Bytes w A2 l2) (e2 : l2.length ≤ c2) (g2 : c2 ≤ 9223372036854775807)
    (A3 : Option Addr) (l3 : List UInt8) (c3 : Nat) (b3 : Bytes w A3 l3) (e3 : l3.length ≤ c3) (g3 : c3 ≤ 9223372036854775807) (x4 x5 : Int64) :
    Calls Try.prog 3 #[.int .i64 x0.toInt, .slice A1 l1.length c1, .slice A2 l2.length c2, .slice A3 l3.length c3, .int .i64 x4.toInt, .int .i64 x5.toInt] w fun e w' => e = .returned (.bool true) ∧ Below w.heap.size w w' := by
  generalize x0.toInt = cap
  generalize x4.toInt = keep
  generalize x5.toInt = torn
  have hnew := (Held.nil w).new cap
  go_enter Try.func3, Try.ntmps3
  go_wp2_with fail
  refine hnew.mono ?_
  rintro e w1 ⟨hb1, ⟨_, rfl⟩ | ⟨hcap, d, rfl, h1⟩⟩
  · go_wp2_with fail
    refine (run_awake _).mono ?_
    rintro e w2 ⟨rfl, hb2⟩
    go_wp2_with fail
    go_ret
    exact ⟨rfl, hb1.trans (hb2.mono hb1.size)⟩
  unfold pd
  have hmany := many_any A1 c1 l1 w1 (b1.below hb1) s1
  clear hnew
  by_cases hm : 400 < costs l1
  · rw [decide_eq_true hm] at hmany
    go_wp2_with (first
      | (go_at_call 10; refine hmany.mono ?_; rintro e w2 ⟨rfl, hb2⟩)
      | (go_at_call 11; refine (run_awake _).mono ?_; rintro e w3 ⟨rfl, hb3⟩))
    go_ret
    exact ⟨rfl, (hb1.trans (hb2.mono hb1.size)).trans (hb3.mono (Nat.le_trans hb1.size hb2.size))⟩
  · rw [decide_eq_false hm] at hmany
    have hlen : l1.length ≤ 400 := by have := costs_len l1; omega
    have HH : ∀ w2, Below w1.heap.size w1 w2 → Held w w2 (fun _ => False) [(d, Dk.new cap)] := fun w2 hb2 => (h1.below hb2).less fun _ e => e.elim
    have HHD := Lib.hid HH
    clear hm HH
    go_wp2_with (first
      | (go_at_call 10; refine hmany.mono ?_; rintro e w2 ⟨rfl, hb2⟩)
      | (go_at_call 11; refine (run_awake _).mono ?_; rintro e w3 ⟨rfl, hb3⟩))
    · go_ret
      exact ⟨rfl, (hb1.trans (hb2.mono hb1.size)).trans (hb3.mono (Nat.le_trans hb1.size hb2.size))⟩
    · have h2 := HHD.out w2 hb2
      have b1' := b1.below (hb1.trans (hb2.mono hb1.size))
      clear hmany h1 HHD
      go_loopw [15] (fun i wr => ∃ (k : Nat) (x : Dk), k ≤ l1.length ∧ i = .int .i64 k ∧ Held w wr (fun _ => False) [(d, x)] ∧ Fine k x) (fun i _ => l1.length - (intOf i).toNat)
      case atStart => exact ⟨0, _, by omega, rfl, h2, Fine.new hcap.1 hcap.2⟩
      case round =>
        obtain ⟨k, x, hk, rfl, hh, hx⟩ := hrel
        by_cases hlt : k < l1.length
        · have hbel := hh.bel
          have hact := b1.below hbel
          obtain ⟨b, o, rfl, had, c0, c1, c2, c3, c4, c5⟩ := hact.at_ hlt
          have hdo := does_act hh hx (by omega) l1[k] (hact.2 _ (List.getElem_mem hlt))
          have hx' := hx.act l1[k]
          unfold Ac.val pd at hdo
          generalize l1[k] = a at c0 c1 c2 c3 c4 c5 hdo hx'
          clear hact b1' hbel hh hx
          go_wp2_with (go_at_call 12; refine hdo.mono ?_; clear hdo; rintro e w3 ⟨rfl, hh, _⟩)
          go_roundw
          case rel => exact ⟨k + 1, _, by omega, by go_num, hh, hx'⟩
          case measure => simp [intOf]; omega
        · obtain rfl : k = l1.length := by omega
          clear hlt hk b1'
          have hs1 := hh.start
          unfold pd at hs1
          go_wp2_with (go_at_call 13; refine hs1.mono ?_; clear hs1; rintro e w4 ⟨rfl, h4, _⟩)
          have hd1 := start_up x
          have hx1 := hx.start
          have hN : l1.length ≤ 999990 := by omega
          clear hh hx
          generalize x.start.2 = y at h4 hd1 hx1
          have hrd := h4.tell (hx1.small (by omega)) newN (by decide)
          rw [read_up hd1] at hrd
          cases hg : (fget newN y.seen).isSome
          · rw [hg, if_pos rfl] at hrd
            have HG := Lib.hid hg
            have HD1 := Lib.hid hd1
            unfold pd at hrd
            refine hrd.mono ?_
            rintro e w5 ⟨A5, k5, K5, rfl, h5, _, _, _, _⟩
            replace h5 := h5.less (K' := fun _ => False) fun _ e => e.elim
            clear hrd h4 hg hd1
            have hput := h5.put (hx1.small (by omega)) oldN (by decide) A2 c2 l2 (b2.below h5.bel) (Nat.le_trans e2 g2)
            unfold pd at hput
            go_wp2_with fail
            refine hput.mono ?_
            rintro e w6 ⟨rfl, h6, _⟩
            clear hput h5
            by_cases hq1 : (y.put oldN l2).1 = 0
            · have HQ1 := Lib.hid hq1
              rw [hq1]
              clear hq1
              have hsy := h6.sync ((hx1.put oldN l2).small (by omega))
              rw [show (y.put oldN l2).2.sync = (0, (y.put oldN l2).2.sync.2) from Prod.ext (sync_up ((put_down _ _ _).trans HD1.out)) rfl] at hsy
              unfold pd at hsy
              go_wp2_with fail
              refine hsy.mono ?_
              rintro e w7 ⟨rfl, h7, _⟩
              clear hsy h6
              have hput := h7.put ((hx1.put oldN l2).sync.small (by omega)) newN (by decide) A3 c3 l3 (b3.below h7.bel) (Nat.le_trans e3 g3)
              unfold pd at hput
              go_wp2_with fail
              refine hput.mono ?_
              rintro e w8 ⟨rfl, h8, _⟩
              clear hput h7
              by_cases hq2 : ((y.put oldN l2).2.sync.2.put newN l3).1 = 0
              · have hsw := (swap_states HD1.out HQ1.out hq2).2
                have hfw := ((hx1.put oldN l2).sync.put newN l3)
                have e_ : (y.put oldN l2).2.sync.2.put newN l3 = (0, Sw y l2 l3) := hsw
                rw [e_] at h8 hfw ⊢
                have hsrt := hx1.srts
                have HSRT := Lib.hid hsrt
                clear hq2 hsw e_
                have hren := h8.rename (hfw.small (by omega)) newN oldN (by decide) (by decide)
                have hfr := hfw.rename newN oldN
                rw [swap_rename hsrt] at hren hfr
                unfold pd at hren
                go_wp2_with fail
                refine hren.mono ?_
                rintro e w9 ⟨rfl, h9, _⟩
                clear hren h8 hfw
                have hwa := h9.waits
                rw [show (if (Sr y l2 l3).down = true then (0 : Int) else ((Sr y l2 l3).waits.length : Int)) = 2 from rfl] at hwa
                have hcr := h9.crash hfr (by omega) keep torn
                rw [swap_crash hsrt] at hcr
                unfold pd at hwa hcr
                go_wp2_with (first
                  | (go_at_call 18; refine hwa.mono ?_; rintro e wz ⟨rfl, rfl⟩)
                  | (go_at_call 19; refine hcr.mono ?_; rintro e w10 ⟨rfl, h10, _⟩))
                clear hwa hcr h9
                have hst := h10.start
                rw [show Dk.start _ = (0, Sz y l2 l3 keep) from rfl] at hst
                unfold pd at hst
                refine hst.mono ?_
                rintro e w11 ⟨rfl, h11, _⟩
                have hfz : Fine (l1.length + 4) (Sz y l2 l3 keep) := by
                  have := (hfr.crash keep torn).start
                  rw [swap_crash hsrt] at this
                  exact this.mono (by omega)
                clear hst h10 hfr
                have hr1 := h11.tell (hfz.small (by omega)) oldN (by decide)
                rw [swap_old hsrt] at hr1
                unfold pd at hr1
                go_wp2_with fail
                refine hr1.mono ?_
                rintro e w12 ⟨A8, k8, K8, rfl, h12, i8, _, _, _⟩
                clear hr1 h11
                have hr2 := h12.tell (hfz.small (by omega)) newN (by decide)
                rw [swap_new hsrt HG.out] at hr2
                have hb2' := b2.below h12.bel
                have hb3' := b3.below h12.bel
                unfold pd at hr2
                clear hsrt hx1 hfz
                by_cases hk2 : 2 ≤ keep
                · rw [if_pos hk2] at i8
                  simp only [if_pos hk2]
                  rw [if_neg (by omega)] at hr2
                  have dk1 : decide (2 ≤ keep) = true := decide_eq_true hk2
                  have dk2 : (keep == 1) = false := by rw [beq_eq_false_iff_ne]; omega
                  go_wp2_with fail
                  refine hr2.mono ?_
                  rintro e w13 ⟨A9, k9, K9, rfl, h13, _, f9, _, hb13⟩
                  have i8' := f9 _ _ i8
                  have q8 := conv_in Try.underlying23 Try.underlying5 Try.underlying9 (P := Try.prog) i8'
                  have q3 := conv_str Try.underlying23 Try.underlying5 Try.underlying9 (P := Try.prog) (c := c3) (hb3'.below (hb13.mono (Nat.le_refl _))) rfl
                  clear hr2 i8 i8' f9 h12
                  have hcall := run_awake w13
                  have hbl := h13.bel
                  have hle := h13.le
                  clear h13
                  go_wp2_with (go_at_call 11; refine hcall.mono ?_; rintro e w14 ⟨rfl, hb14⟩)
                  go_ret
                  exact ⟨rfl, hbl.trans (hb14.mono hle)⟩
                · rw [if_neg hk2] at i8
                  simp only [if_neg hk2]
                  have dk1 : decide (2 ≤ keep) = false := decide_eq_false hk2
                  by_cases hk1 : keep = 1
                  · rw [if_pos hk1] at hr2
                    have dk2 : (keep == 1) = true := by simpa using hk1
                    clear hk1
                    go_wp2_with fail
                    refine hr2.mono ?_
                    rintro e w13 ⟨A9, k9, K9, rfl, h13, _, f9, _, hb13⟩
                    have i8' := f9 _ _ i8
                    have q8 := conv_in Try.underlying23 Try.underlying5 Try.underlying9 (P := Try.prog) i8'
                    have q2 := conv_str Try.underlying23 Try.underlying5 Try.underlying9 (P := Try.prog) (c := c2) (hb2'.below (hb13.mono (Nat.le_refl _))) rfl
                    clear hr2 i8 i8' f9 h12
                    have hcall := run_awake w13
                    have hbl := h13.bel
                    have hle := h13.le
                    clear h13
                    go_wp2_with (go_at_call 11; refine hcall.mono ?_; rintro e w14 ⟨rfl, hb14⟩)
                    go_ret
                    exact ⟨rfl, hbl.trans (hb14.mono hle)⟩
                  · rw [if_neg hk1] at hr2
                    have dk2 : (keep == 1) = false := by simpa using hk1
                    clear hk1
                    go_wp2_with fail
                    refine hr2.mono ?_
                    rintro e w13 ⟨A9, k9, K9, rfl, h13, _, f9, _, hb13⟩
                    have i8' := f9 _ _ i8
                    have q8 := conv_in Try.underlying23 Try.underlying5 Try.underlying9 (P := Try.prog) i8'
                    have q2 := conv_str Try.underlying23 Try.underlying5 Try.underlying9 (P := Try.prog) (c := c2) (hb2'.below (hb13.mono (Nat.le_refl _))) rfl
                    clear hr2 i8 i8' f9 h12
                    have hcall := run_awake w13
                    have hbl := h13.bel
                    have hle := h13.le
                    clear h13
                    go_wp2_with (go_at_call 11; refine hcall.mono ?_; rintro e w14 ⟨rfl, hb14⟩)
                    go_ret
                    exact ⟨rfl, hbl.trans (hb14.mono hle)⟩
              · have hq2' : (((y.put oldN l2).2.sync.2.put newN l3).1 != 0) = true := by simpa using hq2
                generalize ((y.put oldN l2).2.sync.2.put newN l3).1 = q2 at hq2' ⊢
                clear hq2
                go_wp2_with fail
                refine (run_awake _).mono ?_
                rintro e w9 ⟨rfl, hb9⟩
                go_wp2_with fail
                go_ret
                exact ⟨rfl, h8.bel.trans (hb9.mono h8.le)⟩
            · have hq1' : ((y.put oldN l2).1 != 0) = true := by simpa using hq1
              generalize (y.put oldN l2).1 = q1 at hq1' ⊢
              clear hq1
              go_wp2_with fail
              refine (run_awake _).mono ?_
              rintro e w7 ⟨rfl, hb7⟩
              go_wp2_with fail
              go_ret
              exact ⟨rfl, h6.bel.trans (hb7.mono h6.le)⟩
          · rw [hg, if_neg (by simp)] at hrd
            unfold pd at hrd
            refine hrd.mono ?_
            rintro e w5 ⟨A5, k5, K5, rfl, h5, _, _, _, hb5⟩
            clear hrd h4 hg
            go_wp2_with fail
            refine (run_awake _).mono ?_
            rintro e w6 ⟨rfl, hb6⟩
            go_wp2_with fail
            go_ret
            exact ⟨rfl, h5.bel.trans (hb6.mono h5.le)⟩
end Go.Proofs.Ytggdkhgpkedbkaa.DiskSwaps
