/- DiskCopies, walked. -/
import Derived.Test.YtggdkhgpkedbkaaDPlays
namespace Go.Proofs.Ytggdkhgpkedbkaa.DiskCopies
open Go.RowKit

def run (l : List Ac) (x : Dk) : Dk := l.foldl (fun x a => a.does x) x
theorem run_take {l : List Ac} {k : Nat} (hk : k < l.length) (x : Dk) : run (l.take (k + 1)) x = (l[k]).does (run (l.take k) x) := by
  unfold run
  rw [List.take_succ_eq_append_getElem hk, List.foldl_append]
  rfl
theorem twin5 {w0 w : World} {P : Nat → Prop} {M : List (Nat × Dk)} {m : Nat} {x : Dk} (h : RHeld w0 w P ((m, x) :: M)) (hw : w0.heap.size ≤ w.heap.size) : ∃ A n c B l g,
    Blk w m 66 #[.slice A n c, .slice B l g, .int .i64 x.cap, .int .u64 x.serial, .bool x.down] ∧
    RHeld w0 (w.alloc (.cells #[.slice A n c, .slice B l g, .int .i64 x.cap, .int .u64 x.serial, .bool x.down] 66)) (fun b => P b ∨ From w.heap.size (w.alloc (.cells #[.slice A n c, .slice B l g, .int .i64 x.cap, .int .u64 x.serial, .bool x.down] 66)) b) ((w.heap.size, x) :: (m, x) :: M) := by
  obtain ⟨vs, h1, h2⟩ := h.twin hw
  obtain ⟨R, ⟨A, ca, E, B, g, l, hr⟩, _⟩ := h.rat
  have e := h1.symm.trans hr.blk
  simp only [Option.some.injEq, Obj.cells.injEq] at e
  obtain ⟨rfl, _⟩ := e
  exact ⟨_, _, _, _, _, _, h1, h2⟩
set_option maxRecDepth 100000 in
set_option maxHeartbeats 32000000 in
theorem walk {w : World} (x0 : Int64) (A1 : Option Addr) (l1 : List Ac) (c1 : Nat) (b1 : Acts w A1 l1) (s1 : l1.length ≤ 9223372036854775806) (A2 : Option Addr) (l2 : List Ac) (c2 : Nat) (b2 : Acts w A2 l2) (s2 : l2.length ≤ 9223372036854775806) :
    Calls Try.prog 8 #[.int .i64 x0.toInt, .slice A1 l1.length c1, .slice A2 l2.length c2] w fun e w' => e = .returned (.bool true) ∧ Below w.heap.size w w' := by
  generalize x0.toInt = cap
  have hnew := (Held.nil w).new cap
  go_enter Try.func8, Try.ntmps8
  go_wp2_with fail
  refine hnew.mono ?_
  rintro e w1 ⟨hb1, hp⟩
  have hrn := (RHeld.nil w w1 (fun _ => False)).new hb1.size cap
  clear hnew
  rcases hp with ⟨hbad, rfl⟩ | ⟨hcap, d, rfl, h1⟩
  · have HBAD := Lib.hid hbad
    clear hbad
    go_wp2_with fail
    refine hrn.mono ?_
    rintro e w3 (⟨_, rfl, rfl⟩ | ⟨hc, _⟩)
    · clear hrn
      go_wp2_with fail
      refine (run_awake _).mono ?_
      rintro e w3 ⟨rfl, hb3⟩
      go_wp2_with fail
      go_ret
      exact ⟨rfl, hb1.trans (hb3.mono hb1.size)⟩
    · have := HBAD.out
      omega
  unfold pd
  go_wp2_with fail
  refine hrn.mono ?_
  rintro e w2 (⟨hc, _, _⟩ | ⟨_, m, rfl, hr, hb2⟩)
  · omega
  have hB2 : Both w w2 (fun b => False ∨ From w1.heap.size w2 b) (fun b => False ∨ From w1.heap.size w2 b) [(d, Dk.new cap)] [(m, Dk.new cap)] := ⟨h1.below hb2, hr, fun _ h => h⟩
  have hb12 := hb1.trans (hb2.mono hb1.size)
  have hmany := many_any A1 c1 l1 w2 (b1.below hb12) s1
  have HB2 := Lib.hid hB2
  clear hrn hr hB2 h1 hb1 hb2
  by_cases hm : 400 < costs l1
  · rw [decide_eq_true hm] at hmany
    clear hm
    go_wp2_with fail
    refine hmany.mono ?_
    rintro e w3 ⟨rfl, hb3⟩
    go_wp2_with fail
    refine (run_awake _).mono ?_
    rintro e w4 ⟨rfl, hb4⟩
    go_wp2_with fail
    go_ret
    exact ⟨rfl, (hb12.trans (hb3.mono hb12.size)).trans (hb4.mono (Nat.le_trans hb12.size hb3.size))⟩
  rw [decide_eq_false hm] at hmany
  have hlen : l1.length ≤ 400 := by have := costs_len l1; omega
  have HM1 := Lib.hid hm
  clear hm
  go_wp2_with fail
  refine hmany.mono ?_
  rintro e w3 ⟨rfl, hb3⟩
  have hb13 := hb12.trans (hb3.mono hb12.size)
  have hmany2 := many_any A2 c2 l2 w3 (b2.below hb13) s2
  have HB3 := Lib.hid (HB2.out.below hb3)
  clear hmany HB2 hb12 hb3
  by_cases hm : 400 < costs l2
  · rw [decide_eq_true hm] at hmany2
    clear hm
    go_wp2_with fail
    refine hmany2.mono ?_
    rintro e w4 ⟨rfl, hb4⟩
    go_wp2_with fail
    refine (run_awake _).mono ?_
    rintro e w5 ⟨rfl, hb5⟩
    go_wp2_with fail
    go_ret
    exact ⟨rfl, (hb13.trans (hb4.mono hb13.size)).trans (hb5.mono (Nat.le_trans hb13.size hb4.size))⟩
  rw [decide_eq_false hm] at hmany2
  have hlen2 : l2.length ≤ 400 := by have := costs_len l2; omega
  have HM2 := Lib.hid hm
  clear hm
  go_wp2_with fail
  refine hmany2.mono ?_
  rintro e w4 ⟨rfl, hb4⟩
  have HB4 := Lib.hid (HB3.out.below hb4)
  clear hmany2 HB3 hb13 hb4
  go_wp2_with fail
  go_loopw [10] (fun i wr => ∃ (k : Nat) (x : Dk) (K P : Nat → Prop), k ≤ l1.length ∧ i = .int .i64 k ∧ Both w wr K P [(d, x)] [(m, x)] ∧ Fine k x ∧ Nms x) (fun i _ => l1.length - (intOf i).toNat)
  case atStart => exact ⟨0, _, _, _, by omega, rfl, HB4.out, Fine.new hcap.1 hcap.2, Nms.new _⟩
  case round =>
    obtain ⟨k, x, K, P, hk, rfl, hB, hx, hnm⟩ := hrel
    clear HB4
    by_cases hlt : k < l1.length
    · have hbel := hB.real.bel
      obtain ⟨b, o, rfl, had, c0, c1', c2', c3, c4, c5⟩ := (b1.below hbel).at_ hlt
      have hab := cost_b HM1.out hlt
      have ha := b1.2 _ (List.getElem_mem hlt)
      have hx' := hx.act l1[k]
      have hnm' := hnm.act l1[k]
      generalize l1[k] = a at c0 c1' c2' c3 c4 c5 hab ha hx' hnm'
      have hdo := act_any hB hx (by omega) a ha hab
      have HX := Lib.hid hx'
      have HNM := Lib.hid hnm'
      unfold pd Ac.val at hdo
      clear hx hnm hB hx' hnm'
      go_wp2_with fail
      refine hdo.mono ?_
      rintro e w5 ⟨rfl, K5, P5, hB5⟩
      have HB5 := Lib.hid hB5
      clear hdo hB5 c0 c1' c2' c3 c4 c5
      go_wp2_with fail
      go_roundw
      case rel => exact ⟨k + 1, _, _, _, by omega, by go_num, HB5.out, HX.out, HNM.out⟩
      case measure => simp [intOf]; omega
    obtain rfl : k = l1.length := by omega
    have hcp := hB.real.copy (hx.small (by omega))
    have HX := Lib.hid hx
    have HNM := Lib.hid hnm
    have HB := Lib.hid hB
    unfold pd at hcp
    clear hx hnm hB hlt hk
    go_wp2_with fail
    refine hcp.mono ?_
    rintro e w5 ⟨c, rfl, h5, hb5⟩
    obtain ⟨Ar, nr, cr, Br, lr, gr, hbk, htw⟩ := twin5 (HB.out.doc.below hb5) h5.le
    have q0 := hbk.cell 0
    have q1 := hbk.cell 1
    have q2 := hbk.cell 2
    have q3 := hbk.cell 3
    have q4 := hbk.cell 4
    simp only [List.getElem?_toArray, List.getElem?_cons_zero, List.getElem?_cons_succ] at q0 q1 q2 q3 q4
    have hbn := below_new w5 (.cells #[.slice Ar nr cr, .slice Br lr gr, .int .i64 x.cap, .int .u64 x.serial, .bool x.down] 66)
    have h6 := h5.below hbn
    have hkp : ∀ b, P b → K b := HB.out.sub
    have hB6 : Both w (w5.alloc (.cells #[.slice Ar nr cr, .slice Br lr gr, .int .i64 x.cap, .int .u64 x.serial, .bool x.down] 66)) _ _ [(d, x), (c, x)] [(m, x), (w5.heap.size, x)] := ⟨h6.perm (List.Perm.swap _ _ _), htw.perm (List.Perm.swap _ _ _), fun b hb => hb.imp (hkp b) id⟩
    have HB6 := Lib.hid hB6
    clear hcp h5 h6 hbk htw hbn hB6 HB hb5
    go_wp2_with fail
    generalize w5.alloc (.cells #[.slice Ar nr cr, .slice Br lr gr, .int .i64 x.cap, .int .u64 x.serial, .bool x.down] 66) = w6 at *
    generalize w5.heap.size = was at *
    clear q0 q1 q2 q3 q4
    obtain ⟨N0, hN0⟩ : ∃ N0, N0 = l1.length := ⟨_, rfl⟩
    rw [← hN0] at HX hlen
    clear hN0
    go_loopw [13] (fun i wr => ∃ (k : Nat) (K P : Nat → Prop), k ≤ l2.length ∧ i = .int .i64 k ∧ Both w wr K P [(d, run (l2.take k) x), (c, x)] [(m, run (l2.take k) x), (was, x)] ∧ Fine (N0 + k) (run (l2.take k) x) ∧ Nms (run (l2.take k) x)) (fun i _ => l2.length - (intOf i).toNat)
    case atStart => exact ⟨0, _, _, by omega, rfl, HB6.out, HX.out, HNM.out⟩
    case round =>
      obtain ⟨k, K, P, hk, rfl, hB, hx, hnm⟩ := hrel
      clear HB6
      by_cases hlt : k < l2.length
      · have hbel := hB.real.bel
        obtain ⟨b, o, rfl, had, c0, c1', c2', c3, c4, c5⟩ := (b2.below hbel).at_ hlt
        have hab := cost_b HM2.out hlt
        have ha := b2.2 _ (List.getElem_mem hlt)
        have hx' := hx.act l2[k]
        have hnm' := hnm.act l2[k]
        have HRT := Lib.hid (run_take hlt x)
        generalize l2[k] = a at c0 c1' c2' c3 c4 c5 hab ha hx' hnm' HRT
        have hdo := act_any hB hx (by omega) a ha hab
        rw [← HRT.out] at hdo hx' hnm'
        have HX' := Lib.hid hx'
        have HNM' := Lib.hid hnm'
        unfold pd Ac.val at hdo
        clear hx hnm hB hx' hnm'
        go_wp2_with fail
        refine hdo.mono ?_
        rintro e w7 ⟨rfl, K7, P7, hB7⟩
        have HB7 := Lib.hid hB7
        clear hdo hB7 c0 c1' c2' c3 c4 c5
        go_wp2_with fail
        go_roundw
        case rel => exact ⟨k + 1, _, _, by omega, by go_num, HB7.out, HX'.out, HNM'.out⟩
        case measure => simp [intOf]; omega
      obtain rfl : k = l2.length := by omega
      have hBp : Both w wr K P [(c, x), (d, run (l2.take l2.length) x)] [(was, x), (m, run (l2.take l2.length) x)] := ⟨hB.real.perm (List.Perm.swap _ _ _), hB.doc.perm (List.Perm.swap _ _ _), hB.sub⟩
      have hst := stands_any hBp HX.out (by omega) HNM.out
      have HBP := Lib.hid hBp
      have HXY := Lib.hid hx
      have HNY := Lib.hid hnm
      unfold pd at hst
      clear hB hBp hx hnm hlt hk
      obtain ⟨wo, hwo⟩ : ∃ wo : World, wo = wr := ⟨_, rfl⟩
      rw [← hwo] at HBP hst ⊢
      clear hwo
      go_wp2_with fail
      refine hst.mono ?_
      rintro e w8 ⟨rfl, hb8⟩
      have HB8 := Lib.hid (HBP.out.below hb8)
      clear hst hb8 HBP
      obtain ⟨y, hy⟩ : ∃ y, y = run (l2.take l2.length) x := ⟨_, rfl⟩
      have HY := Lib.hid hy
      rw [← hy] at HB8 HXY HNY
      clear hy
      go_wp2_with fail
      go_loopw [14] (fun i wr => ∃ (k : Nat) (K P : Nat → Prop), k ≤ l2.length ∧ i = .int .i64 k ∧ Both w wr K P [(c, run (l2.take k) x), (d, y)] [(was, run (l2.take k) x), (m, y)] ∧ Fine (N0 + k) (run (l2.take k) x) ∧ Nms (run (l2.take k) x)) (fun i _ => l2.length - (intOf i).toNat)
      case atStart => exact ⟨0, _, _, by omega, rfl, HB8.out, HX.out, HNM.out⟩
      case round =>
        obtain ⟨k, K, P, hk, rfl, hB, hx, hnm⟩ := hrel
        clear HB8
        by_cases hlt : k < l2.length
        · have hbel := hB.real.bel
          obtain ⟨b, o, rfl, had, c0, c1', c2', c3, c4, c5⟩ := (b2.below hbel).at_ hlt
          have hab := cost_b HM2.out hlt
          have ha := b2.2 _ (List.getElem_mem hlt)
          have hx' := hx.act l2[k]
          have hnm' := hnm.act l2[k]
          have HRT := Lib.hid (run_take hlt x)
          generalize l2[k] = a at c0 c1' c2' c3 c4 c5 hab ha hx' hnm' HRT
          have hdo := act_any hB hx (by omega) a ha hab
          rw [← HRT.out] at hdo hx' hnm'
          have HX' := Lib.hid hx'
          have HNM' := Lib.hid hnm'
          unfold pd Ac.val at hdo
          clear hx hnm hB hx' hnm'
          go_wp2_with fail
          refine hdo.mono ?_
          rintro e w9 ⟨rfl, K9, P9, hB9⟩
          have HB9 := Lib.hid hB9
          clear hdo hB9 c0 c1' c2' c3 c4 c5
          go_wp2_with fail
          go_roundw
          case rel => exact ⟨k + 1, _, _, by omega, by go_num, HB9.out, HX'.out, HNM'.out⟩
          case measure => simp [intOf]; omega
        obtain rfl : k = l2.length := by omega
        rw [← HY.out] at hB
        have hBp : Both w wr K P [(c, y), (d, y)] [(m, y), (was, y)] := ⟨hB.real, hB.doc.perm (List.Perm.swap _ _ _), hB.sub⟩
        have hst := stands_any hBp HXY.out (by omega) HNY.out
        have HBQ : Hid (Both w wr K P [(d, y), (c, y)] [(was, y), (m, y)]) := ⟨hB.real.perm (List.Perm.swap _ _ _), hB.doc, hB.sub⟩
        unfold pd at hst
        clear hB hBp hx hnm hlt hk
        go_wp2_with fail
        refine hst.mono ?_
        rintro e wa ⟨rfl, hba⟩
        have hBa := HBQ.out.below hba
        have hst2 := stands_any hBa HXY.out (by omega) HNY.out
        have HBE := Lib.hid hBa.real.bel
        unfold pd at hst2
        clear hst hBa hba HBQ
        go_wp2_with fail
        refine hst2.mono ?_
        rintro e wb ⟨rfl, hbb⟩
        clear hst2
        go_wp2_with fail
        refine (run_awake _).mono ?_
        rintro e wc ⟨rfl, hbc⟩
        go_wp2_with fail
        go_ret
        exact ⟨rfl, (HBE.out.trans (hbb.mono HBE.out.size)).trans (hbc.mono (Nat.le_trans HBE.out.size hbb.size))⟩
end Go.Proofs.Ytggdkhgpkedbkaa.DiskCopies
