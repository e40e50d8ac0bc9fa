/- DiskPlays, walked. -/
import Derived.Test.YtggdkhgpkedbkaaRdM
namespace Go.Proofs.Ytggdkhgpkedbkaa
open Go.RowKit
theorem cost_b {l : List Ac} (h : ¬ 400 < costs l) {k : Nat} (hk : k < l.length) : l[k].b.length ≤ 1000000 := by
  have h1 := costs_take hk
  have h2 := costs_le l (k + 1)
  have h3 : l[k].cost ≤ 400 := by omega
  unfold Ac.cost at h3
  omega
end Go.Proofs.Ytggdkhgpkedbkaa
namespace Go.Proofs.Ytggdkhgpkedbkaa.DiskPlays
open Go.RowKit

set_option maxRecDepth 100000 in
set_option maxHeartbeats 32000000 in
theorem walk {w : World} (x0 : Int64) (A1 : Option Addr) (l1 : List Ac) (c1 : Nat) (b1 : Acts w A1 l1) (s1 : l1.length ≤ 9223372036854775806) :
    Calls Try.prog 6 #[.int .i64 x0.toInt, .slice A1 l1.length c1] w fun e w' => e = .returned (.bool true) ∧ Below w.heap.size w w' := by
  generalize x0.toInt = cap
  have kc := fun (w : World) (C : Array Value) (n c : Nat) => Lib.run_convert_bytes_const (P := Try.prog) w 23 5 C n c Try.underlying23 Try.underlying5
  have hmany := many_any A1 c1 l1 w b1 s1
  by_cases hm : 400 < costs l1
  · rw [decide_eq_true hm] at hmany
    go_enter Try.func6, Try.ntmps6
    go_wp2_with fail
    refine hmany.mono ?_
    rintro e w1 ⟨rfl, hb1⟩
    go_wp2_with fail
    refine (run_awake _).mono ?_
    rintro e w2 ⟨rfl, hb2⟩
    go_wp2_with fail
    go_ret
    exact ⟨rfl, hb1.trans (hb2.mono hb1.size)⟩
  rw [decide_eq_false hm] at hmany
  have hlen : l1.length ≤ 400 := by have := costs_len l1; omega
  have HM := Lib.hid hm
  clear hm
  go_enter Try.func6, Try.ntmps6
  go_wp2_with fail
  refine hmany.mono ?_
  rintro e w1 ⟨rfl, hb1⟩
  have h1 : Held w w1 (fun _ => False) [] := ((Held.nil w).below hb1).less fun _ e => e.elim
  have hnew := h1.new cap
  clear hmany
  go_wp2_with fail
  refine hnew.mono ?_
  rintro e w2 ⟨hb2, hp⟩
  have hb12 := hb1.trans (hb2.mono hb1.size)
  have hrn := (RHeld.nil w w2 (fun _ => False)).new hb12.size cap
  clear hnew h1
  rcases hp with ⟨hbad, rfl⟩ | ⟨hcap, d0, rfl, h2⟩
  · have HBAD := Lib.hid hbad
    clear hbad
    go_wp2_with fail
    refine hrn.mono ?_
    rintro e w3 (⟨_, rfl, rfl⟩ | ⟨hc, _⟩)
    · clear hrn
      go_wp2_with fail
      refine (run_awake _).mono ?_
      rintro e w3 ⟨rfl, hb3⟩
      go_wp2_with fail
      go_ret
      exact ⟨rfl, hb12.trans (hb3.mono hb12.size)⟩
    · have := HBAD.out
      omega
  unfold pd
  go_wp2_with fail
  refine hrn.mono ?_
  rintro e w3 (⟨hc, _, _⟩ | ⟨_, m, rfl, hr, hb3⟩)
  · omega
  have hB3 : Both w w3 (fun b => False ∨ From w2.heap.size w3 b) (fun b => False ∨ From w2.heap.size w3 b) [(d0, Dk.new cap)] [(m, Dk.new cap)] := ⟨h2.below hb3, hr, fun _ h => h⟩
  have HB3 := Lib.hid hB3
  clear hrn hr hB3 h2
  go_wp2_with fail
  go_loopw [5, 8] (fun v i wr => ∃ (k : Nat) (x : Dk) (d : Nat) (K P : Nat → Prop), k ≤ l1.length ∧ i = .int .i64 k ∧ v = .pointer (some ⟨d, 0, none⟩) ∧ Both w wr K P [(d, x)] [(m, x)] ∧ Fine k x ∧ Nms x) (fun _ i _ => l1.length - (intOf i).toNat)
  case atStart => exact ⟨0, _, d0, _, _, by omega, rfl, rfl, HB3.out, Fine.new hcap.1 hcap.2, Nms.new _⟩
  case round =>
    obtain ⟨k, x, d, K, P, hk, rfl, rfl, hB, hx, hnm⟩ := hrel
    clear HB3
    by_cases hlt : k < l1.length
    · have hbel := hB.real.bel
      obtain ⟨b, o, rfl, had, c0, c1', c2, c3, c4, c5⟩ := (b1.below hbel).at_ hlt
      have hab := cost_b HM.out hlt
      have ha := b1.2 _ (List.getElem_mem hlt)
      have hx' := hx.act l1[k]
      have hnm' := hnm.act l1[k]
      have hsm := hx.small (by omega)
      generalize l1[k] = a at c0 c1' c2 c3 c4 c5 hab ha hx' hnm'
      by_cases h9 : a.k.toInt = 9
      · rw [h9] at c0
        have hcp := hB.real.copy hsm
        have HX := Lib.hid hx
        have HNM := Lib.hid hnm
        have HB := Lib.hid hB
        unfold pd at hcp
        clear h9 hx hnm hB hx' hnm'
        go_wp2_with fail
        refine hcp.mono ?_
        rintro e w4 ⟨d', rfl, h4, hb4⟩
        clear hcp c0 c1' c2 c3 c4 c5
        have hD4 := HB.out.doc.below hb4
        go_wp2_with fail
        have h5 := (h4.perm (List.Perm.swap _ _ _)).new_block (.cells #[.int .u8 99, .int .u8 111, .int .u8 112, .int .u8 105, .int .u8 101, .int .u8 100] 5 (6, 7))
        have hD5 := hD4.below (below_new w4 (.cells #[.int .u8 99, .int .u8 111, .int .u8 112, .int .u8 105, .int .u8 101, .int .u8 100] 5 (6, 7)))
        have hby := Bytes.block w4 5 [99, 111, 112, 105, 101, 100] #[.int .u8 99, .int .u8 111, .int .u8 112, .int .u8 105, .int .u8 101, .int .u8 100] (6, 7) rfl
        have hap := h5.append hsm [97] (by decide) (some ⟨w4.heap.size, 0, none⟩) 6 [99, 111, 112, 105, 101, 100] hby (by decide)
        have hfy := HX.out.append [97] [99, 111, 112, 105, 101, 100]
        unfold pd at hap
        refine hap.mono ?_
        generalize x.append [97] [99, 111, 112, 105, 101, 100] = y at *
        rintro e w6 ⟨rfl, h6, k6⟩
        clear h4 h5 hap hby
        have hwp := h6.wipe (hfy.small (by omega))
        unfold pd at hwp
        go_wp2_with fail
        refine hwp.mono ?_
        rintro e w7 ⟨rfl, h7, k7⟩
        have HB7 : Hid (Both w w7 K P [(d', x)] [(m, x)]) := ⟨h7.drop (List.sublist_cons_self _ _), (hD5.kept k6 HB.out.sub).kept k7 HB.out.sub, HB.out.sub⟩
        clear h6 h7 k6 k7 hwp hfy hD4 hD5
        go_wp2_with fail
        go_roundw
        case rel => exact ⟨k + 1, x, d', _, _, by omega, by go_num, rfl, HB7.out, HX.out.mono (by omega), HNM.out⟩
        case measure => simp [intOf]; omega
      · have h9' : (a.k.toInt == 9) = false := by simpa using h9
        have hdo := act_any hB hx (by omega) a ha hab
        have HX := Lib.hid hx'
        have HNM := Lib.hid hnm'
        unfold pd Ac.val at hdo
        clear h9 hx hnm hB hx' hnm' hsm
        go_wp2_with fail
        refine hdo.mono ?_
        rintro e w4 ⟨rfl, K4, P4, hB4⟩
        have hst := stands_any hB4 HX.out (by omega) HNM.out
        have HB4 := Lib.hid hB4
        unfold pd at hst
        clear hdo hB4 c0 c1' c2 c3 c4 c5
        go_wp2_with fail
        refine hst.mono ?_
        rintro e w5 ⟨rfl, hb5⟩
        have HB5 := Lib.hid (HB4.out.below hb5)
        clear hst hb5
        go_wp2_with fail
        go_roundw
        case rel => exact ⟨k + 1, _, d, _, _, by omega, by go_num, rfl, HB5.out, HX.out, HNM.out⟩
        case measure => simp [intOf]; omega
    · have hbel := hB.real.bel
      clear hB hx hnm
      go_wp2_with fail
      refine (run_awake _).mono ?_
      rintro e w5 ⟨rfl, hb5⟩
      go_wp2_with fail
      go_ret
      exact ⟨rfl, hbel.trans (hb5.mono hbel.size)⟩
end Go.Proofs.Ytggdkhgpkedbkaa.DiskPlays
