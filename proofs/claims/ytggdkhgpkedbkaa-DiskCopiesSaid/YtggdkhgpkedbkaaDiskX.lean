/- The chapter's examples, walked. -/
import Derived.Test.YtggdkhgpkedbkaaDiskW
namespace Go.Proofs.Ytggdkhgpkedbkaa
open Go.RowKit

set_option maxRecDepth 100000 in
set_option maxHeartbeats 8000000 in
theorem run_awake (w : World) : Calls Try.prog 11 #[] w fun e w' => e = .returned (.bool true) ∧ Below w.heap.size w w' := by
  have h0 := Held.nil w
  have hnew := h0.new 10
  have kc := fun (w : World) (C : Array Value) (n c : Nat) => Lib.run_convert_bytes_const (P := Try.prog) w 23 5 C n c Try.underlying23 Try.underlying5
  go_enter Try.func11, Try.ntmps11
  go_wp2_with fail
  refine hnew.mono ?_
  rintro e w1 ⟨_, ⟨h, _⟩ | ⟨_, d, rfl, h1⟩⟩
  · omega
  clear h0 hnew
  unfold pd
  go_wp2_with fail
  have h1 := h1.new_block (.cells #[.int .u8 120, .int .u8 121] 5 (2, 3))
  have hb := Bytes.block w1 5 [120, 121] #[.int .u8 120, .int .u8 121] (2, 3) rfl
  have hc := h1.append m0 [97] (by decide) (some ⟨w1.heap.size, 0, none⟩) 2 [120, 121] hb (by decide)
  rw [e1] at hc
  unfold pd at hc
  refine hc.mono ?_
  rintro e w2 ⟨rfl, h2, _⟩
  clear h1 hb hc
  go_wp2_with fail
  have h2 := h2.new_block (.cells #[.int .u8 122] 5 (1, 2))
  have hb := Bytes.block w2 5 [122] #[.int .u8 122] (1, 2) rfl
  have hc := h2.append m1 [97] (by decide) (some ⟨w2.heap.size, 0, none⟩) 1 [122] hb (by decide)
  rw [e2] at hc
  unfold pd at hc
  refine hc.mono ?_
  rintro e w3 ⟨rfl, h3, _⟩
  clear h2 hb hc
  go_wp2_with fail
  have hc := h3.tell m2 [97] (by decide)
  rw [e3] at hc
  unfold pd at hc
  refine hc.mono ?_
  rintro e w4 ⟨A1, c1, K4, rfl, h4, b1, _, _, _⟩
  clear h3 hc
  go_wp2_with fail
  have hc := h4.waits
  unfold pd at hc
  refine hc.mono ?_
  rintro e w5 ⟨rfl, rfl⟩
  clear hc
  have hd2 : (if S2.down = true then (0 : Int) else (S2.waits.length : Int)) = 2 := rfl
  rw [hd2]
  clear hd2
  go_wp2_with fail
  have h4 := h4.new_block (.cells #[.int .u8 49, .int .u8 50, .int .u8 51, .int .u8 52, .int .u8 53, .int .u8 54, .int .u8 55, .int .u8 56] 5 (8, 9))
  have hb := Bytes.block w4 5 [49, 50, 51, 52, 53, 54, 55, 56] #[.int .u8 49, .int .u8 50, .int .u8 51, .int .u8 52, .int .u8 53, .int .u8 54, .int .u8 55, .int .u8 56] (8, 9) rfl
  have hc := h4.append m2 [98] (by decide) (some ⟨w4.heap.size, 0, none⟩) 8 [49, 50, 51, 52, 53, 54, 55, 56] hb (by decide)
  rw [e4] at hc
  unfold pd at hc
  refine hc.mono ?_
  rintro e w6 ⟨rfl, h6, k6⟩
  have b1 := (b1.alloc_ _).kept k6
  clear h4 hb hc k6
  go_wp2_with fail
  have hc := h6.copy m2
  unfold pd at hc
  refine hc.mono ?_
  rintro e w7 ⟨c, rfl, h7, bel7⟩
  have h7 := h7.perm (List.Perm.swap _ _ _)
  have b1 := b1.below_ bel7
  clear h6 hc bel7
  unfold pd at *
  go_wp2_with fail
  have hc := h7.crash g2 (by decide) 1 0
  rw [e5] at hc
  unfold pd at hc
  refine hc.mono ?_
  rintro e w8 ⟨rfl, h8, k8⟩
  have b1 := b1.kept k8
  clear h7 hc k8
  go_wp2_with fail
  have hc := h8.tell m3 [97] (by decide)
  rw [e6] at hc
  unfold pd at hc
  refine hc.mono ?_
  rintro e w9 ⟨A2, c2, K9, rfl, h9, _, f9, _, _⟩
  have b1 := f9 _ _ b1
  clear h8 hc f9
  go_wp2_with fail
  have hc := h9.start
  rw [e7] at hc
  unfold pd at hc
  refine hc.mono ?_
  rintro e w10 ⟨rfl, h10, k10⟩
  have b1 := b1.kept k10
  clear h9 hc k10
  go_wp2_with fail
  have hc := h10.tell m4 [97] (by decide)
  rw [e8] at hc
  unfold pd at hc
  refine hc.mono ?_
  rintro e w11 ⟨A3, c3, K11, rfl, h11, b3, f11, _, _⟩
  have b1 := f11 _ _ b1
  clear h10 hc f11
  have h11 := h11.perm (List.Perm.swap _ _ _)
  go_wp2_with fail
  have hc := h11.crash g2 (by decide) 0 1
  rw [e9] at hc
  unfold pd at hc
  refine hc.mono ?_
  rintro e w12 ⟨rfl, h12, k12⟩
  have b1 := b1.kept k12
  have b3 := b3.kept k12
  clear h11 hc k12
  go_wp2_with fail
  have hc := h12.start
  rw [e10] at hc
  unfold pd at hc
  refine hc.mono ?_
  rintro e w13 ⟨rfl, h13, k13⟩
  have b1 := b1.kept k13
  have b3 := b3.kept k13
  clear h12 hc k13
  go_wp2_with fail
  have hc := h13.tell m6 [97] (by decide)
  rw [e11] at hc
  unfold pd at hc
  refine hc.mono ?_
  rintro e w14 ⟨A4, c4, K14, rfl, h14, b4, f14, _, _⟩
  have b1 := f14 _ _ b1
  have b3 := f14 _ _ b3
  clear h13 hc f14
  have h14 := h14.perm (List.Perm.swap _ _ _)
  go_wp2_with fail
  have hc := h14.wipe m4
  rw [e12] at hc
  unfold pd at hc
  refine hc.mono ?_
  rintro e w15 ⟨rfl, h15, k15⟩
  have b1 := b1.kept k15
  have b3 := b3.kept k15
  have b4 := b4.kept k15
  clear h14 hc k15
  have hq1 := conv_in Try.underlying23 Try.underlying5 Try.underlying9 (P := Try.prog) (n := 3) b1
  have hq3 := conv_in Try.underlying23 Try.underlying5 Try.underlying9 (P := Try.prog) (n := 2) b3
  have hq4 := conv_in Try.underlying23 Try.underlying5 Try.underlying9 (P := Try.prog) (n := 1) b4
  have hs1 := h15.serial
  have hs2 := h15.size [97] (by decide)
  have hz : (if S7.down = true then (0 : Int) else (flen [97] S7.seen : Int)) = 0 := by kernel_rfl
  rw [hz] at hs2
  have hz2 : S7.serial = 2 := rfl
  rw [hz2] at hs1
  clear hz hz2 b1 b3 b4
  unfold pd at hs1 hs2
  go_wp2_with (first
    | (go_at_call 32; refine hs1.mono ?_; rintro e w16 ⟨rfl, rfl⟩)
    | (go_at_call 31; refine hs2.mono ?_; rintro e w16 ⟨rfl, rfl⟩))
  go_ret
  exact ⟨rfl, h15.bel⟩
end Go.Proofs.Ytggdkhgpkedbkaa
