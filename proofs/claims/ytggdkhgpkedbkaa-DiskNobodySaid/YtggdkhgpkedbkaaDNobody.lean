/- DiskNobody, walked. -/
import Derived.Test.YtggdkhgpkedbkaaNobody
namespace Go.Proofs.Ytggdkhgpkedbkaa.DiskNobody
open Go.RowKit

set_option maxRecDepth 100000 in
set_option maxHeartbeats 16000000 in
theorem walk {w : World} (m : Ac) (hm : m.ok w) : Calls Try.prog 7 #[m.val] w fun e w' => e = .returned (.bool true) ∧ Below w.heap.size w w' := by
  have hnn : Nok m.n := Nat.le_trans hm.ln (by decide)
  have hnt : Nok m.t := Nat.le_trans hm.lt (by decide)
  clear hm
  have hbx := below_new w (.cells m.cells.toArray 32)
  have hk0 := Blk.new w 32 m.cells.toArray
  have hk1 := Blk.new (w.alloc (.cells m.cells.toArray 32)) 58 #[.map none, .map none, .slice none 0 0, .int .i64 0, .int .u64 0, .bool false]
  have hk2 := Blk.new ((w.alloc (.cells m.cells.toArray 32)).alloc (.cells #[.map none, .map none, .slice none 0 0, .int .i64 0, .int .u64 0, .bool false] 58)) 24 #[.pointer none, .pointer (some ⟨w.heap.size + 1, 0, none⟩)]
  have hk0' := (hk0.alloc (.cells #[.map none, .map none, .slice none 0 0, .int .i64 0, .int .u64 0, .bool false] 58)).alloc (.cells #[.pointer none, .pointer (some ⟨w.heap.size + 1, 0, none⟩)] 24)
  have hk1' := hk1.alloc (.cells #[.pointer none, .pointer (some ⟨w.heap.size + 1, 0, none⟩)] 24)
  rw [alloc_size] at hk1'
  rw [alloc_size, alloc_size] at hk2
  have hb3 : Below w.heap.size w (((w.alloc (.cells m.cells.toArray 32)).alloc (.cells #[.map none, .map none, .slice none 0 0, .int .i64 0, .int .u64 0, .bool false] 58)).alloc (.cells #[.pointer none, .pointer (some ⟨w.heap.size + 1, 0, none⟩)] 24)) := (hbx.alloc (by simp) _).alloc (by simp; omega) _
  have hz3 : (((w.alloc (.cells m.cells.toArray 32)).alloc (.cells #[.map none, .map none, .slice none 0 0, .int .i64 0, .int .u64 0, .bool false] 58)).alloc (.cells #[.pointer none, .pointer (some ⟨w.heap.size + 1, 0, none⟩)] 24)).heap.size = w.heap.size + 3 := by simp
  unfold Ac.val
  unfold Ac.cells at *
  generalize m.k.toInt = k0 at *
  generalize m.n = nm at *
  generalize m.t = nt at *
  generalize m.b.length = bl at *
  generalize m.p.toInt = p0 at *
  generalize m.q.toInt = q0 at *
  generalize m.A = A0 at *
  generalize m.c = cc at *
  go_enter Try.func7, Try.ntmps7
  go_wp2_with fail
  generalize hW : (((w.alloc (.cells #[.int .i64 k0, .string ⟨nm.toArray⟩, .string ⟨nt.toArray⟩, .slice A0 bl cc, .int .i64 p0, .int .i64 q0] 32)).alloc (.cells #[.map none, .map none, .slice none 0 0, .int .i64 0, .int .u64 0, .bool false] 58)).alloc (.cells #[.pointer none, .pointer (some ⟨w.heap.size + 1, 0, none⟩)] 24)) = W at *
  have HZ := Lib.hid hz3
  clear hW hk0 hk1 hz3 hbx
  go_loopw [5] (fun i wr => ∃ k : Nat, k ≤ 2 ∧ i = .int .i64 k ∧ Below W.heap.size W wr) (fun i _ => 2 - (intOf i).toNat)
  case atStart => exact ⟨0, by omega, rfl, Below.refl _ _⟩
  case round =>
    obtain ⟨k, hk, rfl, hb⟩ := hrel
    have hsz := HZ.out
    by_cases hlt : k < 2
    · have r0 := Blk.below hk0' hb hk0'.lt
      have r1 := Blk.below hk1' hb hk1'.lt
      have r2 := Blk.below hk2 hb hk2.lt
      obtain ⟨v, hv, hN⟩ : ∃ v, wr.cell? ⟨w.heap.size + 1 + 1, k, none⟩ = some v ∧ Nix wr v := by
        have h2 := r2.cell k
        match k, hlt, h2 with
        | 0, _, h2 => exact ⟨_, h2, .inl rfl⟩
        | 1, _, h2 => exact ⟨_, h2, .inr ⟨_, rfl, r1⟩⟩
      have B0 : Below wr.heap.size wr wr := Below.refl _ _
      have hkl := r0.lt
      clear r1 r2
      have q1 : wr.cell? ⟨w.heap.size, 1, none⟩ = some (.string ⟨nm.toArray⟩) := (Blk.below r0 B0 hkl).cell 1
      have q2 : wr.cell? ⟨w.heap.size, 2, none⟩ = some (.string ⟨nt.toArray⟩) := (Blk.below r0 B0 hkl).cell 2
      have q3 : wr.cell? ⟨w.heap.size, 3, none⟩ = some (.slice A0 bl cc) := (Blk.below r0 B0 hkl).cell 3
      have q4 : wr.cell? ⟨w.heap.size, 4, none⟩ = some (.int .i64 p0) := (Blk.below r0 B0 hkl).cell 4
      have q5 : wr.cell? ⟨w.heap.size, 5, none⟩ = some (.int .i64 q0) := (Blk.below r0 B0 hkl).cell 5
      have hc := nix_read (hN.below B0) nm hnn
      go_wp2_with fail
      refine hc.mono ?_
      rintro e w1 ⟨rfl, hb'⟩
      have B1 : Below wr.heap.size wr w1 := B0.trans (hb'.mono B0.size)
      clear hc hb' q1 q2 q3 q4 q5
      have q1 : w1.cell? ⟨w.heap.size, 1, none⟩ = some (.string ⟨nm.toArray⟩) := (Blk.below r0 B1 hkl).cell 1
      have q2 : w1.cell? ⟨w.heap.size, 2, none⟩ = some (.string ⟨nt.toArray⟩) := (Blk.below r0 B1 hkl).cell 2
      have q3 : w1.cell? ⟨w.heap.size, 3, none⟩ = some (.slice A0 bl cc) := (Blk.below r0 B1 hkl).cell 3
      have q4 : w1.cell? ⟨w.heap.size, 4, none⟩ = some (.int .i64 p0) := (Blk.below r0 B1 hkl).cell 4
      have q5 : w1.cell? ⟨w.heap.size, 5, none⟩ = some (.int .i64 q0) := (Blk.below r0 B1 hkl).cell 5
      have hc := nix_append (hN.below B1) nm hnn A0 bl cc
      go_wp2_with fail
      refine hc.mono ?_
      rintro e w2 ⟨rfl, hb'⟩
      have B2 : Below wr.heap.size wr w2 := B1.trans (hb'.mono B1.size)
      clear hc hb' q1 q2 q3 q4 q5
      have q1 : w2.cell? ⟨w.heap.size, 1, none⟩ = some (.string ⟨nm.toArray⟩) := (Blk.below r0 B2 hkl).cell 1
      have q2 : w2.cell? ⟨w.heap.size, 2, none⟩ = some (.string ⟨nt.toArray⟩) := (Blk.below r0 B2 hkl).cell 2
      have q3 : w2.cell? ⟨w.heap.size, 3, none⟩ = some (.slice A0 bl cc) := (Blk.below r0 B2 hkl).cell 3
      have q4 : w2.cell? ⟨w.heap.size, 4, none⟩ = some (.int .i64 p0) := (Blk.below r0 B2 hkl).cell 4
      have q5 : w2.cell? ⟨w.heap.size, 5, none⟩ = some (.int .i64 q0) := (Blk.below r0 B2 hkl).cell 5
      have hc := nix_put (hN.below B2) nm hnn A0 bl cc
      go_wp2_with fail
      refine hc.mono ?_
      rintro e w3 ⟨rfl, hb'⟩
      have B3 : Below wr.heap.size wr w3 := B2.trans (hb'.mono B2.size)
      clear hc hb' q1 q2 q3 q4 q5
      have q1 : w3.cell? ⟨w.heap.size, 1, none⟩ = some (.string ⟨nm.toArray⟩) := (Blk.below r0 B3 hkl).cell 1
      have q2 : w3.cell? ⟨w.heap.size, 2, none⟩ = some (.string ⟨nt.toArray⟩) := (Blk.below r0 B3 hkl).cell 2
      have q3 : w3.cell? ⟨w.heap.size, 3, none⟩ = some (.slice A0 bl cc) := (Blk.below r0 B3 hkl).cell 3
      have q4 : w3.cell? ⟨w.heap.size, 4, none⟩ = some (.int .i64 p0) := (Blk.below r0 B3 hkl).cell 4
      have q5 : w3.cell? ⟨w.heap.size, 5, none⟩ = some (.int .i64 q0) := (Blk.below r0 B3 hkl).cell 5
      have hc := nix_rename (hN.below B3) nm nt hnn hnt
      go_wp2_with fail
      refine hc.mono ?_
      rintro e w4 ⟨rfl, hb'⟩
      have B4 : Below wr.heap.size wr w4 := B3.trans (hb'.mono B3.size)
      clear hc hb' q1 q2 q3 q4 q5
      have q1 : w4.cell? ⟨w.heap.size, 1, none⟩ = some (.string ⟨nm.toArray⟩) := (Blk.below r0 B4 hkl).cell 1
      have q2 : w4.cell? ⟨w.heap.size, 2, none⟩ = some (.string ⟨nt.toArray⟩) := (Blk.below r0 B4 hkl).cell 2
      have q3 : w4.cell? ⟨w.heap.size, 3, none⟩ = some (.slice A0 bl cc) := (Blk.below r0 B4 hkl).cell 3
      have q4 : w4.cell? ⟨w.heap.size, 4, none⟩ = some (.int .i64 p0) := (Blk.below r0 B4 hkl).cell 4
      have q5 : w4.cell? ⟨w.heap.size, 5, none⟩ = some (.int .i64 q0) := (Blk.below r0 B4 hkl).cell 5
      have hc := nix_remove (hN.below B4) nm hnn
      go_wp2_with fail
      refine hc.mono ?_
      rintro e w5 ⟨rfl, hb'⟩
      have B5 : Below wr.heap.size wr w5 := B4.trans (hb'.mono B4.size)
      clear hc hb' q1 q2 q3 q4 q5
      have q1 : w5.cell? ⟨w.heap.size, 1, none⟩ = some (.string ⟨nm.toArray⟩) := (Blk.below r0 B5 hkl).cell 1
      have q2 : w5.cell? ⟨w.heap.size, 2, none⟩ = some (.string ⟨nt.toArray⟩) := (Blk.below r0 B5 hkl).cell 2
      have q3 : w5.cell? ⟨w.heap.size, 3, none⟩ = some (.slice A0 bl cc) := (Blk.below r0 B5 hkl).cell 3
      have q4 : w5.cell? ⟨w.heap.size, 4, none⟩ = some (.int .i64 p0) := (Blk.below r0 B5 hkl).cell 4
      have q5 : w5.cell? ⟨w.heap.size, 5, none⟩ = some (.int .i64 q0) := (Blk.below r0 B5 hkl).cell 5
      have hc := nix_sync (hN.below B5)
      go_wp2_with fail
      refine hc.mono ?_
      rintro e w5_ ⟨rfl, rfl⟩
      clear hc
      have hc := nix_crash (hN.below B5) p0 q0
      go_wp2_with fail
      refine hc.mono ?_
      rintro e w5_ ⟨rfl, rfl⟩
      clear hc
      have hc := nix_start (hN.below B5)
      go_wp2_with fail
      refine hc.mono ?_
      rintro e w5_ ⟨rfl, rfl⟩
      clear hc
      have hc := nix_wipe (hN.below B5)
      go_wp2_with fail
      refine hc.mono ?_
      rintro e w5_ ⟨rfl, rfl⟩
      clear hc
      have hc := nix_size (hN.below B5) nm
      go_wp2_with fail
      refine hc.mono ?_
      rintro e w5_ ⟨rfl, rfl⟩
      clear hc
      have hc := nix_names (hN.below B5)
      go_wp2_with fail
      refine hc.mono ?_
      rintro e w5_ ⟨rfl, rfl⟩
      clear hc
      have hc := nix_bytes (hN.below B5)
      go_wp2_with fail
      refine hc.mono ?_
      rintro e w5_ ⟨rfl, rfl⟩
      clear hc
      have hc := nix_waits (hN.below B5)
      go_wp2_with fail
      refine hc.mono ?_
      rintro e w5_ ⟨rfl, rfl⟩
      clear hc
      have hc := nix_serial (hN.below B5)
      go_wp2_with fail
      refine hc.mono ?_
      rintro e w5_ ⟨rfl, rfl⟩
      clear hc
      have hc := nix_capacity (hN.below B5)
      go_wp2_with fail
      refine hc.mono ?_
      rintro e w5_ ⟨rfl, rfl⟩
      clear hc
      have hc := nix_down (hN.below B5)
      go_wp2_with fail
      refine hc.mono ?_
      rintro e w5_ ⟨rfl, rfl⟩
      clear hc
      have hc := nix_copy (hN.below B5)
      go_wp2_with fail
      refine hc.mono ?_
      rintro e w5_ ⟨rfl, rfl⟩
      clear hc
      have HB := Lib.hid (hb.trans (B5.mono hb.size))
      clear B0 B1 B2 B3 B4 B5 q1 q2 q3 q4 q5 hb r0 hN hv
      go_wp2_with fail
      go_roundw
      case rel => exact ⟨k + 1, by omega, by go_num, HB.out⟩
      case measure => simp [intOf]; omega
    · obtain rfl : k = 2 := by omega
      have hcall := run_awake wr
      go_wp2_with (go_at_call 11; refine hcall.mono ?_; rintro e w8 ⟨rfl, hb8⟩)
      go_ret
      exact ⟨rfl, (hb3.trans (hb.mono hb3.size)).trans (hb8.mono (Nat.le_trans hb3.size hb.size))⟩
end Go.Proofs.Ytggdkhgpkedbkaa.DiskNobody
