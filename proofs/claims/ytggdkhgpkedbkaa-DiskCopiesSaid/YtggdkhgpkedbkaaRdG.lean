/- The document's disk: Read. -/
import Derived.Test.YtggdkhgpkedbkaaRdF
import Derived.Test.YtggdkhgpkedbkaaLasts
namespace Go.Proofs.Ytggdkhgpkedbkaa
open Go.RowKit

def RRead (w : World) (R : Nat → Prop) (r : List UInt8 × Int) (e : Ending) (w' : World) : Prop :=
  (∃ s, e = .returned (.tuple #[sv s, .int .i64 r.2]) ∧ BytesIn w' (fun b => R b ∨ From w.heap.size w' b) s r.1) ∧ Below w.heap.size w w'
theorem read_down {x : Dk} (h : x.down = true) (n : Nm) : x.read n = ([], 6) := by
  unfold Dk.read
  have : askE x.down [n] = 6 := by rw [h]; rfl
  rw [this, if_pos (by simp)]
theorem read_bad {x : Dk} (h : x.down = false) {n : Nm} (hn : isName n = false) : x.read n = ([], 1) := by
  unfold Dk.read
  have : askE x.down [n] = 1 := by rw [h]; unfold askE; simp [hn]
  rw [this, if_pos (by simp)]
set_option maxHeartbeats 2000000 in
theorem rread_any {w : World} {m : Nat} {R : Nat → Prop} {x : Dk} (h : Rat w m R x) {N : Nat} (hx : Fine N x) (hN : N ≤ 1000000) (n : Nm) (hn : Nok n) :
    Calls Try.prog 52 #[.pointer (some ⟨m, 0, none⟩), .string ⟨n.toArray⟩] w (RRead w R (x.read n)) := by
  have hse := seen_any h hx hN
  have hnm := rnamed_any (w := w) n hn
  have hxl : x.seen.length ≤ 1000000 := (hx.small hN).ns
  obtain ⟨A, c, E, B, g, l, h⟩ := h
  have q4 := h.blk.cell 4
  simp only [List.getElem?_toArray, List.getElem?_cons_zero, List.getElem?_cons_succ] at q4
  cases hdn : x.down
  · have HD := Lib.hid hdn
    rw [hdn] at q4
    clear hdn
    cases hin : isName n
    · rw [hin] at hnm
      have HI := Lib.hid hin
      clear hin hse
      go_enter Try.func52, Try.ntmps52
      go_wp2_with fail
      refine hnm.mono ?_
      rintro e w1 ⟨rfl, rfl⟩
      go_wp2_with fail
      go_ret2
      rw [read_bad HD.out HI.out]
      exact ⟨⟨(none, 0, 0), rfl, BytesIn.none _ _⟩, Below.refl _ _⟩
    · rw [hin] at hnm
      have HI := Lib.hid hin
      clear hin
      go_enter Try.func52, Try.ntmps52
      go_wp2_with fail
      refine hnm.mono ?_
      rintro e w1 ⟨rfl, rfl⟩
      go_wp2_with fail
      refine hse.mono ?_
      rintro e w1 ⟨E1, hf1, ⟨A1, c1, rfl, hE1⟩, hb1⟩
      have hl1 : E1.length ≤ 9223372036854775806 := by rw [← fil_len, hf1]; omega
      have hfi := find_any c1 hE1 hl1 n
      have hby := bytesof_any c1 hE1 hl1 n
      have HF := Lib.hid hf1
      clear hse hnm hf1
      go_wp2_with fail
      refine hfi.mono ?_
      rintro e w2 ⟨⟨q, rfl, ⟨rfl, hg⟩ | ⟨k, hk, rfl, hne, hg⟩⟩, rfl⟩
      · have HG := Lib.hid hg
        clear hg hfi hby
        go_wp2_with fail
        go_ret2
        have hnone : fget n x.seen = none := by rw [← HF.out, fil_get, HG.out]; rfl
        rw [read_up' HD.out HI.out, hnone, if_pos (show (none : Option (List UInt8)).isSome = false from rfl)]
        exact ⟨⟨(none, 0, 0), rfl, BytesIn.none _ _⟩, hb1⟩
      · have HG := Lib.hid hg
        clear hg hfi hne
        go_wp2_with fail
        refine hby.mono ?_
        rintro e w3 ⟨⟨s, rfl, hs⟩, rfl⟩
        unfold sv
        go_wp2_with fail
        go_ret2
        rw [HF.out] at hs
        have hsome : (fget n x.seen).isSome = true := by rw [← HF.out, fil_get, HG.out]; rfl
        rw [read_up' HD.out HI.out, hsome, if_neg (by simp)]
        exact ⟨⟨s, rfl, hs⟩, hb1⟩
  · have HD := Lib.hid hdn
    rw [hdn] at q4
    clear hdn hse hnm
    go_enter Try.func52, Try.ntmps52
    go_wp2_with fail
    go_ret2
    rw [read_down HD.out]
    exact ⟨⟨(none, 0, 0), rfl, BytesIn.none _ _⟩, Below.refl _ _⟩
end Go.Proofs.Ytggdkhgpkedbkaa
