/- The reader's methods: U32. (Printed by codeg2.py.) -/
import Derived.Test.YtcklbhplhpohpaaDoorCodeK
namespace Go.Proofs.YtcklbhplhpohpaaDoor
open Go.RowKit

theorem u32_stop (r a b : Nat) (A : Option Addr) (c : Nat) (l : List UInt8) (p : Nat) (f : Bool) (W : World) (h : RdB W r A c l p f) (ha : Blk W a 41 #[.pointer (some ⟨r, 0, none⟩)]) (_har : a ≠ r) (hlt : l.length < p + 4) :
    Calls Tryd.prog 60 #[.pointer (some ⟨a, 0, none⟩), .pointer (some ⟨b, 0, none⟩)] W fun e w' => e = .panicked gaveUp ∧ RdB w' r A c l p f ∧ W.grownBy w' (some r) := by
  have c0 : W.cell? ⟨a, 0, none⟩ = some (.pointer (some ⟨r, 0, none⟩)) := ha.cell 0
  have HN := Lib.hid (next_bad r A c l p f 4 W h (by have := h.pl; omega))
  go_enter Tryd.func60, Tryd.ntmps60
  go_wp2_with fail
  refine HN.out.mono ?_
  rintro e w3 ⟨rfl, hR3, hg3⟩
  go_wp2_with fail
  exact ⟨rfl, rfl, hR3, hg3⟩

set_option maxHeartbeats 400000 in
theorem u32_ok (r : Nat) (A : Option Addr) (c : Nat) (l : List UInt8) (p : Nat) (w : World) (h : RdB w r A c l p false) (hlt : p + 4 ≤ l.length) :
    Calls Tryd.prog 53 #[.pointer (some ⟨r, 0, none⟩)] w fun e w' => e = .returned (.int .u32 (leN ((l.drop p).take 4) : Int)) ∧ RdB w' r A c l (p + 4) false ∧ w.grownBy w' (some r) := by
  have hmf : ∀ (fn : Fn) (first cap : Array Value) (w : World), (Instr.makeFunc fn first cap).run Tryd.prog w = .ok (.func fn first cap) w := fun _ _ _ _ => rfl
  obtain ⟨ha, hb, hbel⟩ := two_new w 41 65 (.pointer (some ⟨r, 0, none⟩)) (.int .u32 0)
  have HG := Lib.hid (part_good 60 #[.pointer (some ⟨w.heap.size, 0, none⟩), .pointer (some ⟨w.heap.size + 1, 0, none⟩)] (fun _ _ => rfl) r A c l p _ (h.below hbel)
    (fun w' => RdB w' r A c l (p + 4) false ∧ Blk w' (w.heap.size + 1) 65 #[.int .u32 (leN ((l.drop p).take 4) : Int)] ∧ w.grownBy w' (some r)) fun W hW => by
      have hs : w.heap.size + 1 + 1 = ((w.alloc (.cells #[.pointer (some ⟨r, 0, none⟩)] 41)).alloc (.cells #[.int .u32 0] 65)).heap.size := by simp
      refine (u32_way r w.heap.size (w.heap.size + 1) A c l p false W ((h.below hbel).below hW) (ha.below hW (by omega)) (hb.below hW (by omega)) (by have := h.lt; omega) (by have := h.lt; omega) (fun ad e => by have := h.al ad e; omega) hlt).mono ?_
      rintro e w' ⟨rfl, h1, h2, h3⟩
      exact ⟨rfl, h1, h2, (h3.after (hbel.trans (hW.mono (by omega))) (Nat.le_refl _)).grown (by omega)⟩)
  have HL := Lib.hid h.lt
  have HA := Lib.hid h.al
  clear ha hb hbel
  go_enter Tryd.func53, Tryd.ntmps53
  go_wp2_with fail
  refine HG.out.mono ?_
  rintro e w3 ⟨rfl, hR, hb3, hg⟩
  have b0 := hb3.cell 0
  have bf := hb3.free 0
  simp only [List.getElem?_toArray, List.getElem?_cons_zero] at b0
  go_wp2_with fail
  have hb4 := (hb3.put0 (.int .u32 (leN ((l.drop p).take 4) : Int))).cell 0
  simp only [List.getElem?_toArray, List.getElem?_cons_zero] at hb4
  have h1 := HL.out
  refine bodyPost_ret (v := .int .u32 (leN ((l.drop p).take 4) : Int)) (by simp [results, Tryd.results53, go_sem, hb4]) rfl ?_
  exact ⟨rfl, hR.far (by omega) (fun ad e => by have := HA.out ad e; omega) 0 _, only_far hg (by omega) 0 _⟩

set_option maxHeartbeats 400000 in
theorem u32_bad (r : Nat) (A : Option Addr) (c : Nat) (l : List UInt8) (p : Nat) (w : World) (h : RdB w r A c l p false) (hlt : l.length < p + 4) :
    Calls Tryd.prog 53 #[.pointer (some ⟨r, 0, none⟩)] w fun e w' => e = .returned (.int .u32 0) ∧ RdB w' r A c l p true ∧ w.grownBy w' (some r) := by
  have hmf : ∀ (fn : Fn) (first cap : Array Value) (w : World), (Instr.makeFunc fn first cap).run Tryd.prog w = .ok (.func fn first cap) w := fun _ _ _ _ => rfl
  obtain ⟨ha, hb, hbel⟩ := two_new w 41 65 (.pointer (some ⟨r, 0, none⟩)) (.int .u32 0)
  have HG := Lib.hid (part_bad 60 #[.pointer (some ⟨w.heap.size, 0, none⟩), .pointer (some ⟨w.heap.size + 1, 0, none⟩)] (fun _ _ => rfl) r A c l p _ (h.below hbel)
    (fun w' => Blk w' (w.heap.size + 1) 65 #[.int .u32 0] ∧ w.grownBy w' (some r)) fun W hW => by
      have hs : w.heap.size + 1 + 1 = ((w.alloc (.cells #[.pointer (some ⟨r, 0, none⟩)] 41)).alloc (.cells #[.int .u32 0] 65)).heap.size := by simp
      have hrl := h.lt
      refine (u32_stop r w.heap.size (w.heap.size + 1) A c l p false W ((h.below hbel).below hW) (ha.below hW (by omega)) (by omega) hlt).mono ?_
      rintro e w' ⟨rfl, h1, h2⟩
      exact ⟨rfl, ⟨_, h1⟩, fun k hk hkW => h2.block k hkW (by simp; omega), (hb.below hW (by omega)).grown h2 (by simp; omega), only_below (hbel.trans (hW.mono (by omega))) (Nat.le_refl _) h2⟩)
  have HL := Lib.hid h.lt
  have HA := Lib.hid h.al
  clear ha hb hbel
  go_enter Tryd.func53, Tryd.ntmps53
  go_wp2_with fail
  refine HG.out.mono ?_
  rintro e w3 ⟨rfl, hR, w2, ⟨hb2, hg2⟩, hw3⟩
  have h1 := HL.out
  have hb3 : Blk w3 (w.heap.size + 1) 65 #[.int .u32 0] := by rw [hw3]; exact (hb2.far (by simp; omega) _).far (by simp; omega) _
  have hg : w.grownBy w3 (some r) := by rw [hw3]; exact only_set (only_set hg2 1 _) 2 _
  have b0 := hb3.cell 0
  have bf := hb3.free 0
  simp only [List.getElem?_toArray, List.getElem?_cons_zero] at b0
  clear hw3 hb2 hg2 h1
  go_wp2_with fail
  have hb4 := (hb3.put0 (.int .u32 0)).cell 0
  simp only [List.getElem?_toArray, List.getElem?_cons_zero] at hb4
  have h1 := HL.out
  refine bodyPost_ret (v := .int .u32 0) (by simp [results, Tryd.results53, go_sem, hb4]) rfl ?_
  exact ⟨rfl, hR.far (by omega) (fun ad e => by have := HA.out ad e; omega) 0 _, only_far hg (by omega) 0 _⟩
end Go.Proofs.YtcklbhplhpohpaaDoor
