/- The reader's methods: Uint. (Printed by codeg.py.) -/
import Derived.Test.YtcklbhplhpohpaaDoorCodeG
namespace Go.Proofs.YtcklbhplhpohpaaDoor
open Go.RowKit

section
variable (r a b : Nat) (A : Option Addr) (c : Nat) (l : List UInt8) (p : Nat) (f : Bool) (W : World)
theorem number_some (h : RdB W r A c l p f) {y k : Nat} (hn : num (l.drop p) 0 = some (y, k)) : Calls Tryd.prog 48 #[.pointer (some ⟨r, 0, none⟩)] W fun e w' => e = .returned (.int .u64 (y : Int)) ∧ RdB w' r A c l (p + k) f ∧ W.grownBy w' (some r) :=
  (number_any r A c l p f W h).mono fun e w' ⟨h1, h2⟩ => by
    unfold NumPost at h1
    rw [hn] at h1
    exact ⟨h1.1, h1.2, h2⟩
theorem number_none (h : RdB W r A c l p f) (hn : num (l.drop p) 0 = none) : Calls Tryd.prog 48 #[.pointer (some ⟨r, 0, none⟩)] W fun e w' => e = .panicked gaveUp ∧ (∃ p', RdB w' r A c l p' f) ∧ W.grownBy w' (some r) :=
  (number_any r A c l p f W h).mono fun e w' ⟨h1, h2⟩ => by
    unfold NumPost at h1
    rw [hn] at h1
    exact ⟨h1.1, h1.2, h2⟩
theorem uint_way (h : RdB W r A c l p f) (x : Value) (ha : Blk W a 41 #[.pointer (some ⟨r, 0, none⟩)]) (hb : Blk W b 34 #[x]) (_har : a ≠ r) (hbr : b ≠ r) (hAb : ∀ ad, A = some ad → ad.block ≠ b) {y k : Nat} (hlt : num (l.drop p) 0 = some (y, k)) :
    Calls Tryd.prog 47 #[.pointer (some ⟨a, 0, none⟩), .pointer (some ⟨b, 0, none⟩)] W fun e w' => e = .returned (.tuple #[]) ∧ RdB w' r A c l (p + k) f ∧ Blk w' b 34 #[.int .u64 (y : Int)] ∧ Only2 r b W w' := by
  have c0 : W.cell? ⟨a, 0, none⟩ = some (.pointer (some ⟨r, 0, none⟩)) := ha.cell 0
  have HN := Lib.hid (number_some r A c l p f W h hlt)
  go_enter Tryd.func47, Tryd.ntmps47
  go_wp2_with fail
  refine HN.out.mono ?_
  rintro e w3 ⟨rfl, hR3, hg3⟩
  have hb3 : Blk w3 b 34 #[x] := hb.grown hg3 (by simpa using hbr)
  have b0 : w3.cell? ⟨b, 0, none⟩ = some x := hb3.cell 0
  have bf : w3.frozen? ⟨b, 0, none⟩ = false := hb3.free 0
  go_wp2_with fail
  go_end0
  exact ⟨rfl, hR3.far hbr hAb 0 _, hb3.put0 _, (Only2.of hg3).put 0 _⟩
theorem uint_stop (h : RdB W r A c l p f) (ha : Blk W a 41 #[.pointer (some ⟨r, 0, none⟩)]) (_har : a ≠ r) (hlt : num (l.drop p) 0 = none) :
    Calls Tryd.prog 47 #[.pointer (some ⟨a, 0, none⟩), .pointer (some ⟨b, 0, none⟩)] W fun e w' => e = .panicked gaveUp ∧ (∃ p', RdB w' r A c l p' f) ∧ W.grownBy w' (some r) := by
  have c0 : W.cell? ⟨a, 0, none⟩ = some (.pointer (some ⟨r, 0, none⟩)) := ha.cell 0
  have HN := Lib.hid (number_none r A c l p f W h hlt)
  go_enter Tryd.func47, Tryd.ntmps47
  go_wp2_with fail
  refine HN.out.mono ?_
  rintro e w3 ⟨rfl, hR3, hg3⟩
  go_wp2_with fail
  exact ⟨rfl, rfl, hR3, hg3⟩
end

set_option maxHeartbeats 400000 in
theorem uint_ok (r : Nat) (A : Option Addr) (c : Nat) (l : List UInt8) (p : Nat) (w : World) (h : RdB w r A c l p false) {y k : Nat} (hlt : num (l.drop p) 0 = some (y, k)) :
    Calls Tryd.prog 18 #[.pointer (some ⟨r, 0, none⟩)] w fun e w' => e = .returned (.int .u64 (y : Int)) ∧ RdB w' r A c l (p + k) false ∧ w.grownBy w' (some r) := by
  have hmf : ∀ (fn : Fn) (first cap : Array Value) (w : World), (Instr.makeFunc fn first cap).run Tryd.prog w = .ok (.func fn first cap) w := fun _ _ _ _ => rfl
  obtain ⟨ha, hb, hbel⟩ := two_new w 41 34 (.pointer (some ⟨r, 0, none⟩)) (.int .u64 0)
  have HG := Lib.hid (part_good 47 #[.pointer (some ⟨w.heap.size, 0, none⟩), .pointer (some ⟨w.heap.size + 1, 0, none⟩)] (fun _ _ => rfl) r A c l p _ (h.below hbel)
    (fun w' => RdB w' r A c l (p + k) false ∧ Blk w' (w.heap.size + 1) 34 #[.int .u64 (y : Int)] ∧ w.grownBy w' (some r)) fun W hW => by
      have hs : w.heap.size + 1 + 1 = ((w.alloc (.cells #[.pointer (some ⟨r, 0, none⟩)] 41)).alloc (.cells #[.int .u64 0] 34)).heap.size := by simp
      refine (uint_way r w.heap.size (w.heap.size + 1) A c l p false W ((h.below hbel).below hW) _ (ha.below hW (by omega)) (hb.below hW (by omega)) (by have := h.lt; omega) (by have := h.lt; omega) (fun ad e => by have := h.al ad e; omega) hlt).mono ?_
      rintro e w' ⟨rfl, h1, h2, h3⟩
      exact ⟨rfl, h1, h2, (h3.after (hbel.trans (hW.mono (by omega))) (Nat.le_refl _)).grown (by omega)⟩)
  have HL := Lib.hid h.lt
  have HA := Lib.hid h.al
  clear ha hb hbel
  go_enter Tryd.func18, Tryd.ntmps18
  go_wp2_with fail
  refine HG.out.mono ?_
  rintro e w3 ⟨rfl, hR, hb3, hg⟩
  have b0 := hb3.cell 0
  have bf := hb3.free 0
  simp only [List.getElem?_toArray, List.getElem?_cons_zero] at b0
  go_wp2_with fail
  have hb4 := (hb3.put0 (.int .u64 (y : Int))).cell 0
  simp only [List.getElem?_toArray, List.getElem?_cons_zero] at hb4
  have h1 := HL.out
  refine bodyPost_ret (v := .int .u64 (y : Int)) (by simp [results, Tryd.results18, go_sem, hb4]) rfl ?_
  exact ⟨rfl, hR.far (by omega) (fun ad e => by have := HA.out ad e; omega) 0 _, only_far hg (by omega) 0 _⟩

set_option maxHeartbeats 400000 in
theorem uint_bad (r : Nat) (A : Option Addr) (c : Nat) (l : List UInt8) (p : Nat) (w : World) (h : RdB w r A c l p false) (hlt : num (l.drop p) 0 = none) :
    Calls Tryd.prog 18 #[.pointer (some ⟨r, 0, none⟩)] w fun e w' => e = .returned (.int .u64 0) ∧ RdB w' r A c l p true ∧ w.grownBy w' (some r) := by
  have hmf : ∀ (fn : Fn) (first cap : Array Value) (w : World), (Instr.makeFunc fn first cap).run Tryd.prog w = .ok (.func fn first cap) w := fun _ _ _ _ => rfl
  obtain ⟨ha, hb, hbel⟩ := two_new w 41 34 (.pointer (some ⟨r, 0, none⟩)) (.int .u64 0)
  have HG := Lib.hid (part_bad 47 #[.pointer (some ⟨w.heap.size, 0, none⟩), .pointer (some ⟨w.heap.size + 1, 0, none⟩)] (fun _ _ => rfl) r A c l p _ (h.below hbel)
    (fun w' => Blk w' (w.heap.size + 1) 34 #[.int .u64 0] ∧ w.grownBy w' (some r)) fun W hW => by
      have hs : w.heap.size + 1 + 1 = ((w.alloc (.cells #[.pointer (some ⟨r, 0, none⟩)] 41)).alloc (.cells #[.int .u64 0] 34)).heap.size := by simp
      have hrl := h.lt
      refine (uint_stop r w.heap.size (w.heap.size + 1) A c l p false W ((h.below hbel).below hW) (ha.below hW (by omega)) (by omega) hlt).mono ?_
      rintro e w' ⟨rfl, h1, h2⟩
      exact ⟨rfl, h1, fun k hk hkW => h2.block k hkW (by simp; omega), (hb.below hW (by omega)).grown h2 (by simp; omega), only_below (hbel.trans (hW.mono (by omega))) (Nat.le_refl _) h2⟩)
  have HL := Lib.hid h.lt
  have HA := Lib.hid h.al
  clear ha hb hbel
  go_enter Tryd.func18, Tryd.ntmps18
  go_wp2_with fail
  refine HG.out.mono ?_
  rintro e w3 ⟨rfl, hR, w2, ⟨hb2, hg2⟩, hw3⟩
  have h1 := HL.out
  have hb3 : Blk w3 (w.heap.size + 1) 34 #[.int .u64 0] := by rw [hw3]; exact (hb2.far (by simp; omega) _).far (by simp; omega) _
  have hg : w.grownBy w3 (some r) := by rw [hw3]; exact only_set (only_set hg2 1 _) 2 _
  have b0 := hb3.cell 0
  have bf := hb3.free 0
  simp only [List.getElem?_toArray, List.getElem?_cons_zero] at b0
  clear hw3 hb2 hg2 h1
  go_wp2_with fail
  have hb4 := (hb3.put0 (.int .u64 0)).cell 0
  simp only [List.getElem?_toArray, List.getElem?_cons_zero] at hb4
  have h1 := HL.out
  refine bodyPost_ret (v := .int .u64 0) (by simp [results, Tryd.results18, go_sem, hb4]) rfl ?_
  exact ⟨rfl, hR.far (by omega) (fun ad e => by have := HA.out ad e; omega) 0 _, only_far hg (by omega) 0 _⟩
end Go.Proofs.YtcklbhplhpohpaaDoor
