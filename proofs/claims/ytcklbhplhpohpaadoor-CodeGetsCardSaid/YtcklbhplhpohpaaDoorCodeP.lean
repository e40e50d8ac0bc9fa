/- The reader's Raw behind a fault, and of no reader; Text. (Printed by codep.py.) -/
import Derived.Test.YtcklbhplhpohpaaDoorCodeO
namespace Go.Proofs.YtcklbhplhpohpaaDoor
open Go.RowKit

set_option maxHeartbeats 400000 in
theorem raw_off (r : Nat) (A : Option Addr) (c : Nat) (l : List UInt8) (p : Nat) (m : Int) (w : World) (h : RdB w r A c l p true) :
    Calls Tryd.prog 38 #[.pointer (some ⟨r, 0, none⟩), .int .i64 m] w fun e w' => e = .returned (.slice none 0 0) ∧ Below w.heap.size w w' := by
  have hmf : ∀ (fn : Fn) (first cap : Array Value) (w : World), (Instr.makeFunc fn first cap).run Tryd.prog w = .ok (.func fn first cap) w := fun _ _ _ _ => rfl
  obtain ⟨_, _, hb, hbel⟩ := three_new w 41 3 27 (.pointer (some ⟨r, 0, none⟩)) (.int .i64 m) (.slice none 0 0)
  have HG := Lib.hid (fun fv => part_off fv r A c l p _ (h.below hbel))
  go_enter Tryd.func38, Tryd.ntmps38
  go_wp2_with fail
  refine (HG.out _).mono ?_
  rintro e w3 ⟨rfl, hb3⟩
  have hb4 := hb.below hb3 (by simp)
  have b0 := hb4.cell 0
  have bf := hb4.free 0
  simp only [List.getElem?_toArray, List.getElem?_cons_zero] at b0
  have hB := Lib.hid (hbel.trans (hb3.mono (by simp; omega)))
  go_wp2_with fail
  have hb5 := (hb4.put0 (.slice none 0 0)).cell 0
  simp only [List.getElem?_toArray, List.getElem?_cons_zero] at hb5
  refine bodyPost_ret (v := .slice none 0 0) (by simp [results, Tryd.results38, go_sem, hb5]) rfl ?_
  exact ⟨rfl, hB.out.setCell (p := ⟨w.heap.size + 1 + 1, 0, none⟩) (by simp; omega) _⟩

set_option maxHeartbeats 400000 in
theorem raw_nil (m : Int) (w : World) :
    Calls Tryd.prog 38 #[.pointer none, .int .i64 m] w fun e w' => e = .returned (.slice none 0 0) ∧ Below w.heap.size w w' := by
  have hmf : ∀ (fn : Fn) (first cap : Array Value) (w : World), (Instr.makeFunc fn first cap).run Tryd.prog w = .ok (.func fn first cap) w := fun _ _ _ _ => rfl
  obtain ⟨_, _, hb, hbel⟩ := three_new w 41 3 27 (.pointer none) (.int .i64 m) (.slice none 0 0)
  have HG := Lib.hid (fun fv => part_nil fv (((w.alloc (.cells #[.pointer none] 41)).alloc (.cells #[.int .i64 m] 3)).alloc (.cells #[.slice none 0 0] 27)))
  go_enter Tryd.func38, Tryd.ntmps38
  go_wp2_with fail
  refine (HG.out _).mono ?_
  rintro e w3 ⟨rfl, hb3⟩
  have hb4 := hb.below hb3 (by simp)
  have b0 := hb4.cell 0
  have bf := hb4.free 0
  simp only [List.getElem?_toArray, List.getElem?_cons_zero] at b0
  have hB := Lib.hid (hbel.trans (hb3.mono (by simp; omega)))
  go_wp2_with fail
  have hb5 := (hb4.put0 (.slice none 0 0)).cell 0
  simp only [List.getElem?_toArray, List.getElem?_cons_zero] at hb5
  refine bodyPost_ret (v := .slice none 0 0) (by simp [results, Tryd.results38, go_sem, hb5]) rfl ?_
  exact ⟨rfl, hB.out.setCell (p := ⟨w.heap.size + 1 + 1, 0, none⟩) (by simp; omega) _⟩

set_option maxHeartbeats 400000 in
theorem text_off (r : Nat) (A : Option Addr) (c : Nat) (l : List UInt8) (p : Nat) (m : Int) (w : World) (h : RdB w r A c l p true) :
    Calls Tryd.prog 22 #[.pointer (some ⟨r, 0, none⟩), .int .i64 m] w fun e w' => e = .returned (.string ⟨#[]⟩) ∧ Below w.heap.size w w' := by
  have hmf : ∀ (fn : Fn) (first cap : Array Value) (w : World), (Instr.makeFunc fn first cap).run Tryd.prog w = .ok (.func fn first cap) w := fun _ _ _ _ => rfl
  obtain ⟨_, _, hb, hbel⟩ := three_new w 41 3 9 (.pointer (some ⟨r, 0, none⟩)) (.int .i64 m) (.string ⟨#[]⟩)
  have HG := Lib.hid (fun fv => part_off fv r A c l p _ (h.below hbel))
  go_enter Tryd.func22, Tryd.ntmps22
  go_wp2_with fail
  refine (HG.out _).mono ?_
  rintro e w3 ⟨rfl, hb3⟩
  have hb4 := hb.below hb3 (by simp)
  have b0 := hb4.cell 0
  have bf := hb4.free 0
  simp only [List.getElem?_toArray, List.getElem?_cons_zero] at b0
  have hB := Lib.hid (hbel.trans (hb3.mono (by simp; omega)))
  go_wp2_with fail
  have hb5 := (hb4.put0 (.string ⟨#[]⟩)).cell 0
  simp only [List.getElem?_toArray, List.getElem?_cons_zero] at hb5
  refine bodyPost_ret (v := .string ⟨#[]⟩) (by simp [results, Tryd.results22, go_sem, hb5]) rfl ?_
  exact ⟨rfl, hB.out.setCell (p := ⟨w.heap.size + 1 + 1, 0, none⟩) (by simp; omega) _⟩

set_option maxHeartbeats 400000 in
theorem text_nil (m : Int) (w : World) :
    Calls Tryd.prog 22 #[.pointer none, .int .i64 m] w fun e w' => e = .returned (.string ⟨#[]⟩) ∧ Below w.heap.size w w' := by
  have hmf : ∀ (fn : Fn) (first cap : Array Value) (w : World), (Instr.makeFunc fn first cap).run Tryd.prog w = .ok (.func fn first cap) w := fun _ _ _ _ => rfl
  obtain ⟨_, _, hb, hbel⟩ := three_new w 41 3 9 (.pointer none) (.int .i64 m) (.string ⟨#[]⟩)
  have HG := Lib.hid (fun fv => part_nil fv (((w.alloc (.cells #[.pointer none] 41)).alloc (.cells #[.int .i64 m] 3)).alloc (.cells #[.string ⟨#[]⟩] 9)))
  go_enter Tryd.func22, Tryd.ntmps22
  go_wp2_with fail
  refine (HG.out _).mono ?_
  rintro e w3 ⟨rfl, hb3⟩
  have hb4 := hb.below hb3 (by simp)
  have b0 := hb4.cell 0
  have bf := hb4.free 0
  simp only [List.getElem?_toArray, List.getElem?_cons_zero] at b0
  have hB := Lib.hid (hbel.trans (hb3.mono (by simp; omega)))
  go_wp2_with fail
  have hb5 := (hb4.put0 (.string ⟨#[]⟩)).cell 0
  simp only [List.getElem?_toArray, List.getElem?_cons_zero] at hb5
  refine bodyPost_ret (v := .string ⟨#[]⟩) (by simp [results, Tryd.results22, go_sem, hb5]) rfl ?_
  exact ⟨rfl, hB.out.setCell (p := ⟨w.heap.size + 1 + 1, 0, none⟩) (by simp; omega) _⟩

section
variable (r a m b : Nat) (A : Option Addr) (c : Nat) (l : List UInt8) (p : Nat) (f : Bool) (W : World)
set_option maxHeartbeats 400000 in
theorem text_way (most : Int) (h : RdB W r A c l p f) (x : Value) (ha : Blk W a 41 #[.pointer (some ⟨r, 0, none⟩)]) (hm : Blk W m 3 #[.int .i64 most]) (hb : Blk W b 9 #[x])
    (hmr : m ≠ r) (har : a ≠ r) (hbr : b ≠ r) (hAb : ∀ ad, A = some ad → ad.block ≠ b) {y k : Nat} (hn : num (l.drop p) 0 = some (y, k)) (h0 : 0 ≤ most) (hym : (y : Int) ≤ most) (hm2 : most ≤ 9223372036854775807) (hyl : p + k + y ≤ l.length) :
    Calls Tryd.prog 49 #[.pointer (some ⟨a, 0, none⟩), .pointer (some ⟨m, 0, none⟩), .pointer (some ⟨b, 0, none⟩)] W fun e w' => e = .returned (.tuple #[]) ∧ RdB w' r A c l (p + k + y) f ∧
      Blk w' b 9 #[.string ⟨((l.drop (p + k)).take y).toArray⟩] ∧ Only2 r b W w' := by
  have c0 : W.cell? ⟨a, 0, none⟩ = some (.pointer (some ⟨r, 0, none⟩)) := ha.cell 0
  have HN := Lib.hid (number_some r A c l p f W h hn)
  have hg0 : decide (0 ≤ most) = true := by rw [decide_eq_true_iff]; exact h0
  have hg1 : IntKind.u64.wrap most = most := by rw [IntKind.wrap_u64]; omega
  have hg2 : decide ((y : Int) ≤ most) = true := by rw [decide_eq_true_iff]; exact hym
  have hg3 : IntKind.i64.wrap (y : Int) = y := IntWalk.i64_in _ (by omega)
  clear h hn
  go_enter Tryd.func49, Tryd.ntmps49
  go_wp2_with fail
  refine HN.out.mono ?_
  rintro e w3 ⟨rfl, hR3, hg3'⟩
  have hb3 : Blk w3 b 9 #[x] := hb.grown hg3' (by simpa using hbr)
  have hm3 : Blk w3 m 3 #[.int .i64 most] := hm.grown hg3' (by simpa using hmr)
  have ha3 : Blk w3 a 41 #[.pointer (some ⟨r, 0, none⟩)] := ha.grown hg3' (by simpa using har)
  have m0 : w3.cell? ⟨m, 0, none⟩ = some (.int .i64 most) := hm3.cell 0
  have a0 : w3.cell? ⟨a, 0, none⟩ = some (.pointer (some ⟨r, 0, none⟩)) := ha3.cell 0
  go_wp2_with fail
  refine (must_yes _).mono ?_
  rintro e w4 ⟨rfl, rfl⟩
  have HN2 := Lib.hid (next_ok r A c l (p + k) f y w3 hR3 hyl)
  have hlen : ((l.drop (p + k)).take y).length = y := by rw [List.length_take, List.length_drop]; omega
  generalize hs : (l.drop (p + k)).take y = s at HN2 hlen
  have HL := Lib.hid hlen
  have HS := Lib.hid hs
  clear hlen hs
  go_wp2_with fail
  refine HN2.out.mono ?_
  rintro e w5 ⟨⟨B, rfl, hB⟩, hR5, hg5⟩
  have hb5 : Blk w5 b 9 #[x] := hb3.grown hg5 (by simpa using hbr)
  have b0 : w5.cell? ⟨b, 0, none⟩ = some x := hb5.cell 0
  have bf : w5.frozen? ⟨b, 0, none⟩ = false := hb5.free 0
  have HB := Lib.hid hB
  have hcv := fun n c' hn => conv_str (P := Tryd.prog) (w := w5) (n := n) (c := c') Tryd.underlying27 Tryd.underlying5 Tryd.underlying9 hB hn
  have hcv2 := hcv y y HL.out
  clear hcv hB
  go_wp2_with fail
  go_end0
  rw [HS.out]
  exact ⟨rfl, hR5.far hbr hAb 0 _, hb5.put0 _, (Only2.of (only_trans hg3' hg5)).put 0 _⟩
set_option maxHeartbeats 400000 in
theorem text_stop (most : Int) (h : RdB W r A c l p f) (ha : Blk W a 41 #[.pointer (some ⟨r, 0, none⟩)]) (hm : Blk W m 3 #[.int .i64 most]) (hmr : m ≠ r) (har : a ≠ r)
    (hm1 : -9223372036854775808 ≤ most) (hm2 : most ≤ 9223372036854775807) (hbad : ∀ y k, num (l.drop p) 0 = some (y, k) → ¬ (0 ≤ most ∧ (y : Int) ≤ most ∧ p + k + y ≤ l.length)) :
    Calls Tryd.prog 49 #[.pointer (some ⟨a, 0, none⟩), .pointer (some ⟨m, 0, none⟩), .pointer (some ⟨b, 0, none⟩)] W fun e w' => e = .panicked gaveUp ∧ (∃ p', RdB w' r A c l p' f) ∧ W.grownBy w' (some r) := by
  have c0 : W.cell? ⟨a, 0, none⟩ = some (.pointer (some ⟨r, 0, none⟩)) := ha.cell 0
  cases hn : num (l.drop p) 0 with
  | none =>
    have HN := Lib.hid (number_none r A c l p f W h hn)
    clear hbad hn
    go_enter Tryd.func49, Tryd.ntmps49
    go_wp2_with fail
    refine HN.out.mono ?_
    rintro e w3 ⟨rfl, hR3, hg3⟩
    go_wp2_with fail
    exact ⟨rfl, rfl, hR3, hg3⟩
  | some v =>
    obtain ⟨y, k⟩ := v
    have hb := hbad y k hn
    have hy64 : y < 18446744073709551616 := (num_digits hn).2.2
    have HN := Lib.hid (number_some r A c l p f W h hn)
    clear hbad hn
    have hcase : most < 0 ∨ (0 ≤ most ∧ most < (y : Int)) ∨ (0 ≤ most ∧ (y : Int) ≤ most ∧ l.length < p + k + y) := by omega
    have hg1 : 0 ≤ most → IntKind.u64.wrap most = most := fun h => by rw [IntKind.wrap_u64]; omega
    clear hb
    rcases hcase with h0 | ⟨h0, hlt⟩ | ⟨h0, hle, hlt⟩
    · have hg0 : decide (0 ≤ most) = false := by rw [decide_eq_false_iff_not]; omega
      clear hg1
      go_enter Tryd.func49, Tryd.ntmps49
      go_wp2_with fail
      refine HN.out.mono ?_
      rintro e w3 ⟨rfl, hR3, hg3'⟩
      have m0 : w3.cell? ⟨m, 0, none⟩ = some (.int .i64 most) := (hm.grown hg3' (by simpa using hmr)).cell 0
      go_wp2_with fail
      refine (must_no _).mono ?_
      rintro e w4 ⟨rfl, rfl⟩
      go_wp2_with fail
      exact ⟨rfl, rfl, ⟨_, hR3⟩, hg3'⟩
    · have hg0 : decide (0 ≤ most) = true := by rw [decide_eq_true_iff]; exact h0
      have hg2 : decide ((y : Int) ≤ most) = false := by rw [decide_eq_false_iff_not]; omega
      have hg1' := hg1 h0
      clear hg1
      go_enter Tryd.func49, Tryd.ntmps49
      go_wp2_with fail
      refine HN.out.mono ?_
      rintro e w3 ⟨rfl, hR3, hg3'⟩
      have m0 : w3.cell? ⟨m, 0, none⟩ = some (.int .i64 most) := (hm.grown hg3' (by simpa using hmr)).cell 0
      go_wp2_with fail
      refine (must_no _).mono ?_
      rintro e w4 ⟨rfl, rfl⟩
      go_wp2_with fail
      exact ⟨rfl, rfl, ⟨_, hR3⟩, hg3'⟩
    · have hg0 : decide (0 ≤ most) = true := by rw [decide_eq_true_iff]; exact h0
      have hg2 : decide ((y : Int) ≤ most) = true := by rw [decide_eq_true_iff]; omega
      have hg1' := hg1 h0
      have hg3 : IntKind.i64.wrap (y : Int) = y := IntWalk.i64_in _ (by omega)
      clear hg1
      go_enter Tryd.func49, Tryd.ntmps49
      go_wp2_with fail
      refine HN.out.mono ?_
      rintro e w3 ⟨rfl, hR3, hg3'⟩
      have m0 : w3.cell? ⟨m, 0, none⟩ = some (.int .i64 most) := (hm.grown hg3' (by simpa using hmr)).cell 0
      have a0 : w3.cell? ⟨a, 0, none⟩ = some (.pointer (some ⟨r, 0, none⟩)) := (ha.grown hg3' (by simpa using har)).cell 0
      have HB := Lib.hid (next_bad r A c l (p + k) f y w3 hR3 (.inr (by omega)))
      clear hlt
      go_wp2_with fail
      refine (must_yes _).mono ?_
      rintro e w4 ⟨rfl, rfl⟩
      go_wp2_with fail
      refine HB.out.mono ?_
      rintro e w5 ⟨rfl, hR5, hg5⟩
      go_wp2_with fail
      exact ⟨rfl, rfl, ⟨_, hR5⟩, only_trans hg3' hg5⟩
end

set_option maxHeartbeats 400000 in
theorem text_ok (r : Nat) (A : Option Addr) (c : Nat) (l : List UInt8) (p : Nat) (most : Int) (w : World) (h : RdB w r A c l p false) {y k : Nat} (hn : num (l.drop p) 0 = some (y, k)) (h0 : 0 ≤ most) (hym : (y : Int) ≤ most) (hm2 : most ≤ 9223372036854775807) (hyl : p + k + y ≤ l.length) :
    Calls Tryd.prog 22 #[.pointer (some ⟨r, 0, none⟩), .int .i64 most] w fun e w' => e = .returned (.string ⟨((l.drop (p + k)).take y).toArray⟩) ∧ RdB w' r A c l (p + k + y) false ∧ w.grownBy w' (some r) := by
  have hmf : ∀ (fn : Fn) (first cap : Array Value) (w : World), (Instr.makeFunc fn first cap).run Tryd.prog w = .ok (.func fn first cap) w := fun _ _ _ _ => rfl
  obtain ⟨ha, hm, hb, hbel⟩ := three_new w 41 3 9 (.pointer (some ⟨r, 0, none⟩)) (.int .i64 most) (.string ⟨#[]⟩)
  have hs : (((w.alloc (.cells #[.pointer (some ⟨r, 0, none⟩)] 41)).alloc (.cells #[.int .i64 most] 3)).alloc (.cells #[.string ⟨#[]⟩] 9)).heap.size = w.heap.size + 1 + 1 + 1 := by simp
  have HG := Lib.hid (part_good 49 #[.pointer (some ⟨w.heap.size, 0, none⟩), .pointer (some ⟨w.heap.size + 1, 0, none⟩), .pointer (some ⟨w.heap.size + 1 + 1, 0, none⟩)] (fun _ _ => rfl) r A c l p _ (h.below hbel)
    (fun w' => RdB w' r A c l (p + k + y) false ∧ Blk w' (w.heap.size + 1 + 1) 9 #[.string ⟨((l.drop (p + k)).take y).toArray⟩] ∧ w.grownBy w' (some r)) fun W hW => by
      have hrl := h.lt
      have hWs := hW.size
      refine (text_way r w.heap.size (w.heap.size + 1) (w.heap.size + 1 + 1) A c l p false W most ((h.below hbel).below hW) _ (ha.below hW (by omega)) (hm.below hW (by omega)) (hb.below hW (by omega)) (by omega) (by omega) (by omega) (fun ad e => by have := h.al ad e; omega) hn h0 hym hm2 hyl).mono ?_
      rintro e w' ⟨rfl, h1, h2, h3⟩
      exact ⟨rfl, h1, h2, (h3.after (hbel.trans (hW.mono (by omega))) (Nat.le_refl _)).grown (by omega)⟩)
  have HL := Lib.hid h.lt
  have HA := Lib.hid h.al
  clear ha hm hb hbel hs hn
  generalize ((l.drop (p + k)).take y).toArray = S at HG ⊢
  go_enter Tryd.func22, Tryd.ntmps22
  go_wp2_with fail
  refine HG.out.mono ?_
  rintro e w3 ⟨rfl, hR, hb3, hg⟩
  have b0 := hb3.cell 0
  have bf := hb3.free 0
  simp only [List.getElem?_toArray, List.getElem?_cons_zero] at b0
  go_wp2_with fail
  have hb4 := (hb3.put0 (.string ⟨S⟩)).cell 0
  simp only [List.getElem?_toArray, List.getElem?_cons_zero] at hb4
  have h1 := HL.out
  refine bodyPost_ret (v := .string ⟨S⟩) (by simp [results, Tryd.results22, go_sem, hb4]) rfl ?_
  exact ⟨rfl, hR.far (by omega) (fun ad e => by have := HA.out ad e; omega) 0 _, only_far hg (by omega) 0 _⟩

set_option maxHeartbeats 400000 in
theorem text_bad (r : Nat) (A : Option Addr) (c : Nat) (l : List UInt8) (p : Nat) (most : Int) (w : World) (h : RdB w r A c l p false) (hm1 : -9223372036854775808 ≤ most) (hm2 : most ≤ 9223372036854775807) (hbad : ∀ y k, num (l.drop p) 0 = some (y, k) → ¬ (0 ≤ most ∧ (y : Int) ≤ most ∧ p + k + y ≤ l.length)) :
    Calls Tryd.prog 22 #[.pointer (some ⟨r, 0, none⟩), .int .i64 most] w fun e w' => e = .returned (.string ⟨#[]⟩) ∧ RdB w' r A c l p true ∧ w.grownBy w' (some r) := by
  have hmf : ∀ (fn : Fn) (first cap : Array Value) (w : World), (Instr.makeFunc fn first cap).run Tryd.prog w = .ok (.func fn first cap) w := fun _ _ _ _ => rfl
  obtain ⟨ha, hm, hb, hbel⟩ := three_new w 41 3 9 (.pointer (some ⟨r, 0, none⟩)) (.int .i64 most) (.string ⟨#[]⟩)
  have hs : (((w.alloc (.cells #[.pointer (some ⟨r, 0, none⟩)] 41)).alloc (.cells #[.int .i64 most] 3)).alloc (.cells #[.string ⟨#[]⟩] 9)).heap.size = w.heap.size + 1 + 1 + 1 := by simp
  have HG := Lib.hid (part_bad 49 #[.pointer (some ⟨w.heap.size, 0, none⟩), .pointer (some ⟨w.heap.size + 1, 0, none⟩), .pointer (some ⟨w.heap.size + 1 + 1, 0, none⟩)] (fun _ _ => rfl) r A c l p _ (h.below hbel)
    (fun w' => Blk w' (w.heap.size + 1 + 1) 9 #[.string ⟨#[]⟩] ∧ w.grownBy w' (some r)) fun W hW => by
      have hrl := h.lt
      have hWs := hW.size
      refine (text_stop r w.heap.size (w.heap.size + 1) (w.heap.size + 1 + 1) A c l p false W most ((h.below hbel).below hW) (ha.below hW (by omega)) (hm.below hW (by omega)) (by omega) (by omega) hm1 hm2 hbad).mono ?_
      rintro e w' ⟨rfl, h1, h2⟩
      exact ⟨rfl, h1, fun k hk hkW => h2.block k hkW (by simp; omega), (hb.below hW (by omega)).grown h2 (by simp; omega), only_below (hbel.trans (hW.mono (by omega))) (Nat.le_refl _) h2⟩)
  have HL := Lib.hid h.lt
  have HA := Lib.hid h.al
  clear ha hm hb hbel hs hbad
  go_enter Tryd.func22, Tryd.ntmps22
  go_wp2_with fail
  refine HG.out.mono ?_
  rintro e w3 ⟨rfl, hR, w2, ⟨hb2, hg2⟩, hw3⟩
  have h1 := HL.out
  have hb3 : Blk w3 (w.heap.size + 1 + 1) 9 #[.string ⟨#[]⟩] := by rw [hw3]; exact (hb2.far (by simp; omega) _).far (by simp; omega) _
  have hg : w.grownBy w3 (some r) := by rw [hw3]; exact only_set (only_set hg2 1 _) 2 _
  have b0 := hb3.cell 0
  have bf := hb3.free 0
  simp only [List.getElem?_toArray, List.getElem?_cons_zero] at b0
  clear hw3 hb2 hg2 h1
  go_wp2_with fail
  have hb4 := (hb3.put0 (.string ⟨#[]⟩)).cell 0
  simp only [List.getElem?_toArray, List.getElem?_cons_zero] at hb4
  have h1 := HL.out
  refine bodyPost_ret (v := .string ⟨#[]⟩) (by simp [results, Tryd.results22, go_sem, hb4]) rfl ?_
  exact ⟨rfl, hR.far (by omega) (fun ad e => by have := HA.out ad e; omega) 0 _, only_far hg (by omega) 0 _⟩
end Go.Proofs.YtcklbhplhpohpaaDoor
