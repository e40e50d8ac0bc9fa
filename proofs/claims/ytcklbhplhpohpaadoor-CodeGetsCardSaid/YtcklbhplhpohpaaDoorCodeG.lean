/- The reader's methods: U8, Uint. -/
import Derived.Test.YtcklbhplhpohpaaDoorCodeF
namespace Go.Proofs.YtcklbhplhpohpaaDoor
open Go.RowKit

/-- All that stood stands, but for the blocks r and b. -/
structure Only2 (r b : Nat) (w w' : World) : Prop where
  os : w'.os = w.os
  tape : w'.tape = w.tape
  output : w'.output = w.output
  size : w.heap.size ≤ w'.heap.size
  block : ∀ k, k < w.heap.size → k ≠ r → k ≠ b → w'.heap[k]? = w.heap[k]?
section
variable {r b : Nat} {w w' w'' : World}
theorem Only2.of (h : w.grownBy w' (some r)) : Only2 r b w w' := ⟨h.os, h.tape, h.output, h.size, fun k hk h1 _ => h.block k hk (by simpa using h1)⟩
theorem Only2.put (h : Only2 r b w w') (i : Nat) (v : Value) : Only2 r b w (w'.setCell ⟨b, i, none⟩ v) :=
  ⟨h.os, h.tape, h.output, by simpa [World.setCell] using h.size, fun k hk h1 h2 => (Below.heap_setCell w' _ v k (by simpa using h2)).trans (h.block k hk h1 h2)⟩
theorem Only2.putr (h : Only2 r b w w') (i : Nat) (v : Value) : Only2 r b w (w'.setCell ⟨r, i, none⟩ v) :=
  ⟨h.os, h.tape, h.output, by simpa [World.setCell] using h.size, fun k hk h1 h2 => (Below.heap_setCell w' _ v k (by simpa using h1)).trans (h.block k hk h1 h2)⟩
theorem Only2.below (h : Only2 r b w w') (hb : Below w'.heap.size w' w'') : Only2 r b w w'' :=
  ⟨hb.os.trans h.os, hb.tape.trans h.tape, hb.output.trans h.output, Nat.le_trans h.size hb.size, fun k hk h1 h2 => (hb.block k (Nat.lt_of_lt_of_le hk h.size)).trans (h.block k hk h1 h2)⟩
theorem Only2.after {B : Nat} (hb : Below B w w') (hB : w.heap.size ≤ B) (h : Only2 r b w' w'') : Only2 r b w w'' :=
  ⟨h.os.trans hb.os, h.tape.trans hb.tape, h.output.trans hb.output, Nat.le_trans hb.size h.size, fun k hk h1 h2 => (h.block k (Nat.lt_of_lt_of_le hk hb.size) h1 h2).trans (hb.block k (Nat.lt_of_lt_of_le hk hB))⟩
/-- Where the second block is new. -/
theorem Only2.grown (h : Only2 r b w w') (hb : w.heap.size ≤ b) : w.grownBy w' (some r) := ⟨h.os, h.tape, h.output, h.size, fun k hk h1 => h.block k hk (by simpa using h1) (by omega)⟩
end

/-- A reader behind a fault reads nothing. -/
theorem part_off (fv : Value) (r : Nat) (A : Option Addr) (c : Nat) (l : List UInt8) (p : Nat) (w : World) (h : RdB w r A c l p true) :
    Calls Tryd.prog 46 #[.pointer (some ⟨r, 0, none⟩), fv] w fun e w' => e = .returned (.tuple #[]) ∧ Below w.heap.size w w' := by
  have hc := h.below (w' := w.alloc (.cells #[.pointer (some ⟨r, 0, none⟩)] 41)) (below_new _ _)
  have c2 := Blk.cell hc.rd 2
  simp only [List.getElem?_toArray, List.getElem?_cons_succ, List.getElem?_cons_zero] at c2
  go_enter_defers Tryd.func46, Tryd.ntmps46
  go_wp2_with fail
  simp [bodyPostD, Leaves, results, Tryd.results46, go_sem]
  exact below_new _ _
theorem part_nil (fv : Value) (w : World) :
    Calls Tryd.prog 46 #[.pointer none, fv] w fun e w' => e = .returned (.tuple #[]) ∧ Below w.heap.size w w' := by
  go_enter_defers Tryd.func46, Tryd.ntmps46
  go_wp2_with fail
  simp [bodyPostD, Leaves, results, Tryd.results46, go_sem]
  exact below_new _ _

section
variable (r a b : Nat) (A : Option Addr) (c : Nat) (l : List UInt8) (p : Nat) (f : Bool) (W : World)
theorem u8_way (h : RdB W r A c l p f) (x : Value) (ha : Blk W a 41 #[.pointer (some ⟨r, 0, none⟩)]) (hb : Blk W b 5 #[x]) (_har : a ≠ r) (hbr : b ≠ r) (hAb : ∀ ad, A = some ad → ad.block ≠ b) (hlt : p < l.length) :
    Calls Tryd.prog 59 #[.pointer (some ⟨a, 0, none⟩), .pointer (some ⟨b, 0, none⟩)] W fun e w' => e = .returned (.tuple #[]) ∧ RdB w' r A c l (p + 1) f ∧ Blk w' b 5 #[.int .u8 (l[p].toNat : Int)] ∧ Only2 r b W w' := by
  have c0 : W.cell? ⟨a, 0, none⟩ = some (.pointer (some ⟨r, 0, none⟩)) := ha.cell 0
  have hn := next_ok r A c l p f 1 W h hlt
  have hone : (l.drop p).take 1 = [l[p]] := by rw [List.drop_eq_getElem_cons hlt]; rfl
  rw [hone] at hn
  have HN := Lib.hid hn
  clear hn hone
  generalize l[p] = d at HN
  go_enter Tryd.func59, Tryd.ntmps59
  go_wp2_with fail
  refine HN.out.mono ?_
  rintro e w3 ⟨⟨B, rfl, hB⟩, hR3, hg3⟩
  obtain ⟨g, o, rfl, hgl, hcell⟩ := Bytes.flat hB (by simp)
  have d0 : w3.cell? ⟨g, o, none⟩ = some (.int .u8 (d.toNat : Int)) := hcell 0 (by simp)
  have hb3 : Blk w3 b 5 #[x] := hb.grown hg3 (by simpa using hbr)
  have b0 : w3.cell? ⟨b, 0, none⟩ = some x := hb3.cell 0
  have bf : w3.frozen? ⟨b, 0, none⟩ = false := hb3.free 0
  clear hcell hB
  go_wp2_with fail
  go_end0
  exact ⟨rfl, hR3.far hbr hAb 0 _, hb3.put0 _, (Only2.of hg3).put 0 _⟩
theorem u8_stop (h : RdB W r A c l p f) (ha : Blk W a 41 #[.pointer (some ⟨r, 0, none⟩)]) (_har : a ≠ r) (hlt : l.length = p) :
    Calls Tryd.prog 59 #[.pointer (some ⟨a, 0, none⟩), .pointer (some ⟨b, 0, none⟩)] W fun e w' => e = .panicked gaveUp ∧ RdB w' r A c l p f ∧ W.grownBy w' (some r) := by
  have c0 : W.cell? ⟨a, 0, none⟩ = some (.pointer (some ⟨r, 0, none⟩)) := ha.cell 0
  have HN := Lib.hid (next_bad r A c l p f 1 W h (by omega))
  go_enter Tryd.func59, Tryd.ntmps59
  go_wp2_with fail
  refine HN.out.mono ?_
  rintro e w3 ⟨rfl, hR3, hg3⟩
  go_wp2_with fail
  exact ⟨rfl, rfl, hR3, hg3⟩
end
theorem only_far {a w : World} {row : Option Nat} {b : Nat} (h : a.grownBy w row) (hb : a.heap.size ≤ b) (i : Nat) (u : Value) : a.grownBy (w.setCell ⟨b, i, none⟩ u) row :=
  ⟨h.os, h.tape, h.output, by simpa [World.setCell] using h.size, fun k hk hne => (Below.heap_setCell w _ u k (by simp; omega)).trans (h.block k hk hne)⟩
theorem only_below {a w w' : World} {row : Option Nat} {B : Nat} (h : Below B a w) (hB : a.heap.size ≤ B) (k : w.grownBy w' row) : a.grownBy w' row :=
  ⟨k.os.trans h.os, k.tape.trans h.tape, k.output.trans h.output, Nat.le_trans h.size k.size, fun i hi hn => (k.block i (Nat.lt_of_lt_of_le hi h.size) hn).trans (h.block i (Nat.lt_of_lt_of_le hi hB))⟩
/-- The two new blocks of a reading: the reader's address, what is answered. -/
theorem two_new (w : World) (t1 t2 : TypeId) (v1 v2 : Value) : Blk ((w.alloc (.cells #[v1] t1)).alloc (.cells #[v2] t2)) w.heap.size t1 #[v1] ∧ Blk ((w.alloc (.cells #[v1] t1)).alloc (.cells #[v2] t2)) (w.heap.size + 1) t2 #[v2] ∧ Below w.heap.size w ((w.alloc (.cells #[v1] t1)).alloc (.cells #[v2] t2)) := by
  refine ⟨(Blk.new _ _ _).alloc _, ?_, (below_new _ _).alloc (by simp) _⟩
  have := Blk.new (w.alloc (.cells #[v1] t1)) t2 #[v2]
  rw [alloc_size] at this
  exact this

set_option maxHeartbeats 400000 in
theorem u8_ok (r : Nat) (A : Option Addr) (c : Nat) (l : List UInt8) (p : Nat) (w : World) (h : RdB w r A c l p false) (hlt : p < l.length) :
    Calls Tryd.prog 52 #[.pointer (some ⟨r, 0, none⟩)] w fun e w' => e = .returned (.int .u8 (l[p].toNat : Int)) ∧ RdB w' r A c l (p + 1) false ∧ w.grownBy w' (some r) := by
  have hmf : ∀ (fn : Fn) (first cap : Array Value) (w : World), (Instr.makeFunc fn first cap).run Tryd.prog w = .ok (.func fn first cap) w := fun _ _ _ _ => rfl
  obtain ⟨ha, hb, hbel⟩ := two_new w 41 5 (.pointer (some ⟨r, 0, none⟩)) (.int .u8 0)
  have HG := Lib.hid (part_good 59 #[.pointer (some ⟨w.heap.size, 0, none⟩), .pointer (some ⟨w.heap.size + 1, 0, none⟩)] (fun _ _ => rfl) r A c l p _ (h.below hbel)
    (fun w' => RdB w' r A c l (p + 1) false ∧ Blk w' (w.heap.size + 1) 5 #[.int .u8 (l[p].toNat : Int)] ∧ w.grownBy w' (some r)) fun W hW => by
      have hs : w.heap.size + 1 + 1 = ((w.alloc (.cells #[.pointer (some ⟨r, 0, none⟩)] 41)).alloc (.cells #[.int .u8 0] 5)).heap.size := by simp
      refine (u8_way r w.heap.size (w.heap.size + 1) A c l p false W ((h.below hbel).below hW) _ (ha.below hW (by omega)) (hb.below hW (by omega)) (by have := h.lt; omega) (by have := h.lt; omega) (fun ad e => by have := h.al ad e; omega) hlt).mono ?_
      rintro e w' ⟨rfl, h1, h2, h3⟩
      exact ⟨rfl, h1, h2, (h3.after (hbel.trans (hW.mono (by omega))) (Nat.le_refl _)).grown (by omega)⟩)
  have HL := Lib.hid h.lt
  have HA := Lib.hid h.al
  clear ha hb hbel
  go_enter Tryd.func52, Tryd.ntmps52
  go_wp2_with fail
  refine HG.out.mono ?_
  rintro e w3 ⟨rfl, hR, hb3, hg⟩
  have b0 := hb3.cell 0
  have bf := hb3.free 0
  simp only [List.getElem?_toArray, List.getElem?_cons_zero] at b0
  go_wp2_with fail
  have hb4 := (hb3.put0 (.int .u8 (l[p].toNat : Int))).cell 0
  simp only [List.getElem?_toArray, List.getElem?_cons_zero] at hb4
  have h1 := HL.out
  refine bodyPost_ret (v := .int .u8 (l[p].toNat : Int)) (by simp [results, Tryd.results52, go_sem, hb4]) rfl ?_
  exact ⟨rfl, hR.far (by omega) (fun ad e => by have := HA.out ad e; omega) 0 _, only_far hg (by omega) 0 _⟩

set_option maxHeartbeats 400000 in
theorem u8_bad (r : Nat) (A : Option Addr) (c : Nat) (l : List UInt8) (p : Nat) (w : World) (h : RdB w r A c l p false) (hlt : l.length = p) :
    Calls Tryd.prog 52 #[.pointer (some ⟨r, 0, none⟩)] w fun e w' => e = .returned (.int .u8 0) ∧ RdB w' r A c l p true ∧ w.grownBy w' (some r) := by
  have hmf : ∀ (fn : Fn) (first cap : Array Value) (w : World), (Instr.makeFunc fn first cap).run Tryd.prog w = .ok (.func fn first cap) w := fun _ _ _ _ => rfl
  obtain ⟨ha, hb, hbel⟩ := two_new w 41 5 (.pointer (some ⟨r, 0, none⟩)) (.int .u8 0)
  have HG := Lib.hid (part_bad 59 #[.pointer (some ⟨w.heap.size, 0, none⟩), .pointer (some ⟨w.heap.size + 1, 0, none⟩)] (fun _ _ => rfl) r A c l p _ (h.below hbel)
    (fun w' => Blk w' (w.heap.size + 1) 5 #[.int .u8 0] ∧ w.grownBy w' (some r)) fun W hW => by
      have hs : w.heap.size + 1 + 1 = ((w.alloc (.cells #[.pointer (some ⟨r, 0, none⟩)] 41)).alloc (.cells #[.int .u8 0] 5)).heap.size := by simp
      have hrl := h.lt
      refine (u8_stop r w.heap.size (w.heap.size + 1) A c l p false W ((h.below hbel).below hW) (ha.below hW (by omega)) (by omega) hlt).mono ?_
      rintro e w' ⟨rfl, h1, h2⟩
      exact ⟨rfl, ⟨_, h1⟩, fun k hk hkW => h2.block k hkW (by simp; omega), (hb.below hW (by omega)).grown h2 (by simp; omega), only_below (hbel.trans (hW.mono (by omega))) (Nat.le_refl _) h2⟩)
  have HL := Lib.hid h.lt
  have HA := Lib.hid h.al
  clear ha hb hbel
  go_enter Tryd.func52, Tryd.ntmps52
  go_wp2_with fail
  refine HG.out.mono ?_
  rintro e w3 ⟨rfl, hR, w2, ⟨hb2, hg2⟩, hw3⟩
  have h1 := HL.out
  have hb3 : Blk w3 (w.heap.size + 1) 5 #[.int .u8 0] := by rw [hw3]; exact (hb2.far (by simp; omega) _).far (by simp; omega) _
  have hg : w.grownBy w3 (some r) := by rw [hw3]; exact only_set (only_set hg2 1 _) 2 _
  have b0 := hb3.cell 0
  have bf := hb3.free 0
  simp only [List.getElem?_toArray, List.getElem?_cons_zero] at b0
  clear hw3 hb2 hg2 h1
  go_wp2_with fail
  have hb4 := (hb3.put0 (.int .u8 0)).cell 0
  simp only [List.getElem?_toArray, List.getElem?_cons_zero] at hb4
  have h1 := HL.out
  refine bodyPost_ret (v := .int .u8 0) (by simp [results, Tryd.results52, go_sem, hb4]) rfl ?_
  exact ⟨rfl, hR.far (by omega) (fun ad e => by have := HA.out ad e; omega) 0 _, only_far hg (by omega) 0 _⟩
end Go.Proofs.YtcklbhplhpohpaaDoor
