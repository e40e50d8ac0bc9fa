/- Joined texts: BufA, BufB, BufC, BufD, WrA, WrB, WrC. -/
import Derived.Test.YtpjmolnkmlpfeaaGreatDoorJA
import Derived.Test.YtpjmolnkmlpfeaaGreatDoorRegion
import Derived.Lib.AppendZeros
import Derived.Defers
import Derived.Recover
import Derived.Tactics
import Derived.Handy
import Derived.Lib.BufferGrow
import Derived.Test.YtpjmolnkmlpfeaaGreatDoorJB
import Derived.Laws.IdiomStrings
/- bytes.Buffer: what it is in memory; tryGrowByReslice, growSlice. -/
set_option linter.unusedVariables false
set_option linter.unusedSimpArgs false
namespace Go.Proofs.YtpjmolnkmlpfeaaGreatDoor
set_option maxRecDepth 100000
open Go.RowKit

theorem reslice_room (T : TypeId) (b : Nat) (A : Option Addr) (n c k : Nat) (lr : Int) (w : World) (h : Blk w b T #[.slice A n c, .int .i64 0, .int .i8 lr]) (hA : A = none → c = 0) (hs : ∀ ad, A = some ad → ∃ g, ad = ⟨g, 0, none⟩) (hk : n + k ≤ c) (hc : c ≤ 9223372036854775807) :
  Calls Tryz.prog 116 #[.pointer (some ⟨b, 0, none⟩), .int .i64 (k : Int)] w fun e w' => e = .returned (.tuple #[.int .i64 (n : Int), .bool true]) ∧ w' = w.setCell ⟨b, 0, none⟩ (.slice A (n + k) c) := by
 have c0 : w.cell? ⟨b, 0, none⟩ = some (.slice A n c) := h.cell 0
 have f0 : w.frozen? ⟨b, 0, none⟩ = false := h.free 0
 have hd : decide ((k : Int) ≤ (c : Int) - (n : Int)) = true := by rw [decide_eq_true_iff]; omega
 clear h
 cases A with
 | none =>
  obtain rfl := hA rfl
  obtain rfl : n = 0 := by omega
  obtain rfl : k = 0 := by omega
  clear hA hs hk hd
  go_enter Tryz.func116, Tryz.ntmps116
  go_wp2_with fail
  go_ret2
  exact ⟨rfl, rfl⟩
 | some ad =>
  obtain ⟨g, rfl⟩ := hs ad rfl
  clear hA hs
  go_enter Tryz.func116, Tryz.ntmps116
  go_wp2_with fail
  go_ret2
  exact ⟨rfl, rfl⟩
theorem reslice_full (T : TypeId) (b : Nat) (A : Option Addr) (n c k : Nat) (lr : Int) (w : World) (h : Blk w b T #[.slice A n c, .int .i64 0, .int .i8 lr]) (hnc : n ≤ c) (hk : c < n + k) (hc : c ≤ 9223372036854775807) :
  Calls Tryz.prog 116 #[.pointer (some ⟨b, 0, none⟩), .int .i64 (k : Int)] w fun e w' => e = .returned (.tuple #[.int .i64 0, .bool false]) ∧ w = w' := by
 have c0 : w.cell? ⟨b, 0, none⟩ = some (.slice A n c) := h.cell 0
 have hd : decide ((k : Int) ≤ (c : Int) - (n : Int)) = false := by rw [decide_eq_false_iff_not]; omega
 clear h
 go_enter Tryz.func116, Tryz.ntmps116
 go_wp2_with fail
 go_ret2
 exact ⟨rfl, rfl⟩

theorem grow_idle (w : World) : CallsD Tryz.prog 127 #[] .returning w fun e u' w' => e = .returned (.tuple #[]) ∧ u' = .returning ∧ w' = w := by
 refine callsD_of_wpS Tryz.func127 rfl fun c₀ cs hu => ?_
 apply wpS_seq
 apply wpS_region
 simp [wpOpsS, go_sem, recoverD, hu, Tryz.ntmps127, Exit.thenS]
 refine wpS_cond (t := false) (by simp [Act.eval, Array.replicate]) ?_
 simp only [Bool.false_eq_true, if_false]
 refine wpS_of_wp (wp_skip ?_)
 cases c₀
 simp_all [bodyPostS, results, Tryz.results127]
/-- A new row that begins with the cells xs and has room for n. -/
def GrewTo (l n : Nat) (xs : List Value) (w : World) (e : Ending) (w' : World) : Prop :=
 ∃ cap2 cells, e = .returned (.slice (some ⟨w.heap.size, 0, none⟩) l cap2) ∧ w'.heap[w.heap.size]? = some (.cells cells 5 (0, 0)) ∧
   cells.size = cap2 ∧ cells.toList.take l = xs ∧ l + n ≤ cap2 ∧ cap2 ≤ maxLen ∧ Below w.heap.size w w'
set_option maxHeartbeats 1000000 in
/-- growSlice: a new row that begins with the old one's cells. -/
theorem growslice_any (A : Option Addr) (l c n : Nat) (xs : List Value) (w : World) (hx : Reads w 1 A l xs) (hA : A = none → l = 0 ∧ c = 0) (hs : ∀ ad, A = some ad → ∃ g, ad = ⟨g, 0, none⟩) (h1 : ∀ v ∈ xs, v.oneCell' = true) (hlc : l ≤ c) (hn : 1 ≤ n)
  (hlim : l + n ≤ 140737488355328) (hc2 : c ≤ 140737488355328) :
  Calls Tryz.prog 125 #[.slice A l c, .int .i64 (n : Int)] w (GrewTo l n xs w) := by
 obtain ⟨i0, hi, hz0, hz1, hz2⟩ := info_parts info_u8
 obtain ⟨C, hC, hC1, hC2⟩ : ∃ C : Nat, C = max (l + n) (2 * c) ∧ 1 ≤ C ∧ C ≤ 281474976710656 := ⟨_, rfl, by omega, by omega⟩
 have happ := Lib.run_append_nil_zeros (P := Tryz.prog) w 23 3 23 5 i0 (.int .u8 0) .i64 .i64 Tryz.underlying23 Tryz.underlying3 hi hz0 C (by omega) (by omega) (by omega) (by rw [hz2]; omega)
 generalize hcap : grownCap w C 0 5 = cap2 at happ
 have hcapge : C ≤ cap2 := by rw [← hcap]; exact grownCap_ge w _ 0 5
 have hcaple : cap2 ≤ maxLen := by rw [← hcap]; exact grownCap_le_maxLen w _ 0 5 (by unfold maxLen; omega)
 generalize hZ : (Builtin.zeroCells (Value.int .u8 0).cells C ++ Builtin.zeroCells (Value.int .u8 0).cells (cap2 - C)) = Z at happ
 have hZs : Z.size = cap2 := by rw [← hZ]; simp [size_zeroCells, Value.cells]; omega
 have hxl : xs.length = l := by have := hx.1; omega
 have hx2 : Reads (w.alloc (.cells Z 5)).drew 1 A l xs := (hx.alloc _).drew
 have hcopy : (Builtin.copy_ #[23, 23] 3 #[.slice (some ⟨w.heap.size, 0, none⟩) C cap2, .slice A l c]).run Tryz.prog (w.alloc (.cells Z 5)).drew =
   .ok (goInt l) ((w.alloc (.cells Z 5)).drew.setRow w.heap.size (Z.toList.take 0 ++ xs ++ Z.toList.drop (0 + xs.length)).toArray) := by
  cases A with
  | none =>
   obtain ⟨rfl, rfl⟩ := hA rfl
   obtain rfl : xs = [] := List.eq_nil_of_length_eq_zero hxl
   rw [run_copy_nil (P := Tryz.prog) _ _ _ _ 5 _ _ _ Tryz.underlying23 (by rw [hi]; rfl)]
   have hb : (w.alloc (.cells Z 5)).drew.heap[w.heap.size]? = some (.cells Z 5 (0, 0)) := heap_alloc_new w _
   congr 1
   simp only [List.take_zero, List.nil_append, List.length_nil, Nat.add_zero, List.drop_zero, Array.toArray_toList]
   exact (setRow_self _ _ _ _ _ hb).symm
  | some ad =>
   obtain ⟨g, rfl⟩ := hs ad rfl
   have hcells : ∀ j v, xs[j]? = some v → (w.alloc (.cells Z 5)).drew.cell? ((⟨g, 0, none⟩ : Addr).add j) = some v := by
    intro j v hj
    have hj' : j < l := by
     have := (List.getElem?_eq_some_iff.1 hj).1
     omega
    obtain ⟨ad, e, _, hc⟩ := hx2.2 (by omega)
    injection e with e
    subst e
    exact hc j v hj
   have := run_copy_row (P := Tryz.prog) (w.alloc (.cells Z 5)).drew 23 23 3 5 w.heap.size 0 C cap2 ⟨g, 0, none⟩ l c Z 5 xs Tryz.underlying23 size_u8 (heap_alloc_new w _) (by rw [hxl]; exact (Nat.min_eq_left (by omega)).symm) hcells (by rw [hxl]; omega) h1
   rw [this, hxl]
 generalize hY : (Z.toList.take 0 ++ xs ++ Z.toList.drop (0 + xs.length)).toArray = Y at hcopy
 have hYl : Y.toList = xs ++ Z.toList.drop l := by rw [← hY]; simp [hxl]
 have hl2 : l ≤ cap2 := by omega
 have HZ := Lib.hid hZs
 have HY := Lib.hid hYl
 have HX := Lib.hid hxl
 have HC := Lib.hid hC
 clear hcap hZ hY hYl hZs hxl hC hx hx2 hi hz0 hz1 hz2 hA hs h1
 have hcond : ((l : Int) + (n : Int) < 2 * (c : Int) ∧ (C : Int) = 2 * (c : Int)) ∨ (¬ (l : Int) + (n : Int) < 2 * (c : Int) ∧ (C : Int) = (l : Int) + (n : Int)) := by
  have := HC.out
  omega
 rcases hcond with ⟨h2, hCe⟩ | ⟨h2, hCe⟩
 all_goals
  rw [hCe] at happ
  clear hCe
  go_enter_defers Tryz.func125, Tryz.ntmps125
  go_wp2_with (at_builtin; refine Lib.wpList_append_run _ rfl _ _ _ _ rfl _ _ rfl rfl _ _ happ ?_)
  refine leaves_cons (f := 127) (args := #[]) (by simp) (by simp [go_sem]) ?_
  refine (grow_idle _).mono ?_
  rintro e u' w'' ⟨rfl, rfl, rfl⟩
  refine ⟨_, results_tmp rfl _ _ _, ?_⟩
  have hx2 := HX.out
  have hz2 := HZ.out
  have hc2 := HC.out
  refine ⟨cap2, Y, rfl, setRow_heap _ _ Z Y 5 (0, 0) (heap_alloc_new w _), ?_, ?_, by omega, hcaple, ?_⟩
  ·have : Y.toList.length = cap2 := by rw [HY.out, List.length_append, hx2, List.length_drop, Array.length_toList, hz2]; omega
   simpa using this
  ·rw [HY.out, List.take_append_of_le_length (by rw [hx2]; exact Nat.le_refl _), List.take_of_length_le (by rw [hx2]; exact Nat.le_refl _)]
  ·exact ⟨rfl, rfl, rfl, by simp, fun k hk => by rw [setRow_other _ _ _ _ (by omega)]; exact Below.heap_alloc w _ k hk⟩
end Go.Proofs.YtpjmolnkmlpfeaaGreatDoor

/- bytes.Buffer: Len, grow. -/
namespace Go.Proofs.YtpjmolnkmlpfeaaGreatDoor
set_option maxRecDepth 100000
open Go.RowKit

theorem buf_len (T : TypeId) (b : Nat) (A : Option Addr) (n c : Nat) (lr : Int) (w : World) (h : Blk w b T #[.slice A n c, .int .i64 0, .int .i8 lr]) (hn : n ≤ 9223372036854775807) :
  Calls Tryz.prog 123 #[.pointer (some ⟨b, 0, none⟩)] w fun e w' => e = .returned (.int .i64 (n : Int)) ∧ ∃ q, w' = w.drewN q := by
 have c0 : w.cell? ⟨b, 0, none⟩ = some (.slice A n c) := h.cell 0
 have c1 : w.cell? ⟨b, 1, none⟩ = some (.int .i64 0) := h.cell 1
 have hw : IntKind.i64.wrap (n : Int) = n := IntWalk.i64_in _ (by omega)
 clear h
 go_enter Tryz.func123, Tryz.ntmps123
 go_wp2_with fail
 refine PF.b (by kernel_rfl) (fun _ _ _ _ _ h => h) ?_
 refine PF.t 0 (by kernel_rfl) rfl (by go_simp; try rfl) ?_
 try simp only [pz]
 refine PF.t 1 (by kernel_rfl) rfl (by go_simp; try rfl) ?_
 try simp only [pz]
 refine PF.t 2 (by kernel_rfl) rfl (by go_simp; try rfl) ?_
 try simp only [pz]
 refine PF.m 3 (b) (by kernel_rfl) rfl (fun hcu => by go_simp; try rfl) ?_
 try simp only [pz]
 refine PF.t 4 (by kernel_rfl) rfl (by go_simp; try rfl) ?_
 try simp only [pz]
 refine PF.t 5 (by kernel_rfl) rfl (by go_simp; try rfl) ?_
 try simp only [pz]
 refine PF.t 6 (by kernel_rfl) rfl (by go_simp; try rfl) ?_
 try simp only [pz]
 refine PF.t 7 (by kernel_rfl) rfl (by go_simp; try rfl) ?_
 try simp only [pz]
 refine PF.m 8 (b) (by kernel_rfl) rfl (fun hcu => by go_simp; try rfl) ?_
 try simp only [pz]
 refine PF.t 9 (by kernel_rfl) rfl (by go_simp; try rfl) ?_
 try simp only [pz]
 refine PF.t 10 (by kernel_rfl) rfl (by go_simp; try rfl) ?_
 try simp only [pz]
 refine PF.d (by kernel_rfl) ?_
 go_wp2_with fail
 go_ret
 exact ⟨rfl, 1, rfl⟩

/-- The buffer in the block b has a new row: it begins with the cells xs, and is k cells longer. -/
def Bigger (T : TypeId) (b n k : Nat) (lr : Int) (xs : List Value) (w : World) (e : Ending) (w' : World) : Prop :=
 e = .returned (.int .i64 (n : Int)) ∧ ∃ g cap2 cells, w.heap.size ≤ g ∧ Blk w' b T #[.slice (some ⟨g, 0, none⟩) (n + k) cap2, .int .i64 0, .int .i8 lr] ∧ w'.heap[g]? = some (.cells cells 5 (0, 0)) ∧
  cells.size = cap2 ∧ cells.toList.take n = xs ∧ n + k ≤ cap2 ∧ cap2 ≤ maxLen ∧ Mod (· = b) w w'

theorem bigger_of {T : TypeId} {b n k cap2 : Nat} {lr : Int} {xs : List Value} {w w1 w2 : World} {cells : Array Value} {v0 : Value} {p : Nat} (hw1 : ∃ q, w1 = w.drewN q) (hb : Blk w b T #[v0, .int .i64 0, .int .i8 lr]) (hp : p = w1.heap.size) (hN : w2.heap[p]? = some (.cells cells 5 (0, 0)))
  (hs : cells.size = cap2) (ht : cells.toList.take n = xs) (hc : n + k ≤ cap2) (hm : cap2 ≤ maxLen) (hbel : Below w1.heap.size w1 w2) (v1 : Value) :
  Bigger T b n k lr xs w (.returned (.int .i64 (n : Int))) (((w2.setCell ⟨b, 0, none⟩ v1).setCell ⟨b, 1, none⟩ (.int .i64 0)).setCell ⟨b, 0, none⟩ (.slice (some ⟨p, 0, none⟩) (n + k) cap2)) := by
 obtain ⟨q, rfl⟩ := hw1
 have hlt : b < w.heap.size := hb.lt
 subst hp
 have hb2 : Blk w2 b T #[v0, .int .i64 0, .int .i8 lr] := (hb.drewN q).below hbel hlt
 have hne : w.heap.size ≠ b := by omega
 refine ⟨rfl, w.heap.size, cap2, cells, Nat.le_refl _, ((hb2.put 0 v1).put 1 _).put 0 _, ?_, hs, ht, hc, hm, ?_⟩
 ·rw [Below.heap_setCell _ _ _ _ hne, Below.heap_setCell _ _ _ _ hne, Below.heap_setCell _ _ _ _ hne]
  exact hN
 ·have h0 : Mod (· = b) w w2 := ⟨hbel.os, hbel.tape, hbel.output, hbel.size, fun k hk _ => hbel.block k hk⟩
  exact ((h0.set (p := ⟨b, 0, none⟩) (fun _ => rfl) _).set (p := ⟨b, 1, none⟩) (fun _ => rfl) _).set (p := ⟨b, 0, none⟩) (fun _ => rfl) _

set_option maxHeartbeats 1000000 in
theorem grow_row (T : TypeId) (b g n c k : Nat) (lr : Int) (xs : List Value) (w : World) (h : Blk w b T #[.slice (some ⟨g, 0, none⟩) n c, .int .i64 0, .int .i8 lr]) (hx : Reads w 1 (some ⟨g, 0, none⟩) n xs) (h1 : ∀ v ∈ xs, v.oneCell' = true) (hnc : n ≤ c) (hk : c < n + k) (hlim : n + k ≤ 140737488355328) :
  Calls Tryz.prog 117 #[.pointer (some ⟨b, 0, none⟩), .int .i64 (k : Int)] w (Bigger T b n k lr xs w) := by
 have hnil : ∀ W, (binOp .eql 23 (.slice (some ⟨g, 0, none⟩) n c) (.slice none 0 0)).run Tryz.prog W = .ok (.bool false) W := fun W => Lib.run_eql_slice_some_nil W _ _ _ Tryz.underlying23
 have hw1 : IntKind.i64.wrap (k : Int) = k := IntWalk.i64_in _ (by omega)
 have hn0 : n = 0 ∨ ((n : Int) == 0) = false := by
  rcases Nat.eq_zero_or_pos n with h0 | h0
  ·exact .inl h0
  ·exact .inr (by rw [beq_eq_false_iff_ne]; omega)
 have hkk : decide ((k : Int) ≤ (c : Int) / 2 - (n : Int)) = false := by rw [decide_eq_false_iff_not]; omega
 have H := Lib.hid h
 have HX := Lib.hid hx
 have H1 := Lib.hid h1
 clear h hx h1
 rcases hn0 with rfl | hn0
 all_goals
  go_enter Tryz.func117, Tryz.ntmps117
  go_wp2_with fail
  refine (buf_len T b _ _ c lr _ H.out (by omega)).mono ?_
  rintro e w1 ⟨rfl, q, hw1'⟩
  have HW1 := Lib.hid hw1'
  have hb1 := H.out.drewN q
  have hx1 := HX.out.drewN q
  rw [← hw1'] at hb1 hx1
  clear hw1'
  have c0 := hb1.cell 0
  have c1 := hb1.cell 1
  have f0 := hb1.free 0
  have f1 := hb1.free 1
  simp only [List.getElem?_toArray, List.getElem?_cons_succ, List.getElem?_cons_zero] at c0 c1
  go_wp2_with fail
  refine (reslice_full T b _ _ c k lr _ hb1 (by omega) hk (by omega)).mono ?_
  rintro e w2 ⟨rfl, rfl⟩
  go_wp2_with fail
  refine PF.b (by kernel_rfl) (fun _ _ _ _ _ h => h) ?_
  refine PF.t 0 (by kernel_rfl) rfl (by go_simp; try rfl) ?_
  try simp only [pz]
  refine PF.t 1 (by kernel_rfl) rfl (by go_simp; try rfl) ?_
  try simp only [pz]
  refine PF.t 2 (by kernel_rfl) rfl (by go_simp; try rfl) ?_
  try simp only [pz]
  refine PF.t 3 (by kernel_rfl) rfl (by go_simp; try rfl) ?_
  try simp only [pz]
  refine PF.m 4 (b) (by kernel_rfl) rfl (fun hcu => by go_simp; try rfl) ?_
  try simp only [pz]
  refine PF.t 5 (by kernel_rfl) rfl (by go_simp; try rfl) ?_
  try simp only [pz]
  refine PF.t 6 (by kernel_rfl) rfl (by go_simp; try rfl) ?_
  try simp only [pz]
  refine PF.t 7 (by kernel_rfl) rfl (by go_simp; try rfl) ?_
  try simp only [pz]
  refine PF.m 8 (b) (by kernel_rfl) rfl (fun hcu => by go_simp; try rfl) ?_
  try simp only [pz]
  refine PF.t 9 (by kernel_rfl) rfl (by go_simp; try rfl) ?_
  try simp only [pz]
  refine PF.t 10 (by kernel_rfl) rfl (by go_simp; try rfl) ?_
  try simp only [pz]
  refine PF.t 11 (by kernel_rfl) rfl (by go_simp; try rfl) ?_
  try simp only [pz]
  refine PF.t 12 (by kernel_rfl) rfl (by go_simp; try rfl) ?_
  try simp only [pz]
  refine PF.m 13 (b) (by kernel_rfl) rfl (fun hcu => by go_simp; try rfl) ?_
  try simp only [pz]
  refine PF.t 14 (by kernel_rfl) rfl (by go_simp; try rfl) ?_
  try simp only [pz]
  refine PF.t 15 (by kernel_rfl) rfl (by go_simp; try rfl) ?_
  try simp only [pz]
  refine PF.e 16 (by kernel_rfl) rfl fun K hK => ?_
  go_simp
  refine (growslice_any _ _ c k xs _ (Reads.drew hx1) (fun e => by cases e) (fun ad e => ⟨g, by injection e with e; exact e.symm⟩) H1.out hnc (by omega) hlim (by omega)).mono ?_
  rintro e w2 ⟨cap2, cells, rfl, hN, hcs, htk, hcap2, hcm2, hbel⟩
  have hb2 := (Blk.drew hb1).below hbel hb1.lt
  have d0 := hb2.cell 0
  have d1 := hb2.cell 1
  have e0 := hb2.free 0
  have e1 := hb2.free 1
  simp only [List.getElem?_toArray, List.getElem?_cons_succ, List.getElem?_cons_zero] at d0 d1
  refine hK (by repeat (first | exact PF.n | refine PF.l ?_ | refine PF.o (by decide +kernel) ?_ | refine PF.y (by first | rfl | assumption | go_simp) ?_)) ?_
  clear hK K
  try simp only [pz]
  refine PF.t 17 (by kernel_rfl) rfl (by go_simp; try rfl) ?_
  try simp only [pz]
  refine PF.t 18 (by kernel_rfl) rfl (by go_simp; try rfl) ?_
  try simp only [pz]
  refine PF.e 19 (by kernel_rfl) rfl fun K hK => ?_
  go_simp
  refine hK (by repeat (first | exact PF.n | refine PF.l ?_ | refine PF.o (by decide +kernel) ?_ | refine PF.y (by first | rfl | assumption | go_simp) ?_)) ?_
  clear hK K
  try simp only [pz]
  refine PF.d (by kernel_rfl) ?_
  go_wp2_with fail
  go_ret
  have hh := bigger_of (w1 := w1.drew) ⟨q + 1, by rw [HW1.out]; rfl⟩ H.out rfl hN hcs htk hcap2 hcm2 hbel
  first | exact hh _ | (simp only [Nat.zero_add] at hh; exact hh _)
end Go.Proofs.YtpjmolnkmlpfeaaGreatDoor

/- bytes.Buffer: grow of a buffer that has nothing yet; Write. -/
namespace Go.Proofs.YtpjmolnkmlpfeaaGreatDoor
set_option maxRecDepth 100000
open Go.RowKit

set_option maxHeartbeats 1000000 in
theorem grow_nil_big (T : TypeId) (b k : Nat) (lr : Int) (w : World) (h : Blk w b T #[.slice none 0 0, .int .i64 0, .int .i8 lr]) (hk : 64 < k) (hlim : k ≤ 140737488355328) :
  Calls Tryz.prog 117 #[.pointer (some ⟨b, 0, none⟩), .int .i64 (k : Int)] w (Bigger T b 0 k lr [] w) := by
 have hnil : ∀ W, (binOp .eql 23 (.slice none 0 0) (.slice none 0 0)).run Tryz.prog W = .ok (.bool true) W := fun W => Lib.run_eql_slice_nil_nil W _ _ Tryz.underlying23
 have hw1 : IntKind.i64.wrap (k : Int) = k := IntWalk.i64_in _ (by omega)
 have hk64 : decide ((k : Int) ≤ 64) = false := by rw [decide_eq_false_iff_not]; omega
 have hkk : decide ((k : Int) ≤ 0) = false := by rw [decide_eq_false_iff_not]; omega
 have H := Lib.hid h
 clear h
 go_enter Tryz.func117, Tryz.ntmps117
 go_wp2_with fail
 refine (buf_len T b _ _ 0 lr _ H.out (by omega)).mono ?_
 rintro e w1 ⟨rfl, q, hw1'⟩
 have HW1 := Lib.hid hw1'
 have hb1 := H.out.drewN q
 rw [← hw1'] at hb1
 clear hw1'
 have c0 := hb1.cell 0
 have c1 := hb1.cell 1
 have f0 := hb1.free 0
 have f1 := hb1.free 1
 simp only [List.getElem?_toArray, List.getElem?_cons_succ, List.getElem?_cons_zero] at c0 c1
 go_wp2_with fail
 refine (reslice_full T b _ _ 0 k lr _ hb1 (by omega) (by omega) (by omega)).mono ?_
 rintro e w2 ⟨rfl, rfl⟩
 go_wp2_with fail
 refine PF.b (by kernel_rfl) (fun _ _ _ _ _ h => h) ?_
 refine PF.t 0 (by kernel_rfl) rfl (by go_simp; try rfl) ?_
 try simp only [pz]
 refine PF.t 1 (by kernel_rfl) rfl (by go_simp; try rfl) ?_
 try simp only [pz]
 refine PF.t 2 (by kernel_rfl) rfl (by go_simp; try rfl) ?_
 try simp only [pz]
 refine PF.t 3 (by kernel_rfl) rfl (by go_simp; try rfl) ?_
 try simp only [pz]
 refine PF.m 4 (b) (by kernel_rfl) rfl (fun hcu => by go_simp; try rfl) ?_
 try simp only [pz]
 refine PF.t 5 (by kernel_rfl) rfl (by go_simp; try rfl) ?_
 try simp only [pz]
 refine PF.t 6 (by kernel_rfl) rfl (by go_simp; try rfl) ?_
 try simp only [pz]
 refine PF.t 7 (by kernel_rfl) rfl (by go_simp; try rfl) ?_
 try simp only [pz]
 refine PF.m 8 (b) (by kernel_rfl) rfl (fun hcu => by go_simp; try rfl) ?_
 try simp only [pz]
 refine PF.t 9 (by kernel_rfl) rfl (by go_simp; try rfl) ?_
 try simp only [pz]
 refine PF.t 10 (by kernel_rfl) rfl (by go_simp; try rfl) ?_
 try simp only [pz]
 refine PF.t 11 (by kernel_rfl) rfl (by go_simp; try rfl) ?_
 try simp only [pz]
 refine PF.t 12 (by kernel_rfl) rfl (by go_simp; try rfl) ?_
 try simp only [pz]
 refine PF.m 13 (b) (by kernel_rfl) rfl (fun hcu => by go_simp; try rfl) ?_
 try simp only [pz]
 refine PF.t 14 (by kernel_rfl) rfl (by go_simp; try rfl) ?_
 try simp only [pz]
 refine PF.t 15 (by kernel_rfl) rfl (by go_simp; try rfl) ?_
 try simp only [pz]
 refine PF.e 16 (by kernel_rfl) rfl fun K hK => ?_
 go_simp
 refine (growslice_any none 0 0 k [] _ (Reads.nil_ _ _ _) (fun _ => ⟨rfl, rfl⟩) (fun ad e => by cases e) (by simp) (Nat.le_refl _) (by omega) (by omega) (by omega)).mono ?_
 rintro e w2 ⟨cap2, cells, rfl, hN, hcs, htk, hcap2, hcm2, hbel⟩
 have hb2 := (Blk.drew hb1).below hbel hb1.lt
 have d0 := hb2.cell 0
 have d1 := hb2.cell 1
 have e0 := hb2.free 0
 have e1 := hb2.free 1
 simp only [List.getElem?_toArray, List.getElem?_cons_succ, List.getElem?_cons_zero] at d0 d1
 refine hK (by repeat (first | exact PF.n | refine PF.l ?_ | refine PF.o (by decide +kernel) ?_ | refine PF.y (by first | rfl | assumption | go_simp) ?_)) ?_
 clear hK K
 try simp only [pz]
 refine PF.t 17 (by kernel_rfl) rfl (by go_simp; try rfl) ?_
 try simp only [pz]
 refine PF.t 18 (by kernel_rfl) rfl (by go_simp; try rfl) ?_
 try simp only [pz]
 refine PF.e 19 (by kernel_rfl) rfl fun K hK => ?_
 go_simp
 refine hK (by repeat (first | exact PF.n | refine PF.l ?_ | refine PF.o (by decide +kernel) ?_ | refine PF.y (by first | rfl | assumption | go_simp) ?_)) ?_
 clear hK K
 try simp only [pz]
 refine PF.d (by kernel_rfl) ?_
 rw [Nat.zero_add] at hcap2
 go_wp2_with fail
 go_ret
 have hh := bigger_of (n := 0) (k := k) (w1 := w1.drew) ⟨q + 1, by rw [HW1.out]; rfl⟩ H.out rfl hN hcs htk (by omega) hcm2 hbel
 simp only [Nat.zero_add] at hh
 exact hh _

set_option maxHeartbeats 1000000 in
theorem grow_nil_small (T : TypeId) (b k : Nat) (lr : Int) (w : World) (h : Blk w b T #[.slice none 0 0, .int .i64 0, .int .i8 lr]) (hk0 : 0 < k) (hk : k ≤ 64) :
  Calls Tryz.prog 117 #[.pointer (some ⟨b, 0, none⟩), .int .i64 (k : Int)] w (Bigger T b 0 k lr [] w) := by
 have hnil : ∀ W, (binOp .eql 23 (.slice none 0 0) (.slice none 0 0)).run Tryz.prog W = .ok (.bool true) W := fun W => Lib.run_eql_slice_nil_nil W _ _ Tryz.underlying23
 have hk64 : decide ((k : Int) ≤ 64) = true := by rw [decide_eq_true_iff]; omega
 obtain ⟨i0, hi, hz0, hz1, hz2⟩ := info_parts info_u8
 have H := Lib.hid h
 clear h
 go_enter Tryz.func117, Tryz.ntmps117
 go_wp2_with fail
 refine (buf_len T b _ _ 0 lr _ H.out (by omega)).mono ?_
 rintro e w1 ⟨rfl, q, hw1'⟩
 have HW1 := Lib.hid hw1'
 have hb1 := H.out.drewN q
 rw [← hw1'] at hb1
 clear hw1'
 have c0 := hb1.cell 0
 have c1 := hb1.cell 1
 have f0 := hb1.free 0
 have f1 := hb1.free 1
 simp only [List.getElem?_toArray, List.getElem?_cons_succ, List.getElem?_cons_zero] at c0 c1
 have hlt1 := hb1.lt
 go_wp2_with fail
 refine (reslice_full T b _ _ 0 k lr _ hb1 (by omega) (by omega) (by omega)).mono ?_
 rintro e w2 ⟨rfl, rfl⟩
 obtain ⟨M, hM⟩ : ∃ M, M = madeCells (Value.int .u8 0).cells ((64 : Int).toNat * i0.size) := ⟨_, rfl⟩
 have hMs : M.size = 64 := by rw [hM, size_madeCells, hz1]; rfl
 have hmk : ∀ W : World, (Instr.makeSlice 23 (.int .i64 (k : Int)) (.int .i64 64)).run Tryz.prog W = .ok (.slice (some ⟨W.heap.size, 0, none⟩) k 64) (W.alloc (.cells M 5)) := fun W => by
  have h := run_makeSlice (P := Tryz.prog) W 23 5 i0 (.int .u8 0) Tryz.underlying23 hi hz0 .i64 .i64 (k : Int) 64 (by omega) (by omega) (by rw [hz1]; decide) (by rw [hz2]; decide) (by decide)
  rw [← hM] at h
  simpa using h
 have HM := Lib.hid hMs
 clear hM hMs hi hz0 hz1 hz2
 go_wp2_with fail
 go_ret
 have hw1 := HW1.out
 subst hw1
 have hne : w.heap.size ≠ b := by have := H.out.lt; omega
 refine ⟨rfl, w.heap.size, 64, M, Nat.le_refl _, ?_, ?_, HM.out, rfl, by omega, by simp [maxLen], ?_⟩
 ·rw [Nat.zero_add]
  exact (hb1.put 0 _).alloc _
 ·have := heap_alloc_new ((w.drewN q).setCell ⟨b, 0, none⟩ (.slice (some ⟨w.heap.size, 0, none⟩) k 64)) (.cells M 5)
  simpa [World.setCell] using this
 ·exact (((Mod.refl (· = b) w).drewN q).set (p := ⟨b, 0, none⟩) (fun _ => rfl) _).alloc _

/-- The buffer in the block b has the cells xs, in the row 'row'. -/
def Buf (T : TypeId) (w : World) (b : Nat) (row : Option Nat) (xs : List Value) : Prop :=
 ∃ A c lr, Blk w b T #[.slice A xs.length c, .int .i64 0, .int .i8 lr] ∧ w.ownsRow 0 5 1 (.slice A xs.length c) xs.length xs ∧ (Value.slice A xs.length c).ownBlock = row ∧ row ≠ some b
section
variable {T : TypeId} {w w' : World} {b : Nat} {row : Option Nat} {xs : List Value}
theorem Buf.lt (h : Buf T w b row xs) : b < w.heap.size := by
 obtain ⟨_, _, _, h, _⟩ := h
 exact h.lt
theorem Buf.row_lt (h : Buf T w b row xs) : ∀ g, row = some g → g < w.heap.size := by
 obtain ⟨A, c, lr, _, h, rfl, _⟩ := h
 intro g e
 rcases h.2 with ⟨e', _⟩ | ⟨g', c', cur, e', _, hg, _⟩
 ·rw [e'] at e
  simp [Value.ownBlock] at e
 ·rw [e'] at e
  simp [Value.ownBlock] at e
  subst e
  exact (Array.getElem?_eq_some_iff.1 hg).1
theorem Buf.mod {S : Nat → Prop} (h : Buf T w b row xs) (hm : Mod S w w') (hb : ¬ S b) (hr : ∀ g, row = some g → ¬ S g) : Buf T w' b row xs := by
 have hlt := h.row_lt
 obtain ⟨A, c, lr, h1, h2, h3, h4⟩ := h
 refine ⟨A, c, lr, h1.mod hm hb, ⟨h2.1, ?_⟩, h3, h4⟩
 rcases h2.2 with h5 | ⟨g, cap, cur, e, h5, h6, h7⟩
 ·exact .inl h5
 ·refine .inr ⟨g, cap, cur, e, h5, ?_, h7⟩
  have hg : row = some g := by rw [← h3, e]; simp [Value.ownBlock]
  rw [hm.block g (hlt g hg) (hr g hg)]
  exact h6
theorem Buf.new (T : TypeId) (w : World) (lr : Int) : Buf T (w.alloc (.cells #[.slice none 0 0, .int .i64 0, .int .i8 lr] T)) w.heap.size none [] :=
 ⟨none, 0, lr, Blk.new _ _ _, World.ownsRow_nil _ _ _ _, by simp [Value.ownBlock], by simp⟩
end
theorem Buf.mk_ {T : TypeId} {w : World} {b g n c : Nat} {lr : Int} {cur : Array Value} (hb : Blk w b T #[.slice (some ⟨g, 0, none⟩) n c, .int .i64 0, .int .i8 lr]) (hg : w.heap[g]? = some (.cells cur 5 (0, 0))) (hs : cur.size = c) (hn : n ≤ c) (hc : c ≤ maxLen) (hgb : g ≠ b) {xs : List Value} (hx : cur.toList.take n = xs) :
  Buf T w b (some g) xs := by
 have hl : xs.length = n := by rw [← hx, List.length_take, Array.length_toList]; omega
 subst hl
 exact ⟨_, c, lr, hb, ⟨by simp, .inr ⟨g, c, cur, rfl, Nat.zero_le _, hg, hn, hc, by rw [hs, Nat.mul_one], by rw [Nat.mul_one]; exact hx⟩⟩, by simp [Value.ownBlock], by simpa using hgb⟩
end Go.Proofs.YtpjmolnkmlpfeaaGreatDoor

/- bytes.Buffer: Write, Bytes. -/
namespace Go.Proofs.YtpjmolnkmlpfeaaGreatDoor
set_option maxRecDepth 100000
open Go.RowKit

/-- The buffer in the block b has the cells xs now; its row is the one it had, or a new one. -/
def Wrote (T : TypeId) (b : Nat) (row : Option Nat) (xs : List Value) (w w' : World) : Prop :=
 ∃ row', Buf T w' b row' xs ∧ (row' = row ∨ ∃ g, w.heap.size ≤ g ∧ row' = some g) ∧ Mod (fun k => k = b ∨ some k = row) w w'
/-- There is room for k cells more behind the cells xs. -/
def Roomy (T : TypeId) (b : Nat) (row : Option Nat) (k : Nat) (xs : List Value) (w W : World) : Prop :=
 ∃ g cap cur, Blk W b T #[.slice (some ⟨g, 0, none⟩) (xs.length + k) cap, .int .i64 0, .int .i8 0] ∧ W.heap[g]? = some (.cells cur 5 (0, 0)) ∧ cur.size = cap ∧ cur.toList.take xs.length = xs ∧
  xs.length + k ≤ cap ∧ cap ≤ 9223372036854775807 ∧ g ≠ b ∧ (row = some g ∨ w.heap.size ≤ g) ∧ Mod (fun k => k = b) w W
theorem grow_any (T : TypeId) (b : Nat) (row : Option Nat) (A : Option Addr) (c k : Nat) (xs : List Value) (w0 w : World) (hw : Mod (fun k => k = b) w0 w) (_hlt : b < w0.heap.size) (h : Blk w b T #[.slice A xs.length c, .int .i64 0, .int .i8 0]) (ho : w.ownsRow 0 5 1 (.slice A xs.length c) xs.length xs) (h1 : ∀ v ∈ xs, v.oneCell' = true) (hk : c < xs.length + k) (hlim : xs.length + k ≤ 140737488355328) :
  Calls Tryz.prog 117 #[.pointer (some ⟨b, 0, none⟩), .int .i64 (k : Int)] w fun e w' => e = .returned (.int .i64 (xs.length : Int)) ∧ Roomy T b row k xs w0 w' := by
 have key : ∀ e w', Bigger T b xs.length k 0 xs w e w' → e = .returned (.int .i64 (xs.length : Int)) ∧ Roomy T b row k xs w0 w' := by
  rintro e w' ⟨rfl, g, cap2, cells, hg, hb, hN, hcs, htk, hc, hm, hM⟩
  have := hw.size
  exact ⟨rfl, g, cap2, cells, hb, hN, hcs, htk, hc, by simpa [maxLen] using hm, by have := h.lt; omega, .inr (by omega), hw.trans hM⟩
 have hr := Reads.of_own ho
 rcases ho.2 with ⟨e, hl⟩ | ⟨g, c', cur, e, _, _, hnc, _⟩
 ·injection e with e1 e2 e3
  subst e1 e3
  obtain rfl : xs = [] := List.eq_nil_of_length_eq_zero hl
  simp only [List.length_nil] at h hk hlim
  rcases Nat.lt_or_ge 64 k with h64 | h64
  ·exact (grow_nil_big T b k 0 w h h64 (by omega)).mono key
  ·exact (grow_nil_small T b k 0 w h (by omega) h64).mono key
 ·injection e with e1 e2 e3
  subst e1 e3
  exact (grow_row T b g xs.length c k 0 xs w h hr h1 hnc hk hlim).mono key

set_option maxHeartbeats 1000000 in
theorem write_none (T : TypeId) (b : Nat) (row : Option Nat) (xs : List Value) (A : Option Addr) (c : Nat) (w : World) (h : Buf T w b row xs) :
  Calls Tryz.prog 100 #[.pointer (some ⟨b, 0, none⟩), .slice A 0 c] w fun e w' => e = .returned (.tuple #[.int .i64 0, .nilIface]) ∧ Wrote T b row xs w w' := by
 have hB := Lib.hid h
 obtain ⟨V, cv, lr, hb, ho, hrow, hne⟩ := h
 have c2 : w.cell? ⟨b, 2, none⟩ = some (.int .i8 lr) := hb.cell 2
 have f2 : w.frozen? ⟨b, 2, none⟩ = false := hb.free 2
 have hb1 : Blk (w.setCell ⟨b, 2, none⟩ (.int .i8 0)) b T #[.slice V xs.length cv, .int .i64 0, .int .i8 0] := hb.put 2 _
 have hce : ∀ d dLen dCap W, (Builtin.copy_ #[23, 23] 3 #[.slice d dLen dCap, .slice A 0 c]).run Tryz.prog W = .ok (goInt 0) W := fun d dLen dCap W => run_copy_none W 23 23 3 5 d A dLen dCap 0 c Tryz.underlying23 size_u8 (by simp)
 have hV := own_slice ho
 obtain ⟨V', cv', e, hnc, hcm⟩ := hV
 injection e with e1 _ e2
 subst e1 e2
 have hfin : ∀ v, v = Value.slice V (xs.length + 0) cv → Wrote T b row xs w ((w.setCell ⟨b, 2, none⟩ (.int .i8 0)).setCell ⟨b, 0, none⟩ v) := by
  intro v ev
  subst ev
  refine ⟨row, ⟨V, cv, 0, hb1.put 0 _, ?_, hrow, hne⟩, .inl rfl, ((Mod.refl _ w).set (p := ⟨b, 2, none⟩) (fun _ => .inl rfl) _).set (p := ⟨b, 0, none⟩) (fun _ => .inl rfl) _⟩
  exact World.ownsRow.kept ho (only_set (only_set (only_refl w (some b)) 2 _) 0 _) (.inr (by rw [hrow]; exact hne))
 have HF := Lib.hid hfin
 clear hfin hB hcm
 rcases ho.2 with ⟨e, hl⟩ | ⟨g, c', cur, e, _, _, hnc, hcm, _⟩
 ·injection e with e1 e2 e3
  subst e1 e3
  obtain rfl : xs = [] := List.eq_nil_of_length_eq_zero hl
  simp only [List.length_nil] at hb1
  clear ho hl hrow hb hnc
  go_enter Tryz.func100, Tryz.ntmps100
  go_wp2_with fail
  refine (reslice_room T b none 0 0 0 0 _ hb1 (fun _ => rfl) (fun _ e => by cases e) (by omega) (by omega)).mono ?_
  rintro e w2 ⟨rfl, rfl⟩
  have d0 := (hb1.put 0 (.slice none (0 + 0) 0)).cell 0
  simp at d0
  go_wp2_with fail
  go_ret2
  exact ⟨rfl, HF.out _ rfl⟩
 ·injection e with e1 e2 e3
  subst e1 e3
  unfold maxLen at hcm
  clear ho hrow hb
  generalize hn : xs.length = n at hb1 hnc HF
  clear hn
  go_enter Tryz.func100, Tryz.ntmps100
  go_wp2_with fail
  refine (reslice_room T b (some ⟨g, 0, none⟩) n cv 0 0 _ hb1 (fun e => by cases e) (fun ad e => ⟨g, by injection e with e; exact e.symm⟩) (by omega) (by omega)).mono ?_
  rintro e w2 ⟨rfl, rfl⟩
  have d0 := (hb1.put 0 (.slice (some ⟨g, 0, none⟩) (n + 0) cv)).cell 0
  simp at d0
  go_wp2_with fail
  all_goals
   go_ret2
   refine ⟨rfl, HF.out _ ?_⟩
   first | rfl | (congr 1; omega)
/-- The copy's end. -/
theorem wrote_end {T : TypeId} {b g cap : Nat} {row : Option Nat} {xs ys : List Value} {cur : Array Value} {w W : World} (hb : Blk W b T #[.slice (some ⟨g, 0, none⟩) (xs.length + ys.length) cap, .int .i64 0, .int .i8 0]) (hg : W.heap[g]? = some (.cells cur 5 (0, 0))) (hs : cur.size = cap) (hx : cur.toList.take xs.length = xs)
  (hn : xs.length + ys.length ≤ cap) (hc : cap ≤ 9223372036854775807) (hgb : g ≠ b) (hr : row = some g ∨ w.heap.size ≤ g) (hm : Mod (fun k => k = b) w W) :
  Wrote T b row (xs ++ ys) w (W.setRow g (cur.toList.take xs.length ++ ys ++ cur.toList.drop (xs.length + ys.length)).toArray) := by
 have hsz : (cur.toList.take xs.length ++ ys ++ cur.toList.drop (xs.length + ys.length)).toArray.size = cap := by
  rw [hx]
  simp only [List.size_toArray, List.length_append, List.length_drop, Array.length_toList]
  omega
 refine ⟨some g, Buf.mk_ (n := xs.length + ys.length) (c := cap) (lr := 0) ?_ (setRow_heap W g cur _ _ _ hg) hsz hn (by simpa [maxLen] using hc) hgb ?_, ?_, ?_⟩
 ·exact (setRow_other W g b _ (Ne.symm hgb)).trans hb
 ·rw [List.toList_toArray, hx, List.take_append_of_le_length (by rw [List.length_append]; exact Nat.le_refl _), List.take_of_length_le (by rw [List.length_append]; exact Nat.le_refl _)]
 ·rcases hr with h | h
  ·exact .inl h.symm
  ·exact .inr ⟨g, h, rfl⟩
 ·refine (hm.mono (T := fun k => k = b ∨ some k = row) fun k _ h => .inl h).setRow (fun hlt => ?_) _
  rcases hr with h | h
  ·exact .inr h.symm
  ·omega
set_option maxHeartbeats 1000000 in
theorem write_some (T : TypeId) (b : Nat) (row : Option Nat) (xs : List Value) (a o c : Nat) (ys : List Value) (n : Nat) (w : World) (h : Buf T w b row xs) (hn : ys.length = n) (hn0 : 0 < n) (hy : Reads w 1 (some ⟨a, o, none⟩) n ys) (hab : a ≠ b) (har : some a ≠ row) (h1 : ∀ v ∈ xs, v.oneCell' = true) (h1y : ∀ v ∈ ys, v.oneCell' = true) (hlim : xs.length + n ≤ 140737488355328) :
  Calls Tryz.prog 100 #[.pointer (some ⟨b, 0, none⟩), .slice (some ⟨a, o, none⟩) n c] w fun e w' => e = .returned (.tuple #[.int .i64 (n : Int), .nilIface]) ∧ Wrote T b row (xs ++ ys) w w' := by
 obtain ⟨V, cv, lr, hb, ho, hrow, hne⟩ := h
 have c2 : w.cell? ⟨b, 2, none⟩ = some (.int .i8 lr) := hb.cell 2
 have f2 : w.frozen? ⟨b, 2, none⟩ = false := hb.free 2
 have hlt := hb.lt
 have hb1 : Blk (w.setCell ⟨b, 2, none⟩ (.int .i8 0)) b T #[.slice V xs.length cv, .int .i64 0, .int .i8 0] := hb.put 2 _
 have hm1 : Mod (fun k => k = b) w (w.setCell ⟨b, 2, none⟩ (.int .i8 0)) := (Mod.refl (fun k => k = b) w).set (p := ⟨b, 2, none⟩) (fun _ => rfl) _
 have ho1 : (w.setCell ⟨b, 2, none⟩ (.int .i8 0)).ownsRow 0 5 1 (.slice V xs.length cv) xs.length xs := World.ownsRow.kept ho (only_set (only_refl w (some b)) 2 _) (.inr (by rw [hrow]; exact hne))
 have halt : a < w.heap.size := by
  obtain ⟨ad, e, hb, _⟩ := hy.2 hn0
  injection e with e
  subst e
  exact hb
 have hroom : cv < xs.length + n ∨ (xs.length + n ≤ cv ∧ cv ≤ 9223372036854775807 ∧ (∃ g, V = some ⟨g, 0, none⟩) ∧ Roomy T b row n xs w ((w.setCell ⟨b, 2, none⟩ (.int .i8 0)).setCell ⟨b, 0, none⟩ (.slice V (xs.length + n) cv))) := by
  rcases Nat.lt_or_ge cv (xs.length + n) with h | h
  ·exact .inl h
  ·refine .inr ⟨h, ?_⟩
   rcases ho1.2 with ⟨e, hl⟩ | ⟨g, c', cur, e, _, hg, hnc, hcm, hcs, htk⟩
   ·injection e with e1 e2 e3
    omega
   ·injection e with e1 e2 e3
    subst e1 e3
    have hgb : g ≠ b := by
     rintro rfl
     exact hne (by rw [← hrow]; simp [Value.ownBlock])
    unfold maxLen at hcm
    refine ⟨hcm, ⟨g, rfl⟩, g, cv, cur, hb1.put 0 _, ?_, by simpa using hcs, by simpa using htk, h, hcm, hgb, .inl (by rw [← hrow]; simp [Value.ownBlock]), hm1.set (p := ⟨b, 0, none⟩) (fun _ => rfl) _⟩
    rw [Below.heap_setCell _ _ _ _ hgb]
    exact hg
 -- the copy, in whatever world there is room
 have hcopy : ∀ W, Roomy T b row n xs w W → ∃ g cap, W.cell? ⟨b, 0, none⟩ = some (.slice (some ⟨g, 0, none⟩) (xs.length + n) cap) ∧ cap ≠ xs.length ∧ xs.length + n ≤ cap ∧ cap ≤ 9223372036854775807 ∧
   ∃ W', (Builtin.copy_ #[23, 23] 3 #[.slice (some ⟨g, xs.length, none⟩) n (cap - xs.length), .slice (some ⟨a, o, none⟩) n c]).run Tryz.prog W = .ok (goInt n) W' ∧ Wrote T b row (xs ++ ys) w W' := by
  rintro W ⟨g, cap, cur, hbW, hg, hcs, htk, hnc, hcm, hgb, hr, hM⟩
  have hga : a ≠ g := by
   rcases hr with h | h
   ·rintro rfl
    exact har h.symm
   ·omega
  have hyW : Reads W 1 (some ⟨a, o, none⟩) n ys := hy.mod hM fun ad e => by
   injection e with e
   subst e
   exact hab
  refine ⟨g, cap, hbW.cell 0, by omega, hnc, hcm, W.setRow g (cur.toList.take xs.length ++ ys ++ cur.toList.drop (xs.length + ys.length)).toArray, ?_, ?_⟩
  ·have := run_copy_row (P := Tryz.prog) W 23 23 3 5 g xs.length n (cap - xs.length) ⟨a, o, none⟩ n c cur 5 ys Tryz.underlying23 size_u8 hg (by rw [hn]; exact (Nat.min_self n).symm) (fun j v hj => by
    obtain ⟨ad, e, _, hc⟩ := hyW.2 hn0
    injection e with e
    subst e
    exact hc j v hj) (by rw [hn]; omega) h1y
   rw [hn] at this
   rw [hn]
   exact this
  ·subst hn
   exact wrote_end hbW hg hcs htk hnc hcm hgb hr hM
 have HR := Lib.hid hrow
 have HN := Lib.hid hn
 have HC := Lib.hid hcopy
 have HG := fun hk => Lib.hid (grow_any T b row V cv n xs w _ hm1 hlt hb1 ho1 h1 hk hlim)
 have hV := own_slice ho
 obtain ⟨V', cv', e, hnc, hcm⟩ := hV
 injection e with e1 _ e2
 subst e1 e2
 unfold maxLen at hcm
 clear hcopy hrow hn ho ho1 hb hm1 hne hy
 rcases hroom with hlt2 | ⟨hle, _, ⟨g, rfl⟩, hroom⟩
 ·have HG2 := HG hlt2
  clear HG
  go_enter Tryz.func100, Tryz.ntmps100
  go_wp2_with fail
  refine (reslice_full T b V xs.length cv n 0 _ hb1 hnc hlt2 hcm).mono ?_
  rintro e w2 ⟨rfl, rfl⟩
  go_wp2_with fail
  refine HG2.out.mono ?_
  rintro e W ⟨rfl, hr⟩
  obtain ⟨g, cap, d0, hcn, hnc2, hcm2, W', hrun, hw⟩ := HC.out W hr
  have HW := Lib.hid hw
  clear hw hr
  go_wp2_with fail
  go_ret2
  exact ⟨rfl, HW.out⟩
 ·clear HG
  go_enter Tryz.func100, Tryz.ntmps100
  go_wp2_with fail
  refine (reslice_room T b (some ⟨g, 0, none⟩) xs.length cv n 0 _ hb1 (fun e => by cases e) (fun ad e => ⟨g, by injection e with e; exact e.symm⟩) hle hcm).mono ?_
  rintro e W ⟨rfl, hW⟩
  rw [← hW] at hroom
  clear hW
  obtain ⟨g, cap, d0, hcn, hnc2, hcm2, W', hrun, hw⟩ := HC.out W hroom
  have HW := Lib.hid hw
  clear hw hroom
  go_wp2_with fail
  go_ret2
  exact ⟨rfl, HW.out⟩
end Go.Proofs.YtpjmolnkmlpfeaaGreatDoor

/- The writer: what it is; Write of bytes, Raw, Len, Bytes. -/
namespace Go.Proofs.YtpjmolnkmlpfeaaGreatDoor
set_option maxRecDepth 100000
open Go.RowKit

/-- The writer in the block b has the bytes l, in the row 'row'. -/
def Wr (w : World) (b : Nat) (row : Option Nat) (l : List UInt8) : Prop := Buf 142 w b row (l.map bv)
/-- The writer in the block b has the bytes l now; its row is the one it had, or a new one. -/
def Wrt (b : Nat) (row : Option Nat) (l : List UInt8) (w w' : World) : Prop :=
 ∃ row', Wr w' b row' l ∧ (row' = row ∨ ∃ g, w.heap.size ≤ g ∧ row' = some g) ∧ Mod (fun k => k = b ∨ some k = row) w w'
theorem Wrt.of {b : Nat} {row : Option Nat} {l s : List UInt8} {w w' : World} (h : Wrote 142 b row (l.map bv ++ s.map bv) w w') : Wrt b row (l ++ s) w w' := by
 unfold Wrt Wr
 rw [List.map_append]
 exact h
theorem Wrt.step {b : Nat} {row row1 : Option Nat} {s : List UInt8} {w w1 w2 : World} (h2 : row1 = row ∨ ∃ g, w.heap.size ≤ g ∧ row1 = some g) (h3 : Mod (fun k => k = b ∨ some k = row) w w1) (k : Wrt b row1 s w1 w2) : Wrt b row s w w2 := by
 obtain ⟨row2, k1, k2, k3⟩ := k
 refine ⟨row2, k1, ?_, h3.join k3 fun i hi ht => ?_⟩
 ·rcases k2 with rfl | ⟨g, k4, rfl⟩
  ·exact h2
  ·exact .inr ⟨g, Nat.le_trans h3.size k4, rfl⟩
 ·rcases ht with ht | ht
  ·exact .inl ht
  ·rcases h2 with h2 | ⟨g', h4, h5⟩
   ·exact .inr (by rw [ht, h2])
   ·rw [h5] at ht
    injection ht with ht
    omega
theorem Wrt.refl {b : Nat} {row : Option Nat} {l : List UInt8} {w : World} (h : Wr w b row l) : Wrt b row l w w := ⟨row, h, .inl rfl, Mod.refl _ _⟩
/-- What happens ahead in new blocks alone. -/
theorem Wrt.ahead {b : Nat} {row : Option Nat} {l : List UInt8} {w w1 w2 : World} (hb : Below w.heap.size w w1) (hr : ∀ g, row = some g → g < w.heap.size) (h : Wrt b row l w1 w2) : Wrt b row l w w2 := by
 obtain ⟨row2, k1, k2, k3⟩ := h
 refine ⟨row2, k1, ?_, (Mod.below hb (Nat.le_refl _)).join k3 fun i hi ht => ht⟩
 rcases k2 with rfl | ⟨g, k4, rfl⟩
 ·exact .inl rfl
 ·exact .inr ⟨g, Nat.le_trans hb.size k4, rfl⟩
theorem Wr.below {w w' : World} {b : Nat} {row : Option Nat} {l : List UInt8} (h : Wr w b row l) (hb : Below w.heap.size w w') : Wr w' b row l := Buf.mod h (Mod.below (S := fun _ => False) hb (Nat.le_refl _)) (fun h => h) fun _ _ h => h

theorem write_any (b : Nat) (row : Option Nat) (l s : List UInt8) (A : Option Addr) (c n : Nat) (w : World) (h : Wr w b row l) (hs : Bytes w A s) (hn : n = s.length) (hA : 0 < s.length → ∀ ad, A = some ad → ad.block ≠ b ∧ some ad.block ≠ row) (hlim : l.length + s.length ≤ 140737488355328) :
  Calls Tryz.prog 100 #[.pointer (some ⟨b, 0, none⟩), .slice A n c] w fun e w' => e = .returned (.tuple #[.int .i64 (s.length : Int), .nilIface]) ∧ Wrt b row (l ++ s) w w' := by
 subst hn
 rcases Nat.eq_zero_or_pos s.length with h0 | h0
 ·obtain rfl := List.eq_nil_of_length_eq_zero h0
  refine (write_none 142 b row (l.map bv) A c w h).mono ?_
  rintro e w' ⟨rfl, hw⟩
  exact ⟨rfl, by rw [List.append_nil]; exact hw⟩
 ·obtain ⟨g, o, rfl, _, _⟩ := Bytes.flat hs h0
  obtain ⟨h1, h2⟩ := hA h0 _ rfl
  refine (write_some 142 b row (l.map bv) g o c (s.map bv) s.length w h (by simp) h0 hs h1 h2 (bv_one l) (bv_one s) (by simpa using hlim)).mono ?_
  rintro e w' ⟨rfl, hw⟩
  exact ⟨rfl, Wrt.of hw⟩
theorem wraw_any (b : Nat) (row : Option Nat) (l s : List UInt8) (A : Option Addr) (c n : Nat) (w : World) (h : Wr w b row l) (hs : Bytes w A s) (hn : n = s.length) (hA : 0 < s.length → ∀ ad, A = some ad → ad.block ≠ b ∧ some ad.block ≠ row) (hlim : l.length + s.length ≤ 140737488355328) :
  Calls Tryz.prog 83 #[.pointer (some ⟨b, 0, none⟩), .slice A n c] w fun e w' => e = .returned (.tuple #[]) ∧ Wrt b row (l ++ s) w w' := by
 have HW := Lib.hid (write_any b row l s A c n w h hs hn hA hlim)
 clear hn hA hs h
 go_enter Tryz.func83, Tryz.ntmps83
 go_wp2_with fail
 refine HW.out.mono ?_
 rintro e w' ⟨rfl, hw⟩
 have HW2 := Lib.hid hw
 clear hw
 go_wp2_with fail
 go_end0
 exact ⟨rfl, HW2.out⟩
theorem newwriter_any (w : World) : Calls Tryz.prog 71 #[] w fun e w' => e = .returned (.pointer (some ⟨w.heap.size, 0, none⟩)) ∧ Wr w' w.heap.size none [] ∧ w' = w.alloc (.cells #[.slice none 0 0, .int .i64 0, .int .i8 0] 142) := by
 go_enter Tryz.func71, Tryz.ntmps71
 go_wp2_with fail
 go_ret
 exact ⟨rfl, Buf.new _ _ _, rfl⟩
theorem buf_bytes (T : TypeId) (b : Nat) (row : Option Nat) (l : List UInt8) (w : World) (h : Buf T w b row (l.map bv)) :
  Calls Tryz.prog 86 #[.pointer (some ⟨b, 0, none⟩)] w fun e w' => (∃ A c, e = .returned (.slice A l.length c) ∧ Bytes w' A l) ∧ ∃ q, w' = w.drewN q := by
 obtain ⟨A, c, lr, hb, ho, _, _⟩ := h
 have hB : Bytes w A l := by
  have := Reads.of_own ho
  unfold Bytes
  simpa using this
 obtain ⟨_, _, e, h1, h2⟩ := own_slice ho
 injection e with e1 _ e2
 subst e1 e2
 unfold maxLen at h2
 rw [List.length_map] at hb h1
 have c0 : w.cell? ⟨b, 0, none⟩ = some (.slice A l.length c) := hb.cell 0
 have c1 : w.cell? ⟨b, 1, none⟩ = some (.int .i64 0) := hb.cell 1
 have HB := Lib.hid hB
 clear hb ho hB
 cases A with
 | none =>
  have hl : l = [] := by
   rcases Nat.eq_zero_or_pos l.length with h0 | h0
   ·exact List.eq_nil_of_length_eq_zero h0
   ·obtain ⟨g, o, e, _⟩ := Bytes.flat HB.out h0
    cases e
  subst hl
  go_enter Tryz.func86, Tryz.ntmps86
  go_wp2_with fail
  refine PF.b (by kernel_rfl) (fun _ _ _ _ _ h => h) ?_
  refine PF.t 0 (by kernel_rfl) rfl (by go_simp; try rfl) ?_
  try simp only [pz]
  refine PF.t 1 (by kernel_rfl) rfl (by go_simp; try rfl) ?_
  try simp only [pz]
  refine PF.t 2 (by kernel_rfl) rfl (by go_simp; try rfl) ?_
  try simp only [pz]
  refine PF.m 3 (b) (by kernel_rfl) rfl (fun hcu => by go_simp; try rfl) ?_
  try simp only [pz]
  refine PF.t 4 (by kernel_rfl) rfl (by go_simp; try rfl) ?_
  try simp only [pz]
  refine PF.t 5 (by kernel_rfl) rfl (by go_simp; try rfl) ?_
  try simp only [pz]
  refine PF.t 6 (by kernel_rfl) rfl (by go_simp; try rfl) ?_
  try simp only [pz]
  refine PF.m 7 (b) (by kernel_rfl) rfl (fun hcu => by go_simp; try rfl) ?_
  try simp only [pz]
  refine PF.t 8 (by kernel_rfl) rfl (by go_simp; try rfl) ?_
  try simp only [pz]
  refine PF.t 9 (by kernel_rfl) rfl (by go_simp; try rfl) ?_
  try simp only [pz]
  refine PF.d (by kernel_rfl) ?_
  go_wp2_with fail
  go_ret
  exact ⟨⟨_, _, rfl, Bytes.nil_ _ _⟩, 1, rfl⟩
 | some ad =>
  go_enter Tryz.func86, Tryz.ntmps86
  go_wp2_with fail
  refine PF.b (by kernel_rfl) (fun _ _ _ _ _ h => h) ?_
  refine PF.t 0 (by kernel_rfl) rfl (by go_simp; try rfl) ?_
  try simp only [pz]
  refine PF.t 1 (by kernel_rfl) rfl (by go_simp; try rfl) ?_
  try simp only [pz]
  refine PF.t 2 (by kernel_rfl) rfl (by go_simp; try rfl) ?_
  try simp only [pz]
  refine PF.m 3 (b) (by kernel_rfl) rfl (fun hcu => by go_simp; try rfl) ?_
  try simp only [pz]
  refine PF.t 4 (by kernel_rfl) rfl (by go_simp; try rfl) ?_
  try simp only [pz]
  refine PF.t 5 (by kernel_rfl) rfl (by go_simp; try rfl) ?_
  try simp only [pz]
  refine PF.t 6 (by kernel_rfl) rfl (by go_simp; try rfl) ?_
  try simp only [pz]
  refine PF.m 7 (b) (by kernel_rfl) rfl (fun hcu => by go_simp; try rfl) ?_
  try simp only [pz]
  refine PF.t 8 (by kernel_rfl) rfl (by go_simp; try rfl) ?_
  try simp only [pz]
  refine PF.t 9 (by kernel_rfl) rfl (by go_simp; try rfl) ?_
  try simp only [pz]
  refine PF.d (by kernel_rfl) ?_
  go_wp2_with fail
  go_ret
  exact ⟨⟨_, _, rfl, HB.out.mod ((Mod.refl (fun _ => False) _).drew) fun _ _ h => h⟩, 1, rfl⟩
theorem wbytes_any (b : Nat) (row : Option Nat) (l : List UInt8) (w : World) (h : Wr w b row l) (hlim : l.length ≤ 140737488355328) :
  Calls Tryz.prog 75 #[.pointer (some ⟨b, 0, none⟩)] w fun e w' => CloneB w.heap.size l e w' ∧ Below w.heap.size w w' := by
 have HB := Lib.hid (buf_bytes _ b row l w h)
 clear h
 go_enter Tryz.func75, Tryz.ntmps75
 go_wp2_with fail
 refine HB.out.mono ?_
 rintro e w1 ⟨⟨A, c, rfl, hB⟩, q, hq⟩
 have HQ := Lib.hid hq
 clear hq
 go_wp2_with fail
 refine (bclone_any A c l w1 hB hlim).mono ?_
 rintro e w2 ⟨⟨A2, c2, rfl, ho⟩, hb⟩
 go_wp2_with fail
 go_ret
 have hq := HQ.out
 subst hq
 exact ⟨⟨_, _, rfl, ho⟩, hb.os, hb.tape, hb.output, hb.size, hb.block⟩
end Go.Proofs.YtpjmolnkmlpfeaaGreatDoor

/- The writer: U8, U32, digits, Uint, Put, Text. -/
namespace Go.Proofs.YtpjmolnkmlpfeaaGreatDoor
set_option maxRecDepth 100000
open Go.RowKit

theorem Wr.row_lt {w : World} {b : Nat} {row : Option Nat} {l : List UInt8} (h : Wr w b row l) : ∀ g, row = some g → g < w.heap.size := Buf.row_lt h
theorem Wr.lt {w : World} {b : Nat} {row : Option Nat} {l : List UInt8} (h : Wr w b row l) : b < w.heap.size := Buf.lt h
/-- Bytes that lie in new blocks are written. -/
theorem wraw_new (b : Nat) (row : Option Nat) (l s : List UInt8) (A : Option Addr) (c n : Nat) (w w1 : World) (h : Wr w b row l) (hb : Below w.heap.size w w1) (hs : Bytes w1 A s) (hn : n = s.length) (hA : ∀ ad, A = some ad → w.heap.size ≤ ad.block) (hlim : l.length + s.length ≤ 140737488355328) :
  Calls Tryz.prog 83 #[.pointer (some ⟨b, 0, none⟩), .slice A n c] w1 fun e w' => e = .returned (.tuple #[]) ∧ Wrt b row (l ++ s) w w' := by
 refine (wraw_any b row l s A c n w1 (h.below hb) hs hn (fun _ ad e => ?_) hlim).mono ?_
 ·have h1 := hA ad e
  have h2 := h.lt
  refine ⟨by omega, fun e2 => ?_⟩
  have := h.row_lt _ e2.symm
  omega
 ·rintro e w' ⟨rfl, hw⟩
  exact ⟨rfl, Wrt.ahead hb h.row_lt hw⟩
theorem own_new (w : World) (t : TypeId) (us : List Value) (h : us.length ≤ 9223372036854775807) : (w.alloc (.cells us.toArray t)).ownsRow w.heap.size t 1 (.slice (some ⟨w.heap.size, 0, none⟩) us.length us.length) us.length us :=
 ⟨by simp, .inr ⟨w.heap.size, us.length, us.toArray, rfl, Nat.le_refl _, heap_alloc_new w _, Nat.le_refl _, by simpa [maxLen] using h, by simp, by simp⟩⟩
theorem bv_ofNat (n : Nat) : bv (UInt8.ofNat n) = .int .u8 ((n % 256 : Nat) : Int) := by
 unfold bv
 rw [UInt8.toNat_ofNat']
def DigPost (x : Nat) (w : World) (e : Ending) (w' : World) : Prop := ∃ A c, e = .returned (.slice A (short x).length c) ∧ w'.ownsRow w.heap.size 5 1 (.slice A (short x).length c) (short x).length ((short x).map bv) ∧ Below w.heap.size w w'
set_option maxHeartbeats 400000 in
theorem digits_any : ∀ (k x : Nat) (w : World), k ≤ 10 → x < 128 ^ k → 0 < k → x < 18446744073709551616 → Calls Tryz.prog 84 #[.int .u64 (x : Int)] w (DigPost x w) := by
 intro k
 induction k with
 | zero => intro x w _ _ h _; omega
 | succ k ih =>
  intro x w hk10 hk _ hx
  have HK := Lib.hid ih
  clear ih
  by_cases h128 : x < 128
  ·have hd : decide (x < 128) = true := by rw [decide_eq_true_iff]; exact h128
   have hs := short_low h128
   have HS := Lib.hid hs
   clear hs hk
   go_enter Tryz.func84, Tryz.ntmps84
   go_wp2_with fail
   go_ret
   unfold DigPost
   rw [HS.out]
   have ho := own_new w 5 [bv (UInt8.ofNat x)] (by simp)
   have e : bv (UInt8.ofNat x) = .int .u8 (x : Int) := by rw [bv_ofNat]; congr 1; omega
   rw [e] at ho
   refine ⟨some ⟨w.heap.size, 0, none⟩, 1, rfl, ?_, below_new _ _⟩
   rw [List.map_cons, e]
   exact ho
  ·have hk2 : 0 < k := by
    rcases Nat.eq_zero_or_pos k with h0 | h0
    ·subst h0
     simp at hk
     omega
    ·exact h0
   have hdk : x / 128 < 128 ^ k := by
    rw [Nat.pow_succ] at hk
    exact Nat.div_lt_of_lt_mul (by rw [Nat.mul_comm]; exact hk)
   have hs := short_high (x := x) (by omega)
   have HS := Lib.hid hs
   have HC := fun W => Lib.hid (HK.out (x / 128) W (by omega) hdk hk2 (by omega))
   clear hs hk HK hdk
   go_enter Tryz.func84, Tryz.ntmps84
   go_wp2_with fail
   refine (HC _).out.mono ?_
   rintro e w1 ⟨A, c, rfl, ho, hb⟩
   have hl := (short_len (y := x / 128) (by omega))
   have own0 := own_new w 5 [bv (UInt8.ofNat (x % 128 + 128))] (by simp)
   have e1 : bv (UInt8.ofNat (x % 128 + 128)) = .int .u8 ((x : Int) % 128 + 128) := by rw [bv_ofNat]; congr 1; omega
   rw [e1] at own0
   have own1 := own_call own0 hb
   have HE := Lib.hid e1
   clear e1 own0
   have hw : w.heap.size ≤ w1.heap.size := by have := hb.size; simp at this; omega
   generalize hn : (short (x / 128)).length = n at ho hl
   have hR := Reads.of_own ho
   have HN := Lib.hid hn
   clear hn ho
   go_wp2_with (at_builtin; refine app_list bytes_ty rfl (s := .tmp 12) (x := .tmp 15) rfl own1 rfl hR rfl (bv_one _) (by simp; omega) hw ?_; intro v2 w2 hown2 hg2 hv2)
   go_ret
   unfold DigPost
   rw [HS.out]
   obtain ⟨A2, c2, rfl, _, _⟩ := own_slice hown2
   refine ⟨A2, c2, ?_, ?_, ?_⟩
   ·simp [HN.out, Nat.add_comm]
   ·rw [List.map_cons, HE.out, List.length_cons, HN.out, Nat.add_comm]
    exact hown2
   ·exact own_below ((below_new _ _).trans (hb.mono (by simp))) hg2 hw (own_ge own1)
end Go.Proofs.YtpjmolnkmlpfeaaGreatDoor

/- The writer: Uint, Put, Text; what a nil one does. -/
namespace Go.Proofs.YtpjmolnkmlpfeaaGreatDoor
set_option maxRecDepth 100000
open Go.RowKit

theorem wuint_any (b : Nat) (row : Option Nat) (l : List UInt8) (x : Nat) (hx : x < 18446744073709551616) (w : World) (h : Wr w b row l) (hlim : l.length + 10 ≤ 140737488355328) :
  Calls Tryz.prog 74 #[.pointer (some ⟨b, 0, none⟩), .int .u64 (x : Int)] w fun e w' => e = .returned (.tuple #[]) ∧ Wrt b row (l ++ short x) w w' := by
 have hl := short_len hx
 have HD := Lib.hid (digits_any 10 x w (by omega) (by omega) (by omega) hx)
 have H := Lib.hid h
 clear h hx
 go_enter Tryz.func74, Tryz.ntmps74
 go_wp2_with fail
 refine HD.out.mono ?_
 rintro e w1 ⟨A, c, rfl, ho, hb⟩
 have hr := row_at_head ho
 have HW := Lib.hid (wraw_new b row l (short x) A c _ w w1 H.out hb (own_bytes ho) rfl (fun ad e => (hr ad e).2.2.1) (by omega))
 clear ho hr
 go_wp2_with fail
 refine HW.out.mono ?_
 rintro e w2 ⟨rfl, hw⟩
 have HW2 := Lib.hid hw
 clear hw
 go_wp2_with fail
 go_end0
 exact ⟨rfl, HW2.out⟩
theorem wtext_any (b : Nat) (row : Option Nat) (l s : List UInt8) (w : World) (h : Wr w b row l) (hlim : l.length + s.length + 10 ≤ 140737488355328) :
  Calls Tryz.prog 73 #[.pointer (some ⟨b, 0, none⟩), .string ⟨s.toArray⟩] w fun e w' => e = .returned (.tuple #[]) ∧ Wrt b row (l ++ (short s.length ++ s)) w w' := by
 have hl := short_len (y := s.length) (by omega)
 have HU := Lib.hid (wuint_any b row l s.length (by omega) w h (by omega))
 clear h
 go_enter Tryz.func73, Tryz.ntmps73
 go_wp2_with fail
 refine HU.out.mono ?_
 rintro e w1 ⟨rfl, hw⟩
 obtain ⟨row1, h1, h2, h3⟩ := hw
 have H1 := Lib.hid h1
 have H2 := Lib.hid h2
 have H3 := Lib.hid h3
 clear h1 h2 h3
 go_wp2_with (refine str_new_list rfl rfl Tryz.underlying9 Tryz.underlying23 Tryz.underlying5 (l := s) (by omega) rfl ?_; intro c w2 hB hc1 hc2 hb2; have HB2 := Lib.hid hB; have Hb2 := Lib.hid hb2; clear hB hb2)
 refine (wraw_new b row1 _ s _ c s.length w1 w2 H1.out Hb2.out HB2.out rfl (fun ad e => by injection e with e; subst e; exact Nat.le_refl _) (by simp; omega)).mono ?_
 rintro e w3 ⟨rfl, hw⟩
 have HW := Lib.hid hw
 clear hw
 go_wp2_with fail
 go_end0
 refine ⟨rfl, ?_⟩
 rw [← List.append_assoc]
 exact Wrt.step H2.out H3.out HW.out
def u64v (x : Nat) : Value := .int .u64 (x : Int)
set_option maxHeartbeats 400000 in
theorem wput_any (b : Nat) (row : Option Nat) (l : List UInt8) (xs : List Nat) (hx : ∀ x ∈ xs, x < 18446744073709551616) (A : Option Addr) (c n : Nat) (hn : n = xs.length) (w : World) (h : Wr w b row l) (hs : Reads w 1 A n (xs.map u64v)) (hA : ∀ ad, A = some ad → ad.block ≠ b ∧ some ad.block ≠ row) (hlim : l.length + 10 * xs.length ≤ 140737488355328) :
  Calls Tryz.prog 72 #[.pointer (some ⟨b, 0, none⟩), .slice A n c] w fun e w' => e = .returned (.tuple #[]) ∧ Wrt b row (l ++ xs.flatMap short) w w' := by
 have HX := Lib.hid hx
 have HH := Lib.hid h
 have HS := Lib.hid hs
 have HA := Lib.hid hA
 have hn63 : n ≤ 9223372036854775807 := by omega
 have HN := Lib.hid hn
 clear hx h hs hA hn
 go_enter Tryz.func72, Tryz.ntmps72
 go_wp2_with fail
 go_loopw [5, 8] (fun _ i wr => ∃ k : Nat, k ≤ xs.length ∧ i = .int .i64 k ∧ Wrt b row (l ++ (xs.take k).flatMap short) w wr) (fun _ i _ => n - (intOf i).toNat)
 case atStart => exact ⟨0, Nat.zero_le _, rfl, by rw [List.take_zero, List.flatMap_nil, List.append_nil]; exact Wrt.refl HH.out⟩
 case round =>
  obtain ⟨k, hk, rfl, hw⟩ := hrel
  have hnx := HN.out
  by_cases hlt : k < n
  ·obtain ⟨row1, h1, h2, h3⟩ := hw
   have hr : Reads wr 1 A n (xs.map u64v) := HS.out.mod h3 fun ad e => by
    have := HA.out ad e
    rintro (h | h)
    ·exact this.1 h
    ·exact this.2 h
   obtain ⟨g, o, rfl, hg, hcell⟩ := Reads.flat hr (by omega) (by decide)
   have hk2 : k < xs.length := by omega
   have c0 := hcell k (u64v xs[k]) (by rw [List.getElem?_map, List.getElem?_eq_getElem hk2]; rfl)
   unfold u64v at c0
   have hts : (xs.take (k + 1)).flatMap short = (xs.take k).flatMap short ++ short xs[k] := by
    rw [List.take_succ_eq_append_getElem hk2, List.flatMap_append]
    simp
   have hlen : ((xs.take k).flatMap short).length ≤ 10 * k := by
    have : ∀ ys : List Nat, (∀ y ∈ ys, y < 18446744073709551616) → (ys.flatMap short).length ≤ 10 * ys.length := by
     intro ys
     induction ys with
     | nil => simp
     | cons y ys ih =>
      intro hy
      have h1 := short_len (hy y (by simp))
      have h2 := ih fun z hz => hy z (by simp [hz])
      rw [List.flatMap_cons, List.length_append, List.length_cons]
      omega
    have := this (xs.take k) fun y hy => HX.out y (List.mem_of_mem_take hy)
    rw [List.length_take] at this
    omega
   have hU := wuint_any b row1 _ xs[k] (HX.out _ (List.getElem_mem hk2)) wr h1 (by rw [List.length_append]; omega)
   have HU := Lib.hid hU
   have HT := Lib.hid hts
   have H2 := Lib.hid h2
   have H3 := Lib.hid h3
   clear hr hcell hts hlen hU h1 h2 h3 hnx
   generalize xs[k] = x at c0 HU HT
   go_wp2_with fail
   refine HU.out.mono ?_
   rintro e w3 ⟨rfl, hw3⟩
   rw [List.append_assoc, ← HT.out] at hw3
   have HW3 := Lib.hid (Wrt.step H2.out H3.out hw3)
   clear hw3
   go_wp2_with fail
   go_roundw
   case rel => exact ⟨k + 1, by omega, by go_num, HW3.out⟩
   case measure => simp [intOf]; omega
  ·have hki : k = xs.length := by omega
   have HW := Lib.hid hw
   have HK := Lib.hid hki
   clear hw hki hnx
   go_wp2_with fail
   go_end0
   have := HW.out
   rw [HK.out, List.take_length] at this
   exact ⟨rfl, this⟩
/-- Numbers that are written out ('w.Put(x, y)'). -/
theorem wput_new (b : Nat) (row : Option Nat) (l : List UInt8) (xs : List Nat) (hx : ∀ x ∈ xs, x < 18446744073709551616) (cs : Array Value) (hcs : cs = (xs.map u64v).toArray) (n c : Nat) (hn : n = xs.length) (w : World) (h : Wr w b row l) (hlim : l.length + 10 * xs.length ≤ 140737488355328) :
  Calls Tryz.prog 72 #[.pointer (some ⟨b, 0, none⟩), .slice (some ⟨w.heap.size, 0, none⟩) n c] (w.alloc (.cells cs 22)) fun e w' => e = .returned (.tuple #[]) ∧ Wrt b row (l ++ xs.flatMap short) w w' := by
 subst hcs hn
 have hb := below_new w (.cells (xs.map u64v).toArray 22)
 have hr := Reads.block w 22 (xs.map u64v)
 rw [List.length_map] at hr
 refine (wput_any b row l xs hx (some ⟨w.heap.size, 0, none⟩) c _ rfl _ (h.below hb) hr (fun ad e => ?_) hlim).mono fun e w' ⟨h1, h2⟩ => ⟨h1, Wrt.ahead hb h.row_lt h2⟩
 injection e with e
 subst e
 have h1 := h.lt
 refine ⟨by simp only; omega, fun e2 => ?_⟩
 have := h.row_lt _ e2.symm
 simp only at this
 omega
end Go.Proofs.YtpjmolnkmlpfeaaGreatDoor
