/- bytes.Buffer: what it is in memory; tryGrowByReslice, growSlice. -/
import Derived.Test.YtcklbhplhpohpaaDoorClone
import Derived.Test.YtcklbhplhpohpaaDoorRegion
import Derived.Lib.AppendZeros
import Derived.Defers
import Derived.Recover
import Derived.Tactics
import Derived.Handy
namespace Go.Proofs.YtcklbhplhpohpaaDoor
open Go.RowKit

/-- Of the blocks that stood those alone may have changed of which S is true. -/
structure Mod (S : Nat → Prop) (w w' : World) : Prop where
  os : w'.os = w.os
  tape : w'.tape = w.tape
  output : w'.output = w.output
  size : w.heap.size ≤ w'.heap.size
  block : ∀ k, k < w.heap.size → ¬ S k → w'.heap[k]? = w.heap[k]?
section
variable {S T : Nat → Prop} {w w' w'' : World}
theorem Mod.refl (S : Nat → Prop) (w : World) : Mod S w w := ⟨rfl, rfl, rfl, Nat.le_refl _, fun _ _ _ => rfl⟩
theorem Mod.trans (h : Mod S w w') (k : Mod S w' w'') : Mod S w w'' :=
  ⟨k.os.trans h.os, k.tape.trans h.tape, k.output.trans h.output, Nat.le_trans h.size k.size, fun i hi hn => (k.block i (Nat.lt_of_lt_of_le hi h.size) hn).trans (h.block i hi hn)⟩
/-- What is written in new blocks does not count. -/
theorem Mod.join (h : Mod S w w') (k : Mod T w' w'') (hT : ∀ b, b < w.heap.size → T b → S b) : Mod S w w'' :=
  ⟨k.os.trans h.os, k.tape.trans h.tape, k.output.trans h.output, Nat.le_trans h.size k.size, fun i hi hn => (k.block i (Nat.lt_of_lt_of_le hi h.size) fun ht => hn (hT i hi ht)).trans (h.block i hi hn)⟩
theorem Mod.mono (h : Mod S w w') (hT : ∀ b, b < w.heap.size → S b → T b) : Mod T w w' := ⟨h.os, h.tape, h.output, h.size, fun i hi hn => h.block i hi fun hs => hn (hT i hi hs)⟩
theorem Mod.drew (h : Mod S w w') : Mod S w w'.drew := ⟨h.os, h.tape, h.output, h.size, h.block⟩
theorem Mod.drewN (h : Mod S w w') (n : Nat) : Mod S w (w'.drewN n) := ⟨h.os, h.tape, h.output, h.size, h.block⟩
theorem Mod.alloc (h : Mod S w w') (o : Obj) : Mod S w (w'.alloc o) :=
  ⟨h.os, h.tape, h.output, Nat.le_trans h.size (by simp), fun i hi hn => (Below.heap_alloc w' o i (Nat.lt_of_lt_of_le hi h.size)).trans (h.block i hi hn)⟩
theorem Mod.set (h : Mod S w w') {p : Addr} (hp : p.block < w.heap.size → S p.block) (v : Value) : Mod S w (w'.setCell p v) :=
  ⟨h.os, h.tape, h.output, by simpa [World.setCell] using h.size, fun i hi hn => (Below.heap_setCell w' p v i (by
    rintro rfl
    exact hn (hp hi))).trans (h.block i hi hn)⟩
theorem Mod.setRow (h : Mod S w w') {g : Nat} (hp : g < w.heap.size → S g) (cs : Array Value) : Mod S w (w'.setRow g cs) :=
  ⟨h.os, h.tape, h.output, by simpa using h.size, fun i hi hn => (setRow_other w' g i cs (by
    rintro rfl
    exact hn (hp hi))).trans (h.block i hi hn)⟩
theorem Mod.below {B : Nat} (h : Below B w w') (hB : w.heap.size ≤ B) : Mod S w w' := ⟨h.os, h.tape, h.output, h.size, fun i hi _ => h.block i (Nat.lt_of_lt_of_le hi hB)⟩
theorem Mod.grown {row : Option Nat} (h : w.grownBy w' row) (hS : ∀ g, row = some g → g < w.heap.size → S g) : Mod S w w' :=
  ⟨h.os, h.tape, h.output, h.size, fun i hi hn => h.block i hi fun e => hn (hS i e.symm hi)⟩
/-- Nothing that stood has changed. -/
theorem Mod.to_below (h : Mod S w w') {B : Nat} (hB : B ≤ w.heap.size) (hS : ∀ b, b < B → ¬ S b) : Below B w w' := ⟨h.os, h.tape, h.output, h.size, fun i hi => h.block i (Nat.lt_of_lt_of_le hi hB) (hS i hi)⟩
theorem Mod.to_grown (h : Mod S w w') {r : Nat} (hS : ∀ b, b < w.heap.size → S b → b = r) : w.grownBy w' (some r) := ⟨h.os, h.tape, h.output, h.size, fun i hi hn => h.block i hi fun hs => hn (by rw [hS i hi hs])⟩
theorem Blk.mod {g : Nat} {t : TypeId} {cs : Array Value} (h : Blk w g t cs) (hm : Mod S w w') (hg : ¬ S g) : Blk w' g t cs := (hm.block g h.lt hg).trans h
theorem Reads.mod {size n : Nat} {A : Option Addr} {xs : List Value} (h : Reads w size A n xs) (hm : Mod S w w') (hA : ∀ ad, A = some ad → ¬ S ad.block) : Reads w' size A n xs :=
  h.keep hm.size fun p ⟨ad, e, hp⟩ hlt => World.cell?_of_block (hm.block p.block hlt (by rw [hp]; exact hA ad e))
theorem Bytes.mod {A : Option Addr} {l : List UInt8} (h : Bytes w A l) (hm : Mod S w w') (hA : ∀ ad, A = some ad → ¬ S ad.block) : Bytes w' A l := Reads.mod h hm hA
end

theorem reslice_room (T : TypeId) (b : Nat) (A : Option Addr) (n c k : Nat) (lr : Int) (w : World) (h : Blk w b T #[.slice A n c, .int .i64 0, .int .i8 lr]) (hA : A = none → c = 0) (hs : ∀ ad, A = some ad → ∃ g, ad = ⟨g, 0, none⟩) (hk : n + k ≤ c) (hc : c ≤ 9223372036854775807) :
    Calls Tryd.prog 62 #[.pointer (some ⟨b, 0, none⟩), .int .i64 (k : Int)] w fun e w' => e = .returned (.tuple #[.int .i64 (n : Int), .bool true]) ∧ w' = w.setCell ⟨b, 0, none⟩ (.slice A (n + k) c) := by
  have c0 : w.cell? ⟨b, 0, none⟩ = some (.slice A n c) := h.cell 0
  have f0 : w.frozen? ⟨b, 0, none⟩ = false := h.free 0
  have hd : decide ((k : Int) ≤ (c : Int) - (n : Int)) = true := by rw [decide_eq_true_iff]; omega
  clear h
  cases A with
  | none =>
    obtain rfl := hA rfl
    obtain rfl : n = 0 := by omega
    obtain rfl : k = 0 := by omega
    clear hA hs hk hd
    go_enter Tryd.func62, Tryd.ntmps62
    go_wp2_with fail
    go_ret2
    exact ⟨rfl, rfl⟩
  | some ad =>
    obtain ⟨g, rfl⟩ := hs ad rfl
    clear hA hs
    go_enter Tryd.func62, Tryd.ntmps62
    go_wp2_with fail
    go_ret2
    exact ⟨rfl, rfl⟩
theorem reslice_full (T : TypeId) (b : Nat) (A : Option Addr) (n c k : Nat) (lr : Int) (w : World) (h : Blk w b T #[.slice A n c, .int .i64 0, .int .i8 lr]) (hnc : n ≤ c) (hk : c < n + k) (hc : c ≤ 9223372036854775807) :
    Calls Tryd.prog 62 #[.pointer (some ⟨b, 0, none⟩), .int .i64 (k : Int)] w fun e w' => e = .returned (.tuple #[.int .i64 0, .bool false]) ∧ w = w' := by
  have c0 : w.cell? ⟨b, 0, none⟩ = some (.slice A n c) := h.cell 0
  have hd : decide ((k : Int) ≤ (c : Int) - (n : Int)) = false := by rw [decide_eq_false_iff_not]; omega
  clear h
  go_enter Tryd.func62, Tryd.ntmps62
  go_wp2_with fail
  go_ret2
  exact ⟨rfl, rfl⟩

theorem grow_idle (w : World) : CallsD Tryd.prog 66 #[] .returning w fun e u' w' => e = .returned (.tuple #[]) ∧ u' = .returning ∧ w' = w := by
  refine callsD_of_wpS Tryd.func66 rfl fun c₀ cs hu => ?_
  apply wpS_seq
  apply wpS_region
  simp [wpOpsS, go_sem, recoverD, hu, Tryd.ntmps66, Exit.thenS]
  refine wpS_cond (t := false) (by simp [Act.eval, Array.replicate]) ?_
  simp only [Bool.false_eq_true, if_false]
  refine wpS_of_wp (wp_skip ?_)
  cases c₀
  simp_all [bodyPostS, results, Tryd.results66]
/-- A new row that begins with the cells xs and has room for n. -/
def GrewTo (l n : Nat) (xs : List Value) (w : World) (e : Ending) (w' : World) : Prop :=
  ∃ cap2 cells, e = .returned (.slice (some ⟨w.heap.size, 0, none⟩) l cap2) ∧ w'.heap[w.heap.size]? = some (.cells cells 5 (0, 0)) ∧
      cells.size = cap2 ∧ cells.toList.take l = xs ∧ l + n ≤ cap2 ∧ cap2 ≤ maxLen ∧ Below w.heap.size w w'
set_option maxRecDepth 100000 in
set_option maxHeartbeats 1000000 in
/-- growSlice: a new row that begins with the old one's cells. -/
theorem growslice_any (A : Option Addr) (l c n : Nat) (xs : List Value) (w : World) (hx : Reads w 1 A l xs) (hA : A = none → l = 0 ∧ c = 0) (hs : ∀ ad, A = some ad → ∃ g, ad = ⟨g, 0, none⟩) (h1 : ∀ v ∈ xs, v.oneCell' = true) (hlc : l ≤ c) (hn : 1 ≤ n)
    (hlim : l + n ≤ 140737488355328) (hc2 : c ≤ 140737488355328) :
    Calls Tryd.prog 65 #[.slice A l c, .int .i64 (n : Int)] w (GrewTo l n xs w) := by
  obtain ⟨i0, hi, hz0, hz1, hz2⟩ := info_parts info_u8
  obtain ⟨C, hC, hC1, hC2⟩ : ∃ C : Nat, C = max (l + n) (2 * c) ∧ 1 ≤ C ∧ C ≤ 281474976710656 := ⟨_, rfl, by omega, by omega⟩
  have happ := Lib.run_append_nil_zeros (P := Tryd.prog) w 27 3 27 5 i0 (.int .u8 0) .i64 .i64 Tryd.underlying27 Tryd.underlying3 hi hz0 C (by omega) (by omega) (by omega) (by rw [hz2]; omega)
  generalize hcap : grownCap w C 0 5 = cap2 at happ
  have hcapge : C ≤ cap2 := by rw [← hcap]; exact grownCap_ge w _ 0 5
  have hcaple : cap2 ≤ maxLen := by rw [← hcap]; exact grownCap_le_maxLen w _ 0 5 (by unfold maxLen; omega)
  generalize hZ : (Builtin.zeroCells (Value.int .u8 0).cells C ++ Builtin.zeroCells (Value.int .u8 0).cells (cap2 - C)) = Z at happ
  have hZs : Z.size = cap2 := by rw [← hZ]; simp [size_zeroCells, Value.cells]; omega
  have hxl : xs.length = l := by have := hx.1; omega
  have hx2 : Reads (w.alloc (.cells Z 5)).drew 1 A l xs := (hx.alloc _).drew
  have hcopy : (Builtin.copy_ #[27, 27] 3 #[.slice (some ⟨w.heap.size, 0, none⟩) C cap2, .slice A l c]).run Tryd.prog (w.alloc (.cells Z 5)).drew =
      .ok (goInt l) ((w.alloc (.cells Z 5)).drew.setRow w.heap.size (Z.toList.take 0 ++ xs ++ Z.toList.drop (0 + xs.length)).toArray) := by
    cases A with
    | none =>
      obtain ⟨rfl, rfl⟩ := hA rfl
      obtain rfl : xs = [] := List.eq_nil_of_length_eq_zero hxl
      rw [run_copy_nil (P := Tryd.prog) _ _ _ _ 5 _ _ _ Tryd.underlying27 (by rw [hi]; rfl)]
      have hb : (w.alloc (.cells Z 5)).drew.heap[w.heap.size]? = some (.cells Z 5 (0, 0)) := heap_alloc_new w _
      congr 1
      simp only [List.take_zero, List.nil_append, List.length_nil, Nat.add_zero, List.drop_zero, Array.toArray_toList]
      exact (setRow_self _ _ _ _ _ hb).symm
    | some ad =>
      obtain ⟨g, rfl⟩ := hs ad rfl
      have hcells : ∀ j v, xs[j]? = some v → (w.alloc (.cells Z 5)).drew.cell? ((⟨g, 0, none⟩ : Addr).add j) = some v := by
        intro j v hj
        have hj' : j < l := by
          have := (List.getElem?_eq_some_iff.1 hj).1
          omega
        obtain ⟨ad, e, _, hc⟩ := hx2.2 (by omega)
        injection e with e
        subst e
        exact hc j v hj
      have := run_copy_row (P := Tryd.prog) (w.alloc (.cells Z 5)).drew 27 27 3 5 w.heap.size 0 C cap2 ⟨g, 0, none⟩ l c Z 5 xs Tryd.underlying27 size_u8 (heap_alloc_new w _) (by rw [hxl]; exact (Nat.min_eq_left (by omega)).symm) hcells (by rw [hxl]; omega) h1
      rw [this, hxl]
  generalize hY : (Z.toList.take 0 ++ xs ++ Z.toList.drop (0 + xs.length)).toArray = Y at hcopy
  have hYl : Y.toList = xs ++ Z.toList.drop l := by rw [← hY]; simp [hxl]
  have hl2 : l ≤ cap2 := by omega
  have HZ := Lib.hid hZs
  have HY := Lib.hid hYl
  have HX := Lib.hid hxl
  have HC := Lib.hid hC
  clear hcap hZ hY hYl hZs hxl hC hx hx2 hi hz0 hz1 hz2 hA hs h1
  have hcond : ((l : Int) + (n : Int) < 2 * (c : Int) ∧ (C : Int) = 2 * (c : Int)) ∨ (¬ (l : Int) + (n : Int) < 2 * (c : Int) ∧ (C : Int) = (l : Int) + (n : Int)) := by
    have := HC.out
    omega
  rcases hcond with ⟨h2, hCe⟩ | ⟨h2, hCe⟩
  all_goals
    rw [hCe] at happ
    clear hCe
    go_enter_defers Tryd.func65, Tryd.ntmps65
    go_wp2_with (at_builtin; refine Lib.wpList_append_run _ rfl _ _ _ _ rfl _ _ rfl rfl _ _ happ ?_)
    refine leaves_cons (f := 66) (args := #[]) (by simp) (by simp [go_sem]) ?_
    refine (grow_idle _).mono ?_
    rintro e u' w'' ⟨rfl, rfl, rfl⟩
    refine ⟨_, results_tmp rfl _ _ _, ?_⟩
    have hx2 := HX.out
    have hz2 := HZ.out
    have hc2 := HC.out
    refine ⟨cap2, Y, rfl, setRow_heap _ _ Z Y 5 (0, 0) (heap_alloc_new w _), ?_, ?_, by omega, hcaple, ?_⟩
    · have : Y.toList.length = cap2 := by rw [HY.out, List.length_append, hx2, List.length_drop, Array.length_toList, hz2]; omega
      simpa using this
    · rw [HY.out, List.take_append_of_le_length (by rw [hx2]; exact Nat.le_refl _), List.take_of_length_le (by rw [hx2]; exact Nat.le_refl _)]
    · exact ⟨rfl, rfl, rfl, by simp, fun k hk => by rw [setRow_other _ _ _ _ (by omega)]; exact Below.heap_alloc w _ k hk⟩
end Go.Proofs.YtcklbhplhpohpaaDoor
