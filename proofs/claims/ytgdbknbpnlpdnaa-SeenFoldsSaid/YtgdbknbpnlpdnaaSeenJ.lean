/- slices.Backward at marks, and seen.Last. -/
import Derived.Test.YtgdbknbpnlpdnaaSeenG
import Derived.RangeFuncNested
import Derived.RangeFuncBound
import Derived.RangeFuncCalls
import Derived.RangeFuncLeaves
import Derived.RangeFuncBox
import Derived.Shelf.Abstract
import Derived.Shelf.RegionOpen
import Derived.WalkKit
import Derived.OwnWalkIn
import Derived.TacticsInMore
import Derived.LoopNIn
import Derived.LoopIn
namespace Go.Proofs.Ytgdbknbpnlpdnaa
set_option linter.unusedVariables false
set_option linter.unusedSimpArgs false
open Go.RowKit Go.Shelf

attribute [local go_sem] Oper.semAt_some

/-- what comes, and in which order: the last one first. -/
def backs (ms : List Mk) : List (Int × Mk) := (List.range ms.length).map fun j => (((ms.length - 1 - j : Nat) : Int), ms.getD (ms.length - 1 - j) Mk.zero)
theorem backs_len (ms : List Mk) : (backs ms).length = ms.length := by simp [backs]
theorem backs_take (ms : List Mk) (k : Nat) (hk : k < ms.length) : (backs ms).take (k + 1) = (backs ms).take k ++ [(((ms.length - 1 - k : Nat) : Int), ms[ms.length - 1 - k])] := by
  rw [List.take_succ_eq_append_getElem (by rw [backs_len]; exact hk)]
  congr 1
  simp only [backs, List.getElem_map, List.getElem_range]
  rw [List.getD_eq_getElem?_getD, List.getElem?_eq_getElem (by omega)]
  rfl
theorem backs_marks (ms : List Mk) : (backs ms).map (·.2) = ms.reverse := by
  apply List.ext_getElem
  · simp [backs]
  · intro i h1 h2
    simp only [List.length_map, backs_len] at h1
    simp only [backs, List.getElem_map, List.getElem_range, List.getElem_reverse]
    rw [List.getD_eq_getElem?_getD, List.getElem?_eq_getElem (by omega)]
    rfl

set_option maxRecDepth 100000 in
set_option maxHeartbeats 2000000 in
/-- slices.Backward's closure: for every loop body that keeps what lay below n₀. -/
theorem back1_in (F : Fence) (n : Nat) (h7 : F.fn 62) (hro : F.round = none) (hn : 1 ≤ n) (l Bs n₀ : Nat) (A : Option Addr) (cap : Nat) (ms : List Mk) (hlen : ms.length ≤ 1000000) (J Jx : List (Int × Mk) → World → Prop)
    (hY : ∀ pre x W, J pre W → pre.length < ms.length → YieldAt F (n - 1) Try.prog l #[.int .i64 x.1, x.2.val] W fun e W' =>
      (e = .returned (.bool true) ∧ J (pre ++ [x]) W' ∧ Below n₀ W W') ∨ (e = .returned (.bool false) ∧ Jx (pre ++ [x]) W'))
    (W : World) (hBn : Bs < n₀) (hBs : W.cell? ⟨Bs, 0, none⟩ = some (.slice A ms.length cap)) (hc : ∀ W', Below n₀ W W' → Marks W' A ms) (h0 : J [] W) :
    CallsIn F n Try.prog 62 #[.func (.yield l) #[] #[], .pointer (some ⟨Bs, 0, none⟩)] W fun e W' => (∃ v, e = .returned v) ∧
      ((∃ ys, ys = backs ms ∧ J ys W') ∨ (∃ pre, pre <+: backs ms ∧ Jx pre W')) := by
  refine callsIn_of_wp Try.func62 rfl h7 ?_ hro
  simp only [Try.ntmps62, List.size_toArray, List.length_cons, List.length_nil, Nat.reduceAdd, Nat.reduceSub, Array.replicate_succ, Array.replicate_zero, List.push_toArray, List.append_toArray, List.nil_append, List.cons_append]
  gi_wp2
  gi_loopw [3] (fun i wr => ∃ k : Nat, k ≤ ms.length ∧ i = .int .i64 ((ms.length : Int) - 1 - k) ∧ J ((backs ms).take k) wr ∧ Below n₀ W wr)
    (fun i _ => (intOf i + 1).toNat)
  case atStart => exact ⟨0, Nat.zero_le _, by simp, by simpa using h0, Below.refl _ _⟩
  case round =>
    obtain ⟨k, hk, rfl, hJs, hnx⟩ := hrel
    have hBc : wr.cell? ⟨Bs, 0, none⟩ = some (.slice A ms.length cap) := (hnx.cell (p := ⟨Bs, 0, none⟩) hBn).trans hBs
    by_cases hlt : k < ms.length
    · have hj : ms.length - 1 - k < ms.length := by omega
      have hpl : ((backs ms).take k).length < ms.length := by rw [List.length_take, backs_len]; omega
      obtain ⟨b, o, rfl, _, c0, c1, c2⟩ := (hc wr hnx).at_ hj
      obtain ⟨fn, tmps, assign, body, hy, hR⟩ := hY _ (((ms.length - 1 - k : Nat) : Int), ms[ms.length - 1 - k]) wr hJs hpl
      have HT := Lib.hid (backs_take ms k hlt)
      rw [show (ms.length : Int) - 1 - k = ((ms.length - 1 - k : Nat) : Int) from by omega]
      dsimp only [Mk.val] at hy
      rw [← HT.out] at hR
      generalize ms[ms.length - 1 - k] = x at c0 c1 c2 hy hR HT
      generalize hjj : ms.length - 1 - k = j at c0 c1 c2 hy hR HT hj ⊢
      have HJ := Lib.hid hjj
      clear hjj
      gi_wp2
      refine hR.mono ?_
      rintro e W3 (⟨rfl, hJ3, hk3⟩ | ⟨rfl, hJx3⟩)
      · gi_wp2
        go_roundw
        case rel => exact ⟨k + 1, by omega, by have := HJ.out; congr 1; omega, hJ3, hnx.trans hk3⟩
        case measure => simp [intOf]
      · gi_wp2
        refine bodyPost_ret (results_none rfl _ _ _) rfl ?_
        exact ⟨⟨_, rfl⟩, .inr ⟨_, List.take_prefix _ _, hJx3⟩⟩
    · obtain rfl : k = ms.length := by omega
      gi_wp2
      go_end0
      exact ⟨⟨_, rfl⟩, .inl ⟨_, List.take_of_length_le (by rw [backs_len]; exact Nat.le_refl _), hJs⟩⟩

set_option maxHeartbeats 1000000 in
theorem back_in (F : Fence) (n : Nat) (h5 : F.fn 48) (hro : F.round = none) (a : Option Addr) (len cap : Nat) (w : World) :
    CallsIn F n Try.prog 48 #[.slice a len cap] w fun e w' => e = .returned (.func (.func 62) #[] #[.pointer (some ⟨w.heap.size, 0, none⟩)]) ∧ w' = w.alloc (.cells #[.slice a len cap] 25) := by
  refine callsIn_of_wp Try.func48 rfl h5 ?_ hro
  simp only [Try.ntmps48, List.size_toArray, List.length_cons, List.length_nil, Nat.reduceAdd, Nat.reduceSub, Array.replicate_succ, Array.replicate_zero, List.push_toArray, List.append_toArray, List.nil_append, List.cons_append]
  gi_wp2
  go_ret
  exact ⟨rfl, rfl⟩
theorem back_stops (F : Fence) (n : Nat) (h7 : F.fn 62) (hro : F.round = none) (hn : 1 ≤ n) (Bs n₀ : Nat) (A : Option Addr) (cap : Nat) (ms : List Mk) (hlen : ms.length ≤ 1000000) (w : World) (hBs : Bs < n₀) (hn₀ : n₀ ≤ w.heap.size)
    (hc : w.cell? ⟨Bs, 0, none⟩ = some (.slice A ms.length cap)) (hI : ∀ W', Below n₀ w W' → Marks W' A ms) :
    SeqStopsK F n Try.prog 62 #[.pointer (some ⟨Bs, 0, none⟩)] (fun x : Int × Mk => #[Value.int .i64 x.1, x.2.val]) (Below n₀) (fun ys => ys = backs ms) (fun pre => pre <+: backs ms) ms.length w := fun l J Jx W hW _ _ hY h0 =>
  back1_in F n h7 hro hn l Bs n₀ A cap ms hlen J Jx hY W hBs ((hW.cell (p := ⟨Bs, 0, none⟩) (Nat.lt_of_lt_of_le hBs hn₀)).trans hc) (fun W' h => hI W' ((hW.mono hn₀).trans h)) h0

theorem blk_own {β : Type} (B : Nat) (t : TypeId) (f : β → Array Value) : Own (fun s W => Blk W B t (f s)) := fun s X Y row hs hg hrow =>
  (hg.block B hs.lt (fun e' => by obtain ⟨o, ho, hc⟩ := hrow B e'.symm; rw [show X.heap[B]? = _ from hs] at ho; cases ho; cases hc)).trans hs
def noM (q : Int64) (l : List (Int × Mk)) : Prop := ∀ x ∈ l, (x.2.p.toInt == q.toInt) = false
theorem lastM_backs_none {ms : List Mk} {q : Int64} (h : noM q (backs ms)) : lastM ms q = none := by
  unfold lastM
  rw [List.find?_eq_none, ← backs_marks]
  intro x hx
  obtain ⟨y, hy, rfl⟩ := List.mem_map.1 hx
  simp [h y hy]
theorem lastM_backs_some {ms : List Mk} {q : Int64} {ini : List (Int × Mk)} {last : Int × Mk} (hp : (ini ++ [last]) <+: backs ms) (h : noM q ini) (hl : (last.2.p.toInt == q.toInt) = true) : lastM ms q = some last.2 := by
  obtain ⟨r, hr⟩ := hp
  unfold lastM
  rw [← backs_marks, ← hr, List.map_append, List.map_append, List.append_assoc, List.find?_append]
  have h1 : (ini.map (·.2)).find? (fun m => m.p.toInt == q.toInt) = none := by
    rw [List.find?_eq_none]
    intro x hx
    obtain ⟨y, hy, rfl⟩ := List.mem_map.1 hx
    simp [h y hy]
  rw [h1, List.map_cons, List.cons_append, List.find?_cons_of_pos (by exact hl)]
  rfl

set_option maxRecDepth 100000 in
set_option maxHeartbeats 2000000 in
theorem last_in (F : Fence) (n : Nat) (h4 : F.fn 22) (h6 : F.fn 48) (h8 : F.fn 62) (hro : F.round = none) (hn : 3 ≤ n) (A : Option Addr) (c : Nat) (ms : List Mk) (q : Int64) (w : World) (hA : Marks w A ms) (hlen : ms.length ≤ 1000000) :
    CallsIn F n Try.prog 22 #[.slice A ms.length c, .int .i64 q.toInt] w fun e W' => e = .returned (lastV (lastM ms q)) ∧ Below w.heap.size w W' := by
  have h1 : 1 ≤ n := by omega
  refine callsIn_of_wp_marks Try.func22 rfl h4 ?_ hro
  simp only [Try.ntmps22, List.size_toArray, List.length_cons, List.length_nil, Nat.reduceAdd, Nat.reduceSub, Array.replicate_succ, Array.replicate_zero, List.push_toArray, List.append_toArray, List.nil_append, List.cons_append]
  gi_wp2_with (gi_at_call 48; refine (back_in F (n - 1) h6 hro _ _ _ _).mono ?_; rintro e w' ⟨rfl, rfl⟩)
  obtain ⟨W0, hW0⟩ : ∃ W0 : World, (((w.alloc (.cells #[.int .i64 q.toInt] 3)).alloc (.cells #[.int .i64 0, .int .u64 0, .int .u64 0] 38)).alloc (.cells #[.bool false] 4)).alloc (.cells #[.slice A ms.length c] 25) = W0 := ⟨_, rfl⟩
  have hsz : W0.heap.size = w.heap.size + 1 + 1 + 1 + 1 := by rw [← hW0]; simp
  have hB0 : Below w.heap.size w W0 := by
    rw [← hW0]
    exact ((((Below.refl _ w).alloc (Nat.le_refl _) _).alloc (by simp) _).alloc (by simp; omega) _).alloc (by simp; omega) _
  have b0 : Blk W0 w.heap.size 3 #[.int .i64 q.toInt] := by
    rw [← hW0]; exact (((Blk.new w _ _).alloc _).alloc _).alloc _
  have b1 : Blk W0 (w.heap.size + 1) 38 #[.int .i64 0, .int .u64 0, .int .u64 0] := by
    rw [← hW0]
    have := Blk.new (w.alloc (.cells #[.int .i64 q.toInt] 3)) 38 #[.int .i64 0, .int .u64 0, .int .u64 0]
    rw [alloc_size] at this
    exact (this.alloc _).alloc _
  have b2 : Blk W0 (w.heap.size + 1 + 1) 4 #[.bool false] := by
    rw [← hW0]
    have := Blk.new ((w.alloc (.cells #[.int .i64 q.toInt] 3)).alloc (.cells #[.int .i64 0, .int .u64 0, .int .u64 0] 38)) 4 #[.bool false]
    rw [alloc_size, alloc_size] at this
    exact this.alloc _
  have b3 : Blk W0 (w.heap.size + 1 + 1 + 1) 25 #[.slice A ms.length c] := by
    rw [← hW0]
    have := Blk.new (((w.alloc (.cells #[.int .i64 q.toInt] 3)).alloc (.cells #[.int .i64 0, .int .u64 0, .int .u64 0] 38)).alloc (.cells #[.bool false] 4)) 25 #[.slice A ms.length c]
    rw [alloc_size, alloc_size, alloc_size] at this
    exact this
  rw [hW0]
  have hM : ∀ W', Below W0.heap.size W0 W' → Marks W' A ms := fun W' h => hA.below (hB0.trans (h.mono hB0.size))
  clear hW0 hA
  refine wpIn_rangeFunc_ownH hro h1 (gf := 62) (lb := #[.pointer (some ⟨w.heap.size + 1 + 1 + 1, 0, none⟩)]) rfl h8 (enters_of Try.func62 (by kernel_rfl) rfl)
    (back_stops F (n - 1) h8 hro (by omega) (w.heap.size + 1 + 1 + 1) W0.heap.size A c ms hlen W0 (by omega) (Nat.le_refl _) (b3.cell 0) hM) belowK_t (belowK_b (Nat.le_refl _)) (Below.refl _ _) (fun _ => rfl)
    (fun pre W => (noM q pre ∧ Blk W w.heap.size 3 #[.int .i64 q.toInt] ∧ Blk W (w.heap.size + 1) 38 #[.int .i64 0, .int .u64 0, .int .u64 0] ∧ Blk W (w.heap.size + 1 + 1) 4 #[.bool false]) ∧ Below W0.heap.size W0 W)
    (fun c pre W => (c = .ret ∧ ∃ (ini : List (Int × Mk)) (last : Int × Mk), pre = ini ++ [last] ∧ noM q ini ∧ (last.2.p.toInt == q.toInt) = true ∧ Blk W (w.heap.size + 1) 38 #[.int .i64 last.2.p.toInt, .int .u64 (last.2.s.toNat : Int), .int .u64 (last.2.o.toNat : Int)] ∧ Blk W (w.heap.size + 1 + 1) 4 #[.bool true]) ∧ Below w.heap.size w W)
    (OwnFrom.and (Own.from (fun s X Y row hs hg hr => ⟨hs.1, blk_own _ _ (fun _ => _) s X Y row hs.2.1 hg hr, blk_own _ _ (fun _ => _) s X Y row hs.2.2.1 hg hr, blk_own _ _ (fun _ => _) s X Y row hs.2.2.2 hg hr⟩) _) (ownFrom_below (Nat.le_refl _) (Nat.le_refl _)))
    (fun c => OwnFrom.and (Own.from (fun s X Y row hs hg hr => by
      obtain ⟨hc, ini, last, e1, e2, e3, e4, e5⟩ := hs
      exact ⟨hc, ini, last, e1, e2, e3, blk_own _ _ (fun _ => _) s X Y row e4 hg hr, blk_own _ _ (fun _ => _) s X Y row e5 hg hr⟩) _) (ownFrom_below (Nat.le_refl _) (by omega)))
    ⟨⟨fun x hx => (by cases hx), b0, b1, b2⟩, Below.refl _ _⟩
    (fun x a' W => ∃ B, W0.heap.size ≤ B ∧ Blk W B 38 #[.int .i64 x.2.p.toInt, .int .u64 (x.2.s.toNat : Int), .int .u64 (x.2.o.toNat : Int)] ∧
      a' = { tmps := #[.slice A ms.length c, .int .i64 q.toInt, undef, .pointer (some ⟨w.heap.size, 0, none⟩), .pointer (some ⟨w.heap.size + 1, 0, none⟩), .pointer (some ⟨w.heap.size + 1 + 1, 0, none⟩), undef, .pointer (some ⟨B, 0, none⟩), .slice A ms.length c, .func (.func 62) #[] #[.pointer (some ⟨w.heap.size + 1 + 1 + 1, 0, none⟩)], .int .i64 x.1, .agg #[.int .i64 x.2.p.toInt, .int .u64 (x.2.s.toNat : Int), .int .u64 (x.2.o.toNat : Int)], undef, undef, undef, undef, undef, undef], defers := [] })
    (fun x a' => Own.from (fun s X Y row hs hg hr => by
      obtain ⟨B, e1, e2, e3⟩ := hs
      exact ⟨B, e1, blk_own _ _ (fun _ => _) s X Y row e2 hg hr, e3⟩) _) ?assign ?body ?done ?stop
  case assign =>
    rintro l pre x W K ⟨⟨hn1, i0, i1, i2⟩, hB⟩ hK
    simp only [Mk.val]
    gi_wp2
    exact hK _ _ ((KeepsOthers.alloc _ _).from _) ((Below.refl _ W).alloc hB.size _) ⟨⟨hn1, i0.alloc _, i1.alloc _, i2.alloc _⟩, hB.alloc hB.size _⟩ ⟨W.heap.size, hB.size, Blk.new _ _ _, rfl⟩
  case body =>
    rintro l pre x a' W hl ⟨r, hr⟩ ⟨⟨hn1, i0, i1, i2⟩, hB⟩ ⟨B, hB1, hBx, rfl⟩ hlt
    obtain ⟨xi, x⟩ := x
    simp only at hBx ⊢
    have p0 : W.cell? ⟨w.heap.size, 0, none⟩ = some (.int .i64 q.toInt) := i0.cell 0
    have q0 : W.cell? ⟨B, 0, none⟩ = some (.int .i64 x.p.toInt) := hBx.cell 0
    have q1 : W.cell? ⟨B, 1, none⟩ = some (.int .u64 (x.s.toNat : Int)) := hBx.cell 1
    have q2 : W.cell? ⟨B, 2, none⟩ = some (.int .u64 (x.o.toNat : Int)) := hBx.cell 2
    have r0 : W.cell? ⟨w.heap.size + 1, 0, none⟩ = some (.int .i64 0) := i1.cell 0
    have r1 : W.cell? ⟨w.heap.size + 1, 1, none⟩ = some (.int .u64 0) := i1.cell 1
    have r2 : W.cell? ⟨w.heap.size + 1, 2, none⟩ = some (.int .u64 0) := i1.cell 2
    have f0 := i1.free 0
    have f1 := i1.free 1
    have f2 := i1.free 2
    have s0 : W.cell? ⟨w.heap.size + 1 + 1, 0, none⟩ = some (.bool false) := i2.cell 0
    have g0 := i2.free 0
    have hBw : Below w.heap.size w W := hB0.trans (hB.mono hB0.size)
    cases hx : x.p.toInt == q.toInt with
    | true =>
      have HX := Lib.hid hx
      clear hx
      have hx2 : (x.p.toInt == q.toInt) = true := HX.out
      gi_wp2
      have i1' := (((i1.put 0 (.int .i64 x.p.toInt)).put 1 (.int .u64 (x.s.toNat : Int))).put 2 (.int .u64 (x.o.toNat : Int))).far (p := ⟨w.heap.size + 1 + 1, 0, none⟩) (by simp) (.bool true)
      have i2' := ((((i2.far (p := ⟨w.heap.size + 1, 0, none⟩) (by simp) (.int .i64 x.p.toInt)).far (p := ⟨w.heap.size + 1, 1, none⟩) (by simp) (.int .u64 (x.s.toNat : Int))).far (p := ⟨w.heap.size + 1, 2, none⟩) (by simp) (.int .u64 (x.o.toNat : Int))).put 0 (.bool true))
      exact ⟨((((KeepsOthers.setCell _ _ _).trans (KeepsOthers.setCell _ _ _)).trans (KeepsOthers.setCell _ _ _)).trans (KeepsOthers.setCell _ _ _)).from _, ⟨rfl, pre, (xi, x), rfl, hn1, HX.out, i1', i2'⟩,
        (((hBw.setCell (p := ⟨w.heap.size + 1, 0, none⟩) (by simp) _).setCell (p := ⟨w.heap.size + 1, 1, none⟩) (by simp) _).setCell (p := ⟨w.heap.size + 1, 2, none⟩) (by simp) _).setCell (p := ⟨w.heap.size + 1 + 1, 0, none⟩) (by simp; omega) _⟩
    | false =>
      have HX := Lib.hid hx
      clear hx
      have hx2 : (x.p.toInt == q.toInt) = false := HX.out
      gi_wp2
      exact ⟨(KeepsOthers.refl _).from _, Below.refl _ _, ⟨fun y hy => (List.mem_append.1 hy).elim (hn1 y) (fun e => by simp at e; subst e; exact HX.out), i0, i1, i2⟩, hB⟩
  case done =>
    rintro D ys W hD rfl ⟨⟨hn1, i0, i1, i2⟩, hB⟩ hK
    have HL := Lib.hid (lastM_backs_none hn1)
    clear hn1
    have r0 : W.cell? ⟨w.heap.size + 1, 0, none⟩ = some (.int .i64 0) := i1.cell 0
    have r1 : W.cell? ⟨w.heap.size + 1, 1, none⟩ = some (.int .u64 0) := i1.cell 1
    have r2 : W.cell? ⟨w.heap.size + 1, 2, none⟩ = some (.int .u64 0) := i1.cell 2
    have f0 := i1.free 0
    have f1 := i1.free 1
    have f2 := i1.free 2
    have s0 : W.cell? ⟨w.heap.size + 1 + 1, 0, none⟩ = some (.bool false) := i2.cell 0
    have g0 := i2.free 0
    have hBw : Below w.heap.size w W := hB0.trans (hB.mono hB0.size)
    have i1' := (((i1.put 0 (.int .i64 0)).put 1 (.int .u64 0)).put 2 (.int .u64 0)).far (p := ⟨w.heap.size + 1 + 1, 0, none⟩) (by simp) (.bool false)
    have i2' := ((((i2.far (p := ⟨w.heap.size + 1, 0, none⟩) (by simp) (.int .i64 0)).far (p := ⟨w.heap.size + 1, 1, none⟩) (by simp) (.int .u64 0)).far (p := ⟨w.heap.size + 1, 2, none⟩) (by simp) (.int .u64 0)).put 0 (.bool false))
    have hK' := ((((KeepsOthers.setCell W ⟨w.heap.size + 1, 0, none⟩ (.int .i64 0)).trans (KeepsOthers.setCell _ ⟨w.heap.size + 1, 1, none⟩ (.int .u64 0))).trans (KeepsOthers.setCell _ ⟨w.heap.size + 1, 2, none⟩ (.int .u64 0))).trans (KeepsOthers.setCell _ ⟨w.heap.size + 1 + 1, 0, none⟩ (.bool false))).same D _ hK rfl
    have hBw' := (((hBw.setCell (p := ⟨w.heap.size + 1, 0, none⟩) (by simp) (.int .i64 0)).setCell (p := ⟨w.heap.size + 1, 1, none⟩) (by simp) (.int .u64 0)).setCell (p := ⟨w.heap.size + 1, 2, none⟩) (by simp) (.int .u64 0)).setCell (p := ⟨w.heap.size + 1 + 1, 0, none⟩) (by simp; omega) (.bool false)
    gi_wp2
    clear hBw hK i1 i2 r0 r1 r2 s0 f0 f1 f2 g0 hB i0
    generalize (((W.setCell ⟨w.heap.size + 1, 0, none⟩ (.int .i64 0)).setCell ⟨w.heap.size + 1, 1, none⟩ (.int .u64 0)).setCell ⟨w.heap.size + 1, 2, none⟩ (.int .u64 0)).setCell ⟨w.heap.size + 1 + 1, 0, none⟩ (.bool false) = W5 at i1' i2' hK' hBw' ⊢
    refine ⟨by simp, .inl ⟨_, _, rfl, run_takeDeferred hK', ?_⟩⟩
    have keep : ∀ (a : Addr) (v : Value), W5.cell? a = some v → (W5.putObj D (.deferred none)).cell? a = some v := fun a v h => cell_kept h (grownBy_putObj' _ D (.deferred none)) (fun r e => by cases e; exact ⟨_, hK', rfl⟩)
    have c0 := keep ⟨w.heap.size + 1, 0, none⟩ _ (i1'.cell 0)
    have c1 := keep ⟨w.heap.size + 1, 1, none⟩ _ (i1'.cell 1)
    have c2 := keep ⟨w.heap.size + 1, 2, none⟩ _ (i1'.cell 2)
    have c3 := keep ⟨w.heap.size + 1 + 1, 0, none⟩ _ (i2'.cell 0)
    refine ⟨lastV none, ?_, by rw [HL.out], hBw'.trans (belowK_b (w := w) (Nat.le_refl _) W5 D _ _ (by omega) hK' rfl rfl)⟩
    simp [results, Try.f22, go_sem, lastV, Mk.val, Mk.zero, c0, c1, c2, c3]
  case stop =>
    rintro D c pre W hD hpre ⟨⟨rfl, ini, last, rfl, hn1, hl, i1, i2⟩, hB⟩ hK
    have HL := Lib.hid (lastM_backs_some hpre hn1 hl)
    clear hn1 hpre hl
    gi_wp2
    refine ⟨by simp, .inl ⟨_, _, rfl, run_takeDeferred hK, ?_⟩⟩
    have keep : ∀ (a : Addr) (v : Value), W.cell? a = some v → (W.putObj D (.deferred none)).cell? a = some v := fun a v h => cell_kept h (grownBy_putObj' _ D (.deferred none)) (fun r e => by cases e; exact ⟨_, hK, rfl⟩)
    have c0 := keep ⟨w.heap.size + 1, 0, none⟩ _ (i1.cell 0)
    have c1 := keep ⟨w.heap.size + 1, 1, none⟩ _ (i1.cell 1)
    have c2 := keep ⟨w.heap.size + 1, 2, none⟩ _ (i1.cell 2)
    have c3 := keep ⟨w.heap.size + 1 + 1, 0, none⟩ _ (i2.cell 0)
    refine ⟨lastV (some last.2), ?_, by rw [HL.out], hB.trans (belowK_b (w := w) (Nat.le_refl _) W D _ _ (by omega) hK rfl rfl)⟩
    simp [results, Try.f22, go_sem, lastV, Mk.val, c0, c1, c2, c3]

theorem last_any (A : Option Addr) (c : Nat) (ms : List Mk) (q : Int64) (w : World) (hA : Marks w A ms) (hlen : ms.length ≤ 1000000) :
    Calls Try.prog 22 #[.slice A ms.length c, .int .i64 q.toInt] w fun e w' => e = .returned (lastV (lastM ms q)) ∧ Below w.heap.size w w' :=
  (callsIn_wide (n := 3)).1 (last_in Fence.wide 3 trivial trivial trivial rfl (Nat.le_refl _) A c ms q w hA hlen)
end Go.Proofs.Ytgdbknbpnlpdnaa
