/- Joined texts: JuRm, JuLe, OpenJu, JcS, JuLf, JuSh, JuLk, OpenMd. -/
import Derived.Test.YtpjmolnkmlpfeaaGreatDoorJBE
import Derived.Test.YtpjmolnkmlpfeaaGreatDoorJuLd
import Derived.Test.YtpjmolnkmlpfeaaGreatDoorJQ
import Derived.Test.YtpjmolnkmlpfeaaGreatDoorJG
import Derived.Test.YtpjmolnkmlpfeaaGreatDoorJV
/- The document: may a call be? -/
set_option linter.unusedVariables false
set_option linter.unusedSimpArgs false
namespace Go.Proofs.YtpjmolnkmlpfeaaGreatDoor
set_option maxRecDepth 100000
open Go.RowKit

set_option maxHeartbeats 1000000 in
theorem rcount_any (n : Nat) (w : World) : Calls Tryz.prog 31 #[.int .u64 (n : Int)] w fun e w' => e = .returned (.bool (decide (1 ≤ n ∧ n ≤ 4611686018427387903))) ∧ w' = w := by
 by_cases h1 : 1 ≤ n
 ·have d0 : decide ((1 : Int) ≤ (n : Int)) = true := decide_eq_true (by omega)
  have d1 : decide (1 ≤ n) = true := decide_eq_true h1
  by_cases h2 : n ≤ 4611686018427387903
  ·have d2 : decide ((n : Int) ≤ 4611686018427387903) = true := decide_eq_true (by omega)
   have d3 : decide (n ≤ 4611686018427387903) = true := decide_eq_true h2
   rw [decide_eq_true ⟨h1, h2⟩]
   clear h1 h2
   go_enter Tryz.func31, Tryz.ntmps31
   go_wp2_with fail
   go_ret
   exact ⟨rfl, rfl⟩
  ·have d2 : decide ((n : Int) ≤ 4611686018427387903) = false := decide_eq_false (by omega)
   have d3 : decide (n ≤ 4611686018427387903) = false := decide_eq_false h2
   rw [decide_eq_false fun h => h2 h.2]
   clear h1 h2
   go_enter Tryz.func31, Tryz.ntmps31
   go_wp2_with fail
   go_ret
   exact ⟨rfl, rfl⟩
 ·have d0 : decide ((1 : Int) ≤ (n : Int)) = false := decide_eq_false (by omega)
  have d1 : decide (1 ≤ n) = false := decide_eq_false h1
  rw [decide_eq_false fun h => h1 h.1]
  clear h1
  go_enter Tryz.func31, Tryz.ntmps31
  go_wp2_with fail
  go_ret
  exact ⟨rfl, rfl⟩
set_option maxHeartbeats 16000000 in
theorem rmay_any {K : Nat → Prop} {w : World} {C : Cal} {v : Value} (h : SlB K w v C.body) :
  Calls Tryz.prog 10 #[.agg (calL C v).toArray] w fun e w' => e = .returned (.bool (mayC C)) ∧ Below w.heap.size w w' := by
 obtain ⟨A, c, rfl, _⟩ := h
 obtain ⟨n, hn⟩ : ∃ n, n = C.body.length := ⟨_, rfl⟩
 rw [← hn]
 have HN := Lib.hid hn
 clear hn
 have hB1 : Blk (w.alloc (.cells (calL C (.slice A n c)).toArray 25)) w.heap.size 25 (calL C (.slice A n c)).toArray := Blk.new _ _ _
 have HT := Lib.hid (below_new w (.cells (calL C (.slice A n c)).toArray 25))
 have c0 : (w.alloc (.cells (calL C (.slice A n c)).toArray 25)).cell? ⟨w.heap.size, 0, none⟩ = some (.int .i64 C.cl) := (hB1.cell 0).trans rfl
 have c1 : (w.alloc (.cells (calL C (.slice A n c)).toArray 25)).cell? ⟨w.heap.size, 1, none⟩ = some (.int .u64 (C.inc : Int)) := (hB1.cell 1).trans rfl
 have c2 : (w.alloc (.cells (calL C (.slice A n c)).toArray 25)).cell? ⟨w.heap.size, 2, none⟩ = some (.int .u64 (C.n : Int)) := (hB1.cell 2).trans rfl
 have c3 : (w.alloc (.cells (calL C (.slice A n c)).toArray 25)).cell? ⟨w.heap.size, 3, none⟩ = some (.int .i64 C.kind) := (hB1.cell 3).trans rfl
 have c4 : (w.alloc (.cells (calL C (.slice A n c)).toArray 25)).cell? ⟨w.heap.size, 4, none⟩ = some (.int .i64 C.ch) := (hB1.cell 4).trans rfl
 have c5 : (w.alloc (.cells (calL C (.slice A n c)).toArray 25)).cell? ⟨w.heap.size, 5, none⟩ = some (.int .i64 C.sub) := (hB1.cell 5).trans rfl
 have c6 : (w.alloc (.cells (calL C (.slice A n c)).toArray 25)).cell? ⟨w.heap.size, 6, none⟩ = some (.int .u64 (C.seq : Int)) := (hB1.cell 6).trans rfl
 have c7 : (w.alloc (.cells (calL C (.slice A n c)).toArray 25)).cell? ⟨w.heap.size, 7, none⟩ = some (.int .u64 (C.at_ : Int)) := (hB1.cell 7).trans rfl
 have c8 : (w.alloc (.cells (calL C (.slice A n c)).toArray 25)).cell? ⟨w.heap.size, 8, none⟩ = some (.slice A n c) := (hB1.cell 8).trans rfl
 clear hB1
 by_cases hz : 0 < n
 ·have z0 : decide (0 < n) = true := decide_eq_true hz
  have z1 : decide ((0 : Int) < (n : Int)) = true := decide_eq_true (by omega)
  have HZ := Lib.hid hz
  clear hz
  go_enter Tryz.func10, Tryz.ntmps10
  go_wp2_with (first | (go_at_call 31; refine (rcount_any _ _).mono ?_; rintro e w' ⟨rfl, rfl⟩))
  all_goals
   go_ret
   refine ⟨ret_bool ?_, HT.out⟩
   have hn := HN.out; have hzz := HZ.out
   unfold mayC
   try simp only [beq_iff_eq, bne_iff_ne, decide_eq_true_eq, decide_eq_false_iff_not, beq_eq_false_iff_ne, Bool.not_eq_true'] at *
   rw [Bool.eq_iff_iff]
   try simp only [beq_iff_eq, bne_iff_ne, decide_eq_true_eq, decide_eq_false_iff_not, beq_eq_false_iff_ne, Bool.not_eq_true', Bool.false_eq_true, true_iff, false_iff]
   unfold MayP
   omega
 ·have z0 : decide (0 < n) = false := decide_eq_false hz
  have z1 : decide ((0 : Int) < (n : Int)) = false := decide_eq_false (by omega)
  have HZ := Lib.hid hz
  clear hz
  go_enter Tryz.func10, Tryz.ntmps10
  go_wp2_with (first | (go_at_call 31; refine (rcount_any _ _).mono ?_; rintro e w' ⟨rfl, rfl⟩))
  all_goals
   go_ret
   refine ⟨ret_bool ?_, HT.out⟩
   have hn := HN.out; have hzz := HZ.out
   unfold mayC
   try simp only [beq_iff_eq, bne_iff_ne, decide_eq_true_eq, decide_eq_false_iff_not, beq_eq_false_iff_ne, Bool.not_eq_true'] at *
   rw [Bool.eq_iff_iff]
   try simp only [beq_iff_eq, bne_iff_ne, decide_eq_true_eq, decide_eq_false_iff_not, beq_eq_false_iff_ne, Bool.not_eq_true', Bool.false_eq_true, true_iff, false_iff]
   unfold MayP
   first | omega | (simp only [Bool.or_eq_true, beq_iff_eq]; omega)
end Go.Proofs.YtpjmolnkmlpfeaaGreatDoor

/- The law JudgeLong, walked. -/
namespace Go.Proofs.YtpjmolnkmlpfeaaGreatDoor
set_option maxRecDepth 100000
open Go.RowKit

/-- What a call's numbers are. -/
structure CalOk (C : Cal) : Prop where
 id : IdOk (idOf C)
 seq : C.seq < 18446744073709551616
 at_ : C.at_ < 18446744073709551616
theorem i64_and7 (n : Int) : bits .and .i64 n 7 = n % 8 := by
 have h1 : (BitVec.ofInt 64 n &&& BitVec.ofInt 64 7).toNat = (BitVec.ofInt 64 n).toNat % 8 := by
  rw [BitVec.toNat_and, show (BitVec.ofInt 64 7).toNat = 7 by decide]
  exact Nat.and_two_pow_sub_one_eq_mod _ 3
 show IntKind.i64.wrap ((BitVec.ofInt 64 n &&& BitVec.ofInt 64 7).toNat : Int) = _
 rw [h1, BitVec.toNat_ofInt, IntKind.wrap_i64]
 omega
def longV (C : Cal) (u : Value) : Nat → List NtV
 | 0 => []
 | k + 1 => longV C u k ++ [begV (atN C (k + 1)) u, endV (atN C (k + 1)) (saysR (atN C (k + 1)) 3 0 0) u nilV]
theorem longV_map (C : Cal) (u : Value) : ∀ k, (longV C u k).map (·.n) = longH C k
 | 0 => rfl
 | k + 1 => by
  show (longV C u k ++ _).map (·.n) = longH C k ++ _
  rw [List.map_append, longV_map C u k]
  rfl
theorem longV_len (C : Cal) (u : Value) (k : Nat) : (longV C u k).length = 2 * k := by
 have := congrArg List.length (longV_map C u k)
 rwa [List.length_map, longH_len] at this
theorem longV_sl {K : Nat → Prop} {w : World} {C : Cal} {u : Value} (h : SlB K w u C.body) : ∀ k, ∀ x ∈ longV C u k, SlB K w x.vc x.n.call.body ∧ SlB K w x.vr x.n.rep.body
 | 0, x, hx => by cases hx
 | k + 1, x, hx => by
  rcases List.mem_append.1 hx with hx | hx
  ·exact longV_sl h k x hx
  ·rcases List.mem_cons.1 hx with rfl | hx
   ·exact ⟨h, SlB.nil _ _⟩
   ·rw [List.mem_singleton.1 hx]; exact ⟨h, SlB.nil _ _⟩
theorem zrep_ok : IdOk (repId zRep) := ⟨by decide, by decide, by decide, by decide⟩
theorem longH_ok {C : Cal} (h : MayP (atN C 1)) (hk : CalOk C) (hb : C.body.length ≤ 1000000) {k : Nat} (hk2 : k ≤ 2000) : ∀ x ∈ longH C k, NtOk x := by
 have hmay := h.1
 simp only [atN] at hmay
 have h2 := hk.seq
 have h3 := hk.at_
 have ok : ∀ j, j ≤ 2000 → IdOk (idOf (atN C j)) := fun j hj => by
  refine ⟨?_, ?_, ?_, ?_⟩ <;> simp only [idOf, atN] <;> omega
 induction k with
 | zero => intro x hx; cases hx
 | succ k ih =>
  intro x hx
  rcases List.mem_append.1 hx with hx | hx
  ·exact ih (by omega) x hx
  ·rcases List.mem_cons.1 hx with rfl | hx
   ·exact ⟨ok (k + 1) (by omega), zrep_ok, h2, h3, (show 0 < 18446744073709551616 by decide), hb, (show 0 ≤ 1000000 by decide)⟩
   ·rw [List.mem_singleton.1 hx]
    exact ⟨ok (k + 1) (by omega), ok (k + 1) (by omega), h2, h3, (show 0 < 18446744073709551616 by decide), hb, (show 0 ≤ 1000000 by decide)⟩
section
variable {P : Program} {op : Oper} {a : Act} {w : World} {K : Act → World → Prop} {Q : Exit → Act → World → Prop}
theorem wp_mk0 (ho : op.op = .buildSlice 28 0 #[]) (h : ∀ g w', OwH w.heap.size w' (.slice (some ⟨g, 0, none⟩) 0 0) [] → Below w.heap.size w w' → K (a.put op.dst (.slice (some ⟨g, 0, none⟩) 0 0)) w') : op.wp Tryz.prog a w K Q := by
 have hb : (Instr.buildSlice 28 0 #[]).run Tryz.prog w = .ok (.slice (some ⟨w.heap.size, 0, none⟩) 0 0) (w.alloc (.cells #[] 38)) := by kernel_rfl
 unfold Oper.wp execOp
 simp only [ho, Sem.run_bind, List.map_toArray, List.map_nil, hb, Result.andThen_ok, Sem.run_pure]
 exact h _ _ (owh_new w [] (Nat.le_refl _) (by decide)) (below_new _ _)
theorem wp_mk1 {x : NtV} {p : Operand} (ho : op.op = .buildSlice 28 1 #[(0, p)]) (hx : a.eval p = .agg (ntL x).toArray) (h : ∀ g w', OwH w.heap.size w' (.slice (some ⟨g, 0, none⟩) 1 1) [x] → Below w.heap.size w w' → K (a.put op.dst (.slice (some ⟨g, 0, none⟩) 1 1)) w') : op.wp Tryz.prog a w K Q := by
 have hb : (Instr.buildSlice 28 1 #[(0, .agg (ntL x).toArray)]).run Tryz.prog w = .ok (.slice (some ⟨w.heap.size, 0, none⟩) 1 1) (w.alloc (.cells ([x].flatMap ntL).toArray 38)) := by kernel_rfl
 unfold Oper.wp execOp
 simp only [ho, Sem.run_bind, List.map_toArray, List.map_cons, List.map_nil, hx, hb, Result.andThen_ok, Sem.run_pure]
 exact h _ _ (owh_new w [x] (Nat.le_refl _) (by simp)) (below_new _ _)
/-- append of notes. -/
theorem wp_appN {s x : Operand} (ho : op.op = .call { callee := .builtin .append, args := #[s, x], argTypes := #[28, 28] }) {B B2 : Nat} {v : Value} {N M : List NtV} {A : Option Addr} {d : Nat} (hown : OwH B w v N) (hs : a.eval s = v) (h2 : OwH B2 w (.slice A M.length d) M) (hx : a.eval x = .slice A M.length d)
  (h1 : ∀ y ∈ M, y.vc.oneCell' = true ∧ y.vr.oneCell' = true) (hn : N.length + M.length ≤ 100000) (hB : B ≤ w.heap.size)
  (h : ∀ c' A' w', OwH B w' (.slice A' (N ++ M).length c') (N ++ M) → w.grownBy w' v.ownBlock → K (a.put op.dst (.slice A' (N ++ M).length c')) w') : op.wp Tryz.prog a w K Q := by
 refine app_wp note_ty ho hown hs (Reads.of_own h2) hx (ntL_one h1) (by omega) hB fun v' w' ho' hg' _ => ?_
 have ho2 : OwH B w' v' (N ++ M) := by
  show World.ownsRow _ _ _ _ _ _ _
  rw [List.length_append, List.flatMap_append]
  exact ho'
 obtain ⟨A', c', rfl, _, _⟩ := own_slice ho2
 exact h c' A' w' ho2 hg'
end
theorem OwH.raise {B B' : Nat} {w : World} {g n c : Nat} {N : List NtV} (h : OwH B w (.slice (some ⟨g, 0, none⟩) n c) N) (hg : B' ≤ g) : OwH B' w (.slice (some ⟨g, 0, none⟩) n c) N := by
 refine ⟨h.1, ?_⟩
 rcases h.2 with ⟨e, _⟩ | ⟨g2, cap, cur, e, _, r⟩
 ·cases e
 ·refine .inr ⟨g2, cap, cur, e, ?_, r⟩
  injection e with e
  injection e with e
  injection e with e
  omega
theorem longV_map2 {C : Cal} {u : Value} {N : Nat} : (([] ++ longV C u N) ++ [begV (atN C 1) u]).map (fun x : NtV => x.n) = longH C N ++ [begN (atN C 1)] := by
 rw [List.nil_append, List.map_append, longV_map]
 rfl
theorem longV_more {K : Nat → Prop} {w : World} {C : Cal} {u : Value} (h : SlB K w u C.body) (N : Nat) : ∀ x ∈ ([] ++ longV C u N) ++ [begV (atN C 1) u], SlB K w x.vc x.n.call.body ∧ SlB K w x.vr x.n.rep.body := by
 intro y hy
 rcases List.mem_append.1 hy with hy | hy
 ·exact longV_sl h N y hy
 ·rw [List.mem_singleton.1 hy]
  exact ⟨h, SlB.nil _ _⟩
theorem longV_one {C : Cal} {u : Value} (h : u.oneCell' = true) : ∀ k, ∀ y ∈ longV C u k, y.vc.oneCell' = true ∧ y.vr.oneCell' = true
 | 0, x, hx => by cases hx
 | k + 1, x, hx => by
  rcases List.mem_append.1 hx with hx | hx
  ·exact longV_one h k x hx
  ·rcases List.mem_cons.1 hx with rfl | hx
   ·exact ⟨h, rfl⟩
   ·rw [List.mem_singleton.1 hx]; exact ⟨h, rfl⟩
theorem longV_get {C : Cal} {u : Value} : ∀ {k : Nat} (h : 1 ≤ k), ∃ h2 : 0 < (longV C u k).length, (longV C u k)[0] = begV (atN C 1) u
 | 1, _ => ⟨by rw [longV_len]; omega, rfl⟩
 | k + 2, _ => by
  obtain ⟨h2, e⟩ := longV_get (C := C) (u := u) (k := k + 1) (by omega)
  refine ⟨by rw [longV_len]; omega, ?_⟩
  show (longV C u (k + 1) ++ _)[0] = _
  rw [List.getElem_append_left h2, e]
namespace JudgeLong
set_option maxHeartbeats 8000000 in
theorem walk {w : World} (x0 : Int64) (C : Cal) (u : Value) (b1 : SlB (fun _ => True) w u C.body) (k1 : CalOk C) :
  Calls Tryz.prog 3 #[.int .i64 x0.toInt, .agg (calL C u).toArray] w fun e w' => e = .returned (.bool true) ∧ Below w.heap.size w w' := by
 generalize x0.toInt = more
 obtain ⟨A, c, rfl, hA, hc1, hc2, _⟩ := b1
 have HA : Hid (SlB (fun _ => True) w (.slice A C.body.length c) C.body) := ⟨A, c, rfl, hA, hc1, hc2, fun _ _ _ => trivial⟩
 obtain ⟨n, hn⟩ : ∃ n, n = C.body.length := ⟨_, rfl⟩
 have HN := Lib.hid hn
 rw [← hn] at HA ⊢
 have hB1 : Blk (w.alloc (.cells (calL C (.slice A n c)).toArray 25)) w.heap.size 25 (calL C (.slice A n c)).toArray := Blk.new _ _ _
 have hb1 := below_new w (.cells (calL C (.slice A n c)).toArray 25)
 have c0 := (hB1.cell 0).trans (rfl : _ = some (Value.int .i64 C.cl))
 have c1 := (hB1.cell 1).trans (rfl : _ = some (Value.int .u64 (C.inc : Int)))
 have c2 := (hB1.cell 2).trans (rfl : _ = some (Value.int .u64 (C.n : Int)))
 have c8 := (hB1.cell 8).trans (rfl : _ = some (Value.slice A n c))
 have f1 := hB1.free 1
 have f2 := hB1.free 2
 have HB1 := Lib.hid hB1
 have HT := Lib.hid hb1
 have HK := Lib.hid k1
 clear hB1 hb1 hA hc1 hc2 k1 hn
 by_cases hbig : 100 < n ∨ C.cl < 1 ∨ 15 < C.cl
 ·have hfin : ∀ w2, Below w.heap.size w w2 → Calls Tryz.prog 9 #[] w2 fun e w' => e = .returned (.bool true) ∧ Below w.heap.size w w' := fun w2 h2 => (awake_any w2).mono fun e w' ⟨h1, h3⟩ => ⟨h1, h2.trans (h3.mono h2.size)⟩
  have HF := Lib.hid hfin
  clear hfin f1 f2 c1 c2
  by_cases h1 : 100 < n
  ·have d1 : decide (100 < n) = true := decide_eq_true h1
   have d2 : decide ((100 : Int) < (n : Int)) = true := decide_eq_true (by omega)
   clear hbig h1
   go_enter Tryz.func3, Tryz.ntmps3
   go_wp2_with fail
   refine (HF.out _ HT.out).mono ?_
   rintro e w4 ⟨rfl, hb4⟩
   go_wp2_with fail
   go_ret
   exact ⟨rfl, hb4⟩
  ·have d1 : decide (100 < n) = false := decide_eq_false h1
   have d2 : decide ((100 : Int) < (n : Int)) = false := decide_eq_false (by omega)
   by_cases h2 : C.cl < 1
   ·have d3 : decide (C.cl < 1) = true := decide_eq_true h2
    clear hbig h1 h2
    go_enter Tryz.func3, Tryz.ntmps3
    go_wp2_with fail
    refine (HF.out _ HT.out).mono ?_
    rintro e w4 ⟨rfl, hb4⟩
    go_wp2_with fail
    go_ret
    exact ⟨rfl, hb4⟩
   ·have d3 : decide (C.cl < 1) = false := decide_eq_false h2
    have d4 : decide (15 < C.cl) = true := decide_eq_true (by omega)
    clear hbig h1 h2
    go_enter Tryz.func3, Tryz.ntmps3
    go_wp2_with fail
    refine (HF.out _ HT.out).mono ?_
    rintro e w4 ⟨rfl, hb4⟩
    go_wp2_with fail
    go_ret
    exact ⟨rfl, hb4⟩
 ·have d1 : decide (100 < n) = false := decide_eq_false (by omega)
  have d2 : decide ((100 : Int) < (n : Int)) = false := decide_eq_false (by omega)
  have d3 : decide (C.cl < 1) = false := decide_eq_false (by omega)
  have d4 : decide (15 < C.cl) = false := decide_eq_false (by omega)
  have HG : Hid (n ≤ 100 ∧ 1 ≤ C.cl ∧ C.cl ≤ 15) := ⟨by omega, by omega, by omega⟩
  clear hbig
  go_enter Tryz.func3, Tryz.ntmps3
  have HB2 : Hid (Blk (w.alloc (.cells (((calL C (.slice A n c)).set 1 (.int .u64 1)).set 2 (.int .u64 1)).toArray 25)) w.heap.size 25 (calL (atN C 1) (.slice A n c)).toArray) := Blk.new _ _ _
  have HT2 : Hid (Below w.heap.size w (w.alloc (.cells (((calL C (.slice A n c)).set 1 (.int .u64 1)).set 2 (.int .u64 1)).toArray 25))) := below_new _ _
  go_wp2_with (refine wpList_load_rg rfl (ty := 25) rfl (vs := calL (atN C 1) (.slice A n c)) rfl (Blk.rangeAll HB2.out) Tryz.underlying25 rfl (infoj_call9 rfl) ?_; refine Hid.out ?_)
  refine Lib.hid ?_
  clear c0 c1 c2 c8 f1 f2 HB1 HT
  generalize w.alloc (.cells (((calL C (.slice A n c)).set 1 (.int .u64 1)).set 2 (.int .u64 1)).toArray 25) = w2 at HB2 HT2 ⊢
  have HA2 : Hid (SlB (fun _ => True) w2 (.slice A n c) (atN C 1).body) := HA.out.below HT2.out
  have hmay := rmay_any (C := atN C 1) HA2.out
  have HM := Lib.hid hmay
  clear hmay
  go_wp2_with fail
  refine HM.out.mono ?_
  rintro e w3 ⟨rfl, hb3⟩
  have HB3 := Bb HB2 hb3
  have HT3 := Tt HT2 hb3
  have HA3 : Hid (SlB (fun _ => True) w3 (.slice A n c) C.body) := HA2.out.below hb3
  clear hb3 HB2 HT2 HA2 HM
  cases hmc : mayC (atN C 1) with
  | false =>
   clear hmc
   go_wp2_with fail
   refine (awake_any w3).mono ?_
   rintro e w4 ⟨rfl, hb4⟩
   have HT4 := Tt HT3 hb4
   clear hb4
   go_wp2_with fail
   go_ret
   exact ⟨rfl, HT4.out⟩
  | true =>
   have hmp : MayP (atN C 1) := by unfold mayC at hmc; exact of_decide_eq_true hmc
   have HMP := Lib.hid hmp
   clear hmc hmp
   obtain ⟨m, hm, hm7⟩ : ∃ m : Nat, bits .and .i64 more 7 = (m : Int) ∧ m ≤ 7 := ⟨(more % 8).toNat, by rw [i64_and7]; omega, by omega⟩
   obtain ⟨N, hN⟩ : ∃ N : Nat, N = 1001 + m := ⟨_, rfl⟩
   go_wp2_with fail
   rw [show (1001 + (m : Int)) = (N : Int) by omega]
   have HNN : Hid (1001 ≤ N ∧ N ≤ 1008) := ⟨by omega, by omega⟩
   clear hm hm7 hN
   go_loopw [5, 7] (fun ov i wr => ∃ q : Nat, 1 ≤ q ∧ q ≤ N + 1 ∧ i = .int .i64 (q : Int) ∧ Below w.heap.size w wr ∧ (∃ j, Blk wr w.heap.size 25 (calL (atN C j) (.slice A n c)).toArray) ∧ OwH (w.heap.size + 1) wr ov (longV C (.slice A n c) (q - 1))) (fun _ i _ => N + 1 - (intOf i).toNat)
   case atStart => exact ⟨1, by omega, by omega, rfl, HT3.out, ⟨1, HB3.out⟩, World.ownsRow_nil _ _ _ _⟩
   case round =>
    obtain ⟨q, hq1, hqN, rfl, hb, ⟨j, hB⟩, ho⟩ := hrel
    have HBr := Lib.hid hb
    have HBk := Lib.hid hB
    have HO := Lib.hid ho
    have hN8 := HNN.out
    by_cases hlt : q ≤ N
    ·have cc2 := (hB.cell 2).trans (rfl : _ = some (Value.int .u64 (j : Int)))
     have ff2 := hB.free 2
     have hw : IntKind.u64.wrap (q : Int) = (q : Int) := by rw [IntKind.wrap_u64]; omega
     have HB4 : Hid (Blk (wr.setCell ⟨w.heap.size, 2, none⟩ (.int .u64 (q : Int))) w.heap.size 25 (calL (atN C q) (.slice A n c)).toArray) := hB.put 2 (.int .u64 (q : Int))
     have hm4 : Mod (fun b => b = w.heap.size) wr (wr.setCell ⟨w.heap.size, 2, none⟩ (.int .u64 (q : Int))) := Mod.set (S := fun b => b = w.heap.size) (Mod.refl _ _) (p := ⟨w.heap.size, 2, none⟩) (fun _ => rfl) _
     have HT4 : Hid (Below w.heap.size w (wr.setCell ⟨w.heap.size, 2, none⟩ (.int .u64 (q : Int)))) := hb.trans (hm4.to_below hb.size fun b hb e => by omega)
     have HO4 : Hid (OwH (w.heap.size + 1) (wr.setCell ⟨w.heap.size, 2, none⟩ (.int .u64 (q : Int))) u5 (longV C (.slice A n c) (q - 1))) := own_mod ho hm4 fun b hb e => by have := own_ge ho b hb; omega
     clear hb hB ho hm4
     go_wp2_with fail
     generalize wr.setCell ⟨w.heap.size, 2, none⟩ (.int .u64 (q : Int)) = w4 at HB4 HT4 HO4 ⊢
     clear cc2 ff2
     obtain ⟨A5, c5, rfl, _, _⟩ := own_slice HO4.out
     refine PF.b (by kernel_rfl) (fun _ _ _ _ _ h => h) ?_
     refine PF.t 0 (by kernel_rfl) rfl (by go_simp; try rfl) ?_
     try simp only [pz]
     refine PF.u 1 ((fun u => Blk u w.heap.size 25 (calL (atN C q) (.slice A n c)).toArray)) (by kernel_rfl) rfl (HB4.out) (fun u hu => exec_load_blk rfl rfl hu Tryz.underlying25 rfl (info_call rfl)) ?_
     try simp only [pz]
     refine PF.u 2 ((fun u => Blk u w.heap.size 25 (calL (atN C q) (.slice A n c)).toArray)) (by kernel_rfl) rfl (HB4.out) (fun u hu => exec_load_blk rfl rfl hu Tryz.underlying25 rfl (info_call rfl)) ?_
     try simp only [pz]
     refine PF.e 3 (by kernel_rfl) rfl fun K hK => ?_
     go_simp
     refine (says_any _ (atN C q) (.slice A n c) 3 0 0).mono ?_
     rintro e w5 ⟨rfl, hb⟩
     have hb := ((Below.refl w4.heap.size w4).drew).trans hb
     have HB5 := Bb HB4 hb
     have HO5 := Lib.hid (OwH.below HO4.out hb)
     have HT5 := Tt HT4 hb
     clear hb
     refine hK (by repeat (first | exact PF.n | refine PF.l ?_ | refine PF.o (by decide +kernel) ?_ | refine PF.y (by exact HB5.out) ?_)) ?_
     clear hK K
     try simp only [pz]
     refine PF.e 4 (by kernel_rfl) rfl fun K hK => ?_
     go_simp
     refine (both_any _ (atN C q) (saysR (atN C q) 3 0 0) (.slice A n c) nilV).mono ?_
     rintro e w6 ⟨⟨g6, rfl, hw6⟩, hb⟩
     have HB6 := Bb HB5 hb
     have HO6 := Lib.hid (OwH.below HO5.out hb)
     have HT6 := Tt HT5 hb
     have HW6 := Lib.hid hw6
     clear hb hw6
     refine hK (by repeat (first | exact PF.n | refine PF.l ?_ | refine PF.o (by decide +kernel) ?_ | refine PF.y (by exact HB6.out) ?_)) ?_
     clear hK K
     try simp only [pz]
     refine PF.e 5 (by kernel_rfl) rfl fun K hK => ?_
     refine wp_appN (B := w.heap.size + 1) (N := longV C (.slice A n c) (q - 1)) (M := [begV (atN C q) (.slice A n c), endV (atN C q) (saysR (atN C q) 3 0 0) (.slice A n c) nilV]) rfl HO6.out rfl HW6.out rfl (by intro y hy; rcases List.mem_cons.1 hy with rfl | hy; exact ⟨rfl, rfl⟩; rw [List.mem_singleton.1 hy]; exact ⟨rfl, rfl⟩) (by rw [longV_len]; simp only [List.length_cons, List.length_nil]; omega) (by have := HB6.out.lt; omega) ?_
     intro c7 A7 w7 ho7 hg7
     have HO7 := Lib.hid ho7
     have HB7 := Lib.hid (HB6.out.grown hg7 (fun e => by have := own_ge HO6.out _ e.symm; omega))
     have HT7 := Lib.hid (HT6.out.grown hg7 HT6.out.size (fun b hb => by have := own_ge HO6.out b hb; omega))
     clear ho7 hg7
     refine hK (by repeat (first | exact PF.n | refine PF.l ?_ | refine PF.o (by decide +kernel) ?_ | refine PF.y (by exact HB7.out) ?_)) ?_
     clear hK K
     try simp only [pz]
     refine PF.t 6 (by kernel_rfl) rfl (by go_simp; try rfl) ?_
     try simp only [pz]
     refine PF.d (by kernel_rfl) ?_
     go_wp2_with fail
     go_roundw
     case rel =>
      refine ⟨q + 1, by omega, by omega, by go_num, HT7.out, ⟨q, HB7.out⟩, ?_⟩
      have e : longV C (.slice A n c) (q + 1 - 1) = longV C (.slice A n c) (q - 1) ++ [begV (atN C q) (.slice A n c), endV (atN C q) (saysR (atN C q) 3 0 0) (.slice A n c) nilV] := by
       obtain ⟨p, rfl⟩ : ∃ p, q = p + 1 := ⟨q - 1, by omega⟩
       show longV C (.slice A n c) (p + 1) = longV C (.slice A n c) p ++ _
       rfl
      rw [e]
      have h7 := HO7.out
      rw [List.length_append] at h7
      exact h7
     case measure => simp [intOf]; omega
    ·obtain rfl : q = N + 1 := by omega
     have ho2 : OwH (w.heap.size + 1) wr u5 (longV C (.slice A n c) N) := HO.out
     obtain ⟨A5, c5, rfl, _, _⟩ := own_slice ho2
     have HO2 := Lib.hid ho2
     have hbl : C.body.length ≤ 1000000 := by have := HG.out.1; have := HN.out; omega
     have HOKS : Hid (∀ x ∈ longH C N, NtOk x) := longH_ok HMP.out HK.out hbl (by omega)
     have HSB : Hid (SlB (fun _ => True) wr (.slice A n c) C.body) := HA.out.below HBr.out
     have hslh := ho2.slh (longV_sl HSB.out N)
     rw [longV_map] at hslh
     have hmm := jmay_any hslh HOKS.out (by rw [longH_len]; omega)
     have HMM := Lib.hid hmm
     clear hb hB ho ho2 hbl hslh hmm
     go_wp2_with fail
     refine HMM.out.mono ?_
     rintro e w4 ⟨hb4, b4, e4, rfl, hp⟩
     obtain ⟨rfl, rfl⟩ := longH_may HMP.out (by omega) (by omega) hp
     have HO4 := Lib.hid (OwH.below HO2.out hb4)
     have HT4 := Tt HBr hb4
     have HS4 := Lib.hid (HSB.out.below hb4)
     have HL4 : Hid (∀ b, (Value.slice A5 (longV C (.slice A n c) N).length c5).ownBlock = some b → b < w4.heap.size) := fun b hb => (HO4.out.lt b hb).2
     have hpos : 0 < (longV C (.slice A n c) N).length := by rw [longV_len]; omega
     obtain ⟨g5, hA5⟩ : ∃ g5, A5 = some ⟨g5, 0, none⟩ := by
      rcases HO4.out.2 with ⟨e, e2⟩ | ⟨g', c', cur, e, _⟩
      ·omega
      ·injection e with e
       exact ⟨g', e⟩
     subst hA5
     have hrg0 : ∀ u, OwH (w.heap.size + 1) u (.slice (some ⟨g5, 0, none⟩) (longV C (.slice A n c) N).length c5) (longV C (.slice A n c) N) → u.rangeAt g5 (0 * 19) (ntL (begV (atN C 1) (.slice A n c))) := fun u hu => by
      obtain ⟨h2, e⟩ := longV_get (C := C) (u := .slice A n c) (k := N) (by omega)
      rw [← e]
      exact owh_range hu rfl h2
     have HR0 := Lib.hid hrg0
     have hpp : (0 : Int) < ((longV C (.slice A n c) N).length : Int) := by omega
     have HPOS := Lib.hid hpos
     have HLN : Hid ((longV C (.slice A n c) N).length ≤ 3000) := by show _ ≤ _; rw [longV_len]; omega
     clear hp hb4 hrg0
     go_wp2_with fail
     -- BEGIN R14
     have HW4 : Hid (Below w4.heap.size w4 w4) := Below.refl _ _
     have HBS : Hid (w.heap.size ≤ w4.heap.size) := HT4.out.size
     have HNQ : Hid (1 ≤ N) := by show _ ≤ _; omega
     refine PF.b (by kernel_rfl) (fun _ _ _ _ _ h => h) ?_
     refine PF.t 1 (by kernel_rfl) rfl (by go_simp; try rfl) ?_
     try simp only [pz]
     refine PF.t 3 (by kernel_rfl) rfl (by go_simp; try rfl) ?_
     try simp only [pz]
     refine PF.t 4 (by kernel_rfl) rfl (by go_simp; try rfl) ?_
     try simp only [pz]
     refine PF.u 5 ((fun u => u.rangeAt g5 (0 * 19) (ntL (begV (atN C 1) (.slice A n c))))) (by kernel_rfl) rfl ((HR0.out _ HO4.out)) (fun u hu => exec_load_rg rfl rfl hu Tryz.underlying38 rfl (info_note19 rfl)) ?_
     try simp only [pz]
     refine PF.g [0, 6] (by kernel_rfl) rfl (PF.fork_cons ?_ (PF.fork_cons ?_ PF.fork_nil))
     -- number 0 first
     ·refine PF.f (by kernel_rfl) rfl fun K hK => ?_
      refine wp_mk0 rfl ?_
      intro g0 w5 h0 hb
      have HG0 : Hid (w4.heap.size ≤ g0) := Nat.le_trans HW4.out.size (own_ge h0 g0 rfl)
      have hb := ((Below.refl w4.heap.size w4).drew).trans hb
      have HO4 := Lib.hid (OwH.below HO4.out hb)
      have HT4 := Tt HT4 hb
      have H0 : Hid (OwH w4.heap.size w5 (.slice (some ⟨g0, 0, none⟩) 0 0) []) := OwH.raise h0 HG0.out
      have HW4 := Tt HW4 hb
      clear h0 hb
      refine hK (by repeat (first | exact PF.n | refine PF.l ?_ | refine PF.o (by decide +kernel) ?_ | refine PF.y (by exact HR0.out _ HO4.out) ?_)) ?_
      clear hK K
      try simp only [pz]
      refine PF.g [2, 6] (by kernel_rfl) rfl (PF.fork_cons ?_ (PF.fork_cons ?_ PF.fork_nil))
      -- number 2 first
      ·refine PF.f (by kernel_rfl) rfl fun K hK => ?_
       refine wp_appN (N := []) (M := (longV C (.slice A n c) N)) rfl H0.out rfl HO4.out rfl (longV_one (C := C) (u := .slice A n c) rfl N) (by have := HLN.out; simp only [List.length_nil]; omega) HW4.out.size ?_
       intro c2 A2 w22 h2 hg
       have HO4 : Hid (OwH (w.heap.size + 1) w22 (.slice (some ⟨g5, 0, none⟩) (longV C (.slice A n c) N).length c5) (longV C (.slice A n c) N)) := own_mod HO4.out (mod_grownO hg) fun b hb e => by have h1 := HL4.out b hb; have h2 := ownBlock_slice.1 e; have h3 := HG0.out; omega
       have HT4 := Lib.hid (HT4.out.grown hg HT4.out.size (fun b hb => by have h2 := ownBlock_slice.1 hb; have h3 := HG0.out; have := HBS.out; omega))
       have H2 := Lib.hid h2
       have HW4 := Lib.hid (HW4.out.grown hg HW4.out.size (fun b hb => by have h2 := ownBlock_slice.1 hb; have h3 := HG0.out; omega))
       clear h2 hg
       refine hK (by repeat (first | exact PF.n | refine PF.l ?_ | refine PF.o (by decide +kernel) ?_ | refine PF.y (by exact HR0.out _ HO4.out) ?_)) ?_
       clear hK K
       try simp only [pz]
       refine PF.e 6 (by kernel_rfl) rfl fun K hK => ?_
       refine wp_mk1 (x := (begV (atN C 1) (.slice A n c))) rfl rfl ?_
       intro g6 w6 h6 hb
       have H6 : Hid (OwH 0 w6 (.slice (some ⟨g6, 0, none⟩) 1 1) [(begV (atN C 1) (.slice A n c))]) := own_lowJ h6 (Nat.zero_le _)
       have HO4 := Lib.hid (OwH.below HO4.out hb)
       have HT4 := Tt HT4 hb
       have H2 := Lib.hid (OwH.below H2.out hb)
       have HW4 := Tt HW4 hb
       clear h6 hb
       refine hK (by repeat (first | exact PF.n | refine PF.l ?_ | refine PF.o (by decide +kernel) ?_ | refine PF.y (by exact HR0.out _ HO4.out) ?_)) ?_
       clear hK K
       try simp only [pz]
       refine PF.e 7 (by kernel_rfl) rfl fun K hK => ?_
       refine wp_appN (N := [] ++ (longV C (.slice A n c) N)) (M := [(begV (atN C 1) (.slice A n c))]) rfl H2.out rfl H6.out rfl (by intro y hy; rw [List.mem_singleton.1 hy]; exact ⟨rfl, rfl⟩) (by have := HLN.out; simp only [List.nil_append, List.length_cons, List.length_nil]; omega) HW4.out.size ?_
       intro c7 A7 w7 h7 hg
       obtain ⟨K7, hK7⟩ : ∃ K7, K7 = (([] ++ (longV C (.slice A n c) N)) ++ [(begV (atN C 1) (.slice A n c))]).length := ⟨_, rfl⟩
       rw [← hK7] at h7 ⊢
       clear hK7
       have HT7 := Lib.hid (HT4.out.grown hg HT4.out.size (fun b hb => by have := own_ge H2.out b hb; have := HBS.out; omega))
       have H7 := Lib.hid h7
       have HS7 : Hid (SlB (fun _ => True) w7 (.slice A n c) C.body) := HA.out.below HT7.out
       clear h7 hg
       refine hK (by repeat (first | exact PF.n | refine PF.l ?_ | refine PF.o (by decide +kernel) ?_ | refine PF.y (by exact HR0.out _ HO4.out) ?_)) ?_
       clear hK K
       try simp only [pz]
       refine PF.e 8 (by kernel_rfl) rfl fun K hK => ?_
       go_simp
       have hs7 := H7.out.slh (K := fun _ => True) (longV_more HS7.out N)
       rw [longV_map2] at hs7
       refine (jmay_any hs7 (by intro y hy; rcases List.mem_append.1 hy with hy | hy; exact HOKS.out y hy; rw [List.mem_singleton.1 hy]; exact HOKS.out _ (longH_first HNQ.out)) (by rw [List.length_append, longH_len]; simp only [List.length_cons, List.length_nil]; have := HNN.out; omega)).mono ?_
       rintro e w8 ⟨hb8, b8, e8, rfl, hp⟩
       obtain ⟨rfl, rfl⟩ := longH_bad HNQ.out hp
       have HT8 := Tt HT7 hb8
       clear hb8 hp hs7
       refine hK (by repeat (first | exact PF.n | refine PF.l ?_ | refine PF.o (by decide +kernel) ?_ | refine PF.y (by exact HR0.out _ HO4.out) ?_)) ?_
       clear hK K
       try simp only [pz]
       refine PF.t 9 (by kernel_rfl) rfl (by go_simp; try rfl) ?_
       try simp only [pz]
       refine PF.t 10 (by kernel_rfl) rfl (by go_simp; try rfl) ?_
       try simp only [pz]
       refine PF.t 11 (by kernel_rfl) rfl (by go_simp; try rfl) ?_
       try simp only [pz]
       refine PF.t 12 (by kernel_rfl) rfl (by go_simp; try rfl) ?_
       try simp only [pz]
       refine PF.t 13 (by kernel_rfl) rfl (by go_simp; try rfl) ?_
       try simp only [pz]
       refine PF.d (by kernel_rfl) ?_
       go_wp2_with fail
       refine (awake_any w8).mono ?_
       rintro e w9 ⟨rfl, hb9⟩
       have HT9 := Tt HT8 hb9
       clear hb9
       go_wp2_with fail
       go_ret
       exact ⟨rfl, HT9.out⟩
      -- number 6 first
      ·refine PF.f (by kernel_rfl) rfl fun K hK => ?_
       refine wp_mk1 (x := (begV (atN C 1) (.slice A n c))) rfl rfl ?_
       intro g6 w6 h6 hb
       have H6 : Hid (OwH 0 w6 (.slice (some ⟨g6, 0, none⟩) 1 1) [(begV (atN C 1) (.slice A n c))]) := own_lowJ h6 (Nat.zero_le _)
       have HNE : Hid (g0 ≠ g6) := by show _ ≠ _; have h1 := own_ge h6 g6 rfl; have h2 := (H0.out.lt g0 rfl).2; omega
       have HO4 := Lib.hid (OwH.below HO4.out hb)
       have HT4 := Tt HT4 hb
       have H0 := Lib.hid (OwH.below H0.out hb)
       have HW4 := Tt HW4 hb
       clear h6 hb
       refine hK (by repeat (first | exact PF.n | refine PF.l ?_ | refine PF.o (by decide +kernel) ?_ | refine PF.y (by exact HR0.out _ HO4.out) ?_)) ?_
       clear hK K
       try simp only [pz]
       refine PF.e 2 (by kernel_rfl) rfl fun K hK => ?_
       refine wp_appN (N := []) (M := (longV C (.slice A n c) N)) rfl H0.out rfl HO4.out rfl (longV_one (C := C) (u := .slice A n c) rfl N) (by have := HLN.out; simp only [List.length_nil]; omega) HW4.out.size ?_
       intro c2 A2 w22 h2 hg
       have HO4 : Hid (OwH (w.heap.size + 1) w22 (.slice (some ⟨g5, 0, none⟩) (longV C (.slice A n c) N).length c5) (longV C (.slice A n c) N)) := own_mod HO4.out (mod_grownO hg) fun b hb e => by have h1 := HL4.out b hb; have h2 := ownBlock_slice.1 e; have h3 := HG0.out; omega
       have HT4 := Lib.hid (HT4.out.grown hg HT4.out.size (fun b hb => by have h2 := ownBlock_slice.1 hb; have h3 := HG0.out; have := HBS.out; omega))
       have H2 := Lib.hid h2
       have H6 : Hid (OwH 0 w22 (.slice (some ⟨g6, 0, none⟩) 1 1) [(begV (atN C 1) (.slice A n c))]) := own_mod H6.out (mod_grownO hg) fun b hb e => by have h1 := ownBlock_slice.1 hb; have h2 := ownBlock_slice.1 e; have := HNE.out; omega
       have HW4 := Lib.hid (HW4.out.grown hg HW4.out.size (fun b hb => by have h2 := ownBlock_slice.1 hb; have h3 := HG0.out; omega))
       clear h2 hg
       refine hK (by repeat (first | exact PF.n | refine PF.l ?_ | refine PF.o (by decide +kernel) ?_ | refine PF.y (by exact HR0.out _ HO4.out) ?_)) ?_
       clear hK K
       try simp only [pz]
       refine PF.e 7 (by kernel_rfl) rfl fun K hK => ?_
       refine wp_appN (N := [] ++ (longV C (.slice A n c) N)) (M := [(begV (atN C 1) (.slice A n c))]) rfl H2.out rfl H6.out rfl (by intro y hy; rw [List.mem_singleton.1 hy]; exact ⟨rfl, rfl⟩) (by have := HLN.out; simp only [List.nil_append, List.length_cons, List.length_nil]; omega) HW4.out.size ?_
       intro c7 A7 w7 h7 hg
       obtain ⟨K7, hK7⟩ : ∃ K7, K7 = (([] ++ (longV C (.slice A n c) N)) ++ [(begV (atN C 1) (.slice A n c))]).length := ⟨_, rfl⟩
       rw [← hK7] at h7 ⊢
       clear hK7
       have HT7 := Lib.hid (HT4.out.grown hg HT4.out.size (fun b hb => by have := own_ge H2.out b hb; have := HBS.out; omega))
       have H7 := Lib.hid h7
       have HS7 : Hid (SlB (fun _ => True) w7 (.slice A n c) C.body) := HA.out.below HT7.out
       clear h7 hg
       refine hK (by repeat (first | exact PF.n | refine PF.l ?_ | refine PF.o (by decide +kernel) ?_ | refine PF.y (by exact HR0.out _ HO4.out) ?_)) ?_
       clear hK K
       try simp only [pz]
       refine PF.e 8 (by kernel_rfl) rfl fun K hK => ?_
       go_simp
       have hs7 := H7.out.slh (K := fun _ => True) (longV_more HS7.out N)
       rw [longV_map2] at hs7
       refine (jmay_any hs7 (by intro y hy; rcases List.mem_append.1 hy with hy | hy; exact HOKS.out y hy; rw [List.mem_singleton.1 hy]; exact HOKS.out _ (longH_first HNQ.out)) (by rw [List.length_append, longH_len]; simp only [List.length_cons, List.length_nil]; have := HNN.out; omega)).mono ?_
       rintro e w8 ⟨hb8, b8, e8, rfl, hp⟩
       obtain ⟨rfl, rfl⟩ := longH_bad HNQ.out hp
       have HT8 := Tt HT7 hb8
       clear hb8 hp hs7
       refine hK (by repeat (first | exact PF.n | refine PF.l ?_ | refine PF.o (by decide +kernel) ?_ | refine PF.y (by exact HR0.out _ HO4.out) ?_)) ?_
       clear hK K
       try simp only [pz]
       refine PF.t 9 (by kernel_rfl) rfl (by go_simp; try rfl) ?_
       try simp only [pz]
       refine PF.t 10 (by kernel_rfl) rfl (by go_simp; try rfl) ?_
       try simp only [pz]
       refine PF.t 11 (by kernel_rfl) rfl (by go_simp; try rfl) ?_
       try simp only [pz]
       refine PF.t 12 (by kernel_rfl) rfl (by go_simp; try rfl) ?_
       try simp only [pz]
       refine PF.t 13 (by kernel_rfl) rfl (by go_simp; try rfl) ?_
       try simp only [pz]
       refine PF.d (by kernel_rfl) ?_
       go_wp2_with fail
       refine (awake_any w8).mono ?_
       rintro e w9 ⟨rfl, hb9⟩
       have HT9 := Tt HT8 hb9
       clear hb9
       go_wp2_with fail
       go_ret
       exact ⟨rfl, HT9.out⟩
     -- number 6 first
     ·refine PF.f (by kernel_rfl) rfl fun K hK => ?_
      refine wp_mk1 (x := (begV (atN C 1) (.slice A n c))) rfl rfl ?_
      intro g6 w6 h6 hb
      have H6 : Hid (OwH 0 w6 (.slice (some ⟨g6, 0, none⟩) 1 1) [(begV (atN C 1) (.slice A n c))]) := own_lowJ h6 (Nat.zero_le _)
      have hb := ((Below.refl w4.heap.size w4).drew).trans hb
      have HO4 := Lib.hid (OwH.below HO4.out hb)
      have HT4 := Tt HT4 hb
      have HW4 := Tt HW4 hb
      clear h6 hb
      refine hK (by repeat (first | exact PF.n | refine PF.l ?_ | refine PF.o (by decide +kernel) ?_ | refine PF.y (by exact HR0.out _ HO4.out) ?_)) ?_
      clear hK K
      try simp only [pz]
      refine PF.e 0 (by kernel_rfl) rfl fun K hK => ?_
      refine wp_mk0 rfl ?_
      intro g0 w5 h0 hb
      have HG0 : Hid (w4.heap.size ≤ g0) := Nat.le_trans HW4.out.size (own_ge h0 g0 rfl)
      have HNE : Hid (g0 ≠ g6) := by show _ ≠ _; have h1 := own_ge h0 g0 rfl; have h2 := (H6.out.lt g6 rfl).2; omega
      have HO4 := Lib.hid (OwH.below HO4.out hb)
      have HT4 := Tt HT4 hb
      have H0 : Hid (OwH w4.heap.size w5 (.slice (some ⟨g0, 0, none⟩) 0 0) []) := OwH.raise h0 HG0.out
      have H6 := Lib.hid (OwH.below H6.out hb)
      have HW4 := Tt HW4 hb
      clear h0 hb
      refine hK (by repeat (first | exact PF.n | refine PF.l ?_ | refine PF.o (by decide +kernel) ?_ | refine PF.y (by exact HR0.out _ HO4.out) ?_)) ?_
      clear hK K
      try simp only [pz]
      refine PF.e 2 (by kernel_rfl) rfl fun K hK => ?_
      refine wp_appN (N := []) (M := (longV C (.slice A n c) N)) rfl H0.out rfl HO4.out rfl (longV_one (C := C) (u := .slice A n c) rfl N) (by have := HLN.out; simp only [List.length_nil]; omega) HW4.out.size ?_
      intro c2 A2 w22 h2 hg
      have HO4 : Hid (OwH (w.heap.size + 1) w22 (.slice (some ⟨g5, 0, none⟩) (longV C (.slice A n c) N).length c5) (longV C (.slice A n c) N)) := own_mod HO4.out (mod_grownO hg) fun b hb e => by have h1 := HL4.out b hb; have h2 := ownBlock_slice.1 e; have h3 := HG0.out; omega
      have HT4 := Lib.hid (HT4.out.grown hg HT4.out.size (fun b hb => by have h2 := ownBlock_slice.1 hb; have h3 := HG0.out; have := HBS.out; omega))
      have H2 := Lib.hid h2
      have H6 : Hid (OwH 0 w22 (.slice (some ⟨g6, 0, none⟩) 1 1) [(begV (atN C 1) (.slice A n c))]) := own_mod H6.out (mod_grownO hg) fun b hb e => by have h1 := ownBlock_slice.1 hb; have h2 := ownBlock_slice.1 e; have := HNE.out; omega
      have HW4 := Lib.hid (HW4.out.grown hg HW4.out.size (fun b hb => by have h2 := ownBlock_slice.1 hb; have h3 := HG0.out; omega))
      clear h2 hg
      refine hK (by repeat (first | exact PF.n | refine PF.l ?_ | refine PF.o (by decide +kernel) ?_ | refine PF.y (by exact HR0.out _ HO4.out) ?_)) ?_
      clear hK K
      try simp only [pz]
      refine PF.e 7 (by kernel_rfl) rfl fun K hK => ?_
      refine wp_appN (N := [] ++ (longV C (.slice A n c) N)) (M := [(begV (atN C 1) (.slice A n c))]) rfl H2.out rfl H6.out rfl (by intro y hy; rw [List.mem_singleton.1 hy]; exact ⟨rfl, rfl⟩) (by have := HLN.out; simp only [List.nil_append, List.length_cons, List.length_nil]; omega) HW4.out.size ?_
      intro c7 A7 w7 h7 hg
      obtain ⟨K7, hK7⟩ : ∃ K7, K7 = (([] ++ (longV C (.slice A n c) N)) ++ [(begV (atN C 1) (.slice A n c))]).length := ⟨_, rfl⟩
      rw [← hK7] at h7 ⊢
      clear hK7
      have HT7 := Lib.hid (HT4.out.grown hg HT4.out.size (fun b hb => by have := own_ge H2.out b hb; have := HBS.out; omega))
      have H7 := Lib.hid h7
      have HS7 : Hid (SlB (fun _ => True) w7 (.slice A n c) C.body) := HA.out.below HT7.out
      clear h7 hg
      refine hK (by repeat (first | exact PF.n | refine PF.l ?_ | refine PF.o (by decide +kernel) ?_ | refine PF.y (by exact HR0.out _ HO4.out) ?_)) ?_
      clear hK K
      try simp only [pz]
      refine PF.e 8 (by kernel_rfl) rfl fun K hK => ?_
      go_simp
      have hs7 := H7.out.slh (K := fun _ => True) (longV_more HS7.out N)
      rw [longV_map2] at hs7
      refine (jmay_any hs7 (by intro y hy; rcases List.mem_append.1 hy with hy | hy; exact HOKS.out y hy; rw [List.mem_singleton.1 hy]; exact HOKS.out _ (longH_first HNQ.out)) (by rw [List.length_append, longH_len]; simp only [List.length_cons, List.length_nil]; have := HNN.out; omega)).mono ?_
      rintro e w8 ⟨hb8, b8, e8, rfl, hp⟩
      obtain ⟨rfl, rfl⟩ := longH_bad HNQ.out hp
      have HT8 := Tt HT7 hb8
      clear hb8 hp hs7
      refine hK (by repeat (first | exact PF.n | refine PF.l ?_ | refine PF.o (by decide +kernel) ?_ | refine PF.y (by exact HR0.out _ HO4.out) ?_)) ?_
      clear hK K
      try simp only [pz]
      refine PF.t 9 (by kernel_rfl) rfl (by go_simp; try rfl) ?_
      try simp only [pz]
      refine PF.t 10 (by kernel_rfl) rfl (by go_simp; try rfl) ?_
      try simp only [pz]
      refine PF.t 11 (by kernel_rfl) rfl (by go_simp; try rfl) ?_
      try simp only [pz]
      refine PF.t 12 (by kernel_rfl) rfl (by go_simp; try rfl) ?_
      try simp only [pz]
      refine PF.t 13 (by kernel_rfl) rfl (by go_simp; try rfl) ?_
      try simp only [pz]
      refine PF.d (by kernel_rfl) ?_
      go_wp2_with fail
      refine (awake_any w8).mono ?_
      rintro e w9 ⟨rfl, hb9⟩
      have HT9 := Tt HT8 hb9
      clear hb9
      go_wp2_with fail
      go_ret
      exact ⟨rfl, HT9.out⟩
end JudgeLong
end Go.Proofs.YtpjmolnkmlpfeaaGreatDoor

/- Calls, replies, notes: arguments opened, with what their numbers may be. -/
namespace Go.Proofs.YtpjmolnkmlpfeaaGreatDoor
set_option maxRecDepth 100000
open Go.ChangeShapes Go.WideShapes Go.ChangeAt Go.RowKit Go.Deep

section
variable {H : Type} {enc : TypeId × Value → H} {P : Program} {W : World} {base : Nat} {spare : Nat → Bool} {held : Bool}
theorem u64N_of {z : Int} (h : (Lit.int .u64 z).wf = true) : ∃ n : Nat, z = (n : Int) ∧ n < 18446744073709551616 := by
 have hb : 0 ≤ z ∧ z ≤ 18446744073709551615 := by
  simp [Lit.wf, IntKind.min, IntKind.max, IntKind.signed, IntKind.bits] at h
  omega
 exact ⟨z.toNat, by omega, by omega⟩
end
structure RepOk (R : Rep) : Prop where
 id : IdOk (repId R)
 at_ : R.at_ < 18446744073709551616
 seq : R.seq < 18446744073709551616
theorem i64_wf {z : Int} (h : (Lit.int .i64 z).wf = true) : -9223372036854775808 ≤ z ∧ z < 9223372036854775808 := by
 simp [Lit.wf, show IntKind.i64.min = -9223372036854775808 from rfl, show IntKind.i64.max = 9223372036854775807 from rfl] at h
 omega
section
variable {H : Type} {enc : TypeId × Value → H} {W : World} {base : Nat} {spare : Nat → Bool} {held : Bool}
theorem call_trodJ {fuel : Nat} {cs : List Value} {x : DataW H × List MemPlace} (h : DataW.trod enc Tryz.prog W base spare held fuel 25 cs = some x) (hsz : ∀ y ∈ x.1.weights Tryz.prog 25, y ≤ reachBytes) :
  ∃ C v, cs = calL C v ∧ SlB (fun _ => True) W v C.body ∧ CalOk C ∧ C.body.length ≤ 140737488351232 := by
 have hs := Tryz.underlying25
 obtain ⟨xs, n, hx, hl, hxl, hf⟩ := struct_cells hs (by kernel_rfl) (by kernel_rfl) h
 match cs, hl, xs, hxl with
 | [c0, c1, c2, c3, c4, c5, c6, c7, c8], _, [y0, y1, y2, y3, y4, y5, y6, y7, y8], _ =>
  obtain ⟨z0, e0, _, w0⟩ := DataW.trod_int (k := .i64) Tryz.underlying3 (hf 0 _ c0 y0 rfl rfl rfl)
  obtain ⟨z1, e1, _, w1⟩ := DataW.trod_int (k := .u64) Tryz.underlying22 (hf 1 _ c1 y1 rfl rfl rfl)
  obtain ⟨z2, e2, _, w2⟩ := DataW.trod_int (k := .u64) Tryz.underlying22 (hf 2 _ c2 y2 rfl rfl rfl)
  obtain ⟨z3, e3, _, w3⟩ := DataW.trod_int (k := .i64) Tryz.underlying3 (hf 3 _ c3 y3 rfl rfl rfl)
  obtain ⟨z4, e4, _, w4⟩ := DataW.trod_int (k := .i64) Tryz.underlying3 (hf 4 _ c4 y4 rfl rfl rfl)
  obtain ⟨z5, e5, _, w5⟩ := DataW.trod_int (k := .i64) Tryz.underlying3 (hf 5 _ c5 y5 rfl rfl rfl)
  obtain ⟨z6, e6, _, w6⟩ := DataW.trod_int (k := .u64) Tryz.underlying22 (hf 6 _ c6 y6 rfl rfl rfl)
  obtain ⟨z7, e7, _, w7⟩ := DataW.trod_int (k := .u64) Tryz.underlying22 (hf 7 _ c7 y7 rfl rfl rfl)
  obtain ⟨A, l, c, e8, hB, hlc, hc, hbl⟩ := bytes_weigh Tryz.underlying23 Tryz.underlying5 (by kernel_rfl) (by kernel_rfl) (hf 8 _ c8 y8 rfl rfl rfl) (field_weigh hs hx hsz (i := 8) rfl rfl)
  obtain ⟨x1, rfl, b1⟩ := u64N_of w1
  obtain ⟨x2, rfl, b2⟩ := u64N_of w2
  obtain ⟨x6, rfl, b6⟩ := u64N_of w6
  obtain ⟨x7, rfl, b7⟩ := u64N_of w7
  simp only [List.cons.injEq, and_true] at e0 e1 e2 e3 e4 e5 e6 e7 e8
  exact ⟨⟨z0, x1, x2, z3, z4, z5, x6, x7, l⟩, .slice A l.length c, by rw [e0, e1, e2, e3, e4, e5, e6, e7, e8]; rfl, ⟨A, c, rfl, hB, hlc, hc, fun _ _ _ => trivial⟩, ⟨⟨(i64_wf w0).1, (i64_wf w0).2, b1, b2⟩, b6, b7⟩, hbl⟩
theorem reply_trodJ {fuel : Nat} {cs : List Value} {x : DataW H × List MemPlace} (h : DataW.trod enc Tryz.prog W base spare held fuel 32 cs = some x) (hsz : ∀ y ∈ x.1.weights Tryz.prog 32, y ≤ reachBytes) :
  ∃ R v, cs = repL R v ∧ SlB (fun _ => True) W v R.body ∧ RepOk R ∧ R.body.length ≤ 140737488351232 := by
 have hs := Tryz.underlying32
 obtain ⟨xs, n, hx, hl, hxl, hf⟩ := struct_cells hs (by kernel_rfl) (by kernel_rfl) h
 match cs, hl, xs, hxl with
 | [c0, c1, c2, c3, c4, c5, c6, c7, c8], _, [y0, y1, y2, y3, y4, y5, y6, y7, y8], _ =>
  obtain ⟨z0, e0, _, w0⟩ := DataW.trod_int (k := .i64) Tryz.underlying3 (hf 0 _ c0 y0 rfl rfl rfl)
  obtain ⟨z1, e1, _, w1⟩ := DataW.trod_int (k := .u64) Tryz.underlying22 (hf 1 _ c1 y1 rfl rfl rfl)
  obtain ⟨z2, e2, _, w2⟩ := DataW.trod_int (k := .u64) Tryz.underlying22 (hf 2 _ c2 y2 rfl rfl rfl)
  obtain ⟨z3, e3, _, w3⟩ := DataW.trod_int (k := .i64) Tryz.underlying30 (hf 3 _ c3 y3 rfl rfl rfl)
  obtain ⟨z4, e4, _, w4⟩ := DataW.trod_int (k := .u64) Tryz.underlying22 (hf 4 _ c4 y4 rfl rfl rfl)
  obtain ⟨z5, e5, _, w5⟩ := DataW.trod_int (k := .i64) Tryz.underlying3 (hf 5 _ c5 y5 rfl rfl rfl)
  obtain ⟨z6, e6, _, w6⟩ := DataW.trod_int (k := .i64) Tryz.underlying3 (hf 6 _ c6 y6 rfl rfl rfl)
  obtain ⟨z7, e7, _, w7⟩ := DataW.trod_int (k := .u64) Tryz.underlying22 (hf 7 _ c7 y7 rfl rfl rfl)
  obtain ⟨A, l, c, e8, hB, hlc, hc, hbl⟩ := bytes_weigh Tryz.underlying23 Tryz.underlying5 (by kernel_rfl) (by kernel_rfl) (hf 8 _ c8 y8 rfl rfl rfl) (field_weigh hs hx hsz (i := 8) rfl rfl)
  obtain ⟨x1, rfl, b1⟩ := u64N_of w1
  obtain ⟨x2, rfl, b2⟩ := u64N_of w2
  obtain ⟨x4, rfl, b4⟩ := u64N_of w4
  obtain ⟨x7, rfl, b7⟩ := u64N_of w7
  simp only [List.cons.injEq, and_true] at e0 e1 e2 e3 e4 e5 e6 e7 e8
  exact ⟨⟨z0, x1, x2, z3, x4, z5, z6, x7, l⟩, .slice A l.length c, by rw [e0, e1, e2, e3, e4, e5, e6, e7, e8]; rfl, ⟨A, c, rfl, hB, hlc, hc, fun _ _ _ => trivial⟩, ⟨⟨(i64_wf w0).1, (i64_wf w0).2, b1, b2⟩, b4, b7⟩, hbl⟩
variable {r : Reach} {b0 : Nat} {v : Value} {d : DataW H} {p : List MemPlace}
theorem open_callJ (hv : Value.okWide Tryz.prog W r b0 25 v) (h : DataW.Trod enc Tryz.prog W base spare held 25 v d p) (hsz : ∀ y ∈ d.weights Tryz.prog 25, y ≤ reachBytes) :
  ∃ C u, v = .agg (calL C u).toArray ∧ SlB (fun _ => True) W u C.body ∧ CalOk C ∧ C.body.length ≤ 140737488351232 := by
 obtain ⟨cs, rfl, _⟩ := okWide_struct Tryz.underlying25 hv
 obtain ⟨fuel, hf⟩ := h
 obtain ⟨C, u, h1, h2⟩ := call_trodJ hf hsz
 refine ⟨C, u, ?_, h2⟩
 have : cs.toList = calL C u := by simpa [Value.cells] using h1
 rw [← Array.toArray_toList (xs := cs), this]
end
end Go.Proofs.YtpjmolnkmlpfeaaGreatDoor

/- Calls and replies side by side, numbered: plain. -/
namespace Go.Proofs.YtpjmolnkmlpfeaaGreatDoor
set_option maxRecDepth 100000

/-- A call, a reply, with what holds its bytes. -/
structure CaV where
 c : Cal
 v : Value
structure ReV where
 r : Rep
 v : Value
section
variable (lc : List CaV) (lr : List ReV)
end
variable {lc : List CaV} {lr : List ReV}
end Go.Proofs.YtpjmolnkmlpfeaaGreatDoor

/- The laws' heavy. -/
namespace Go.Proofs.YtpjmolnkmlpfeaaGreatDoor
set_option maxRecDepth 100000
open Go.RowKit

end Go.Proofs.YtpjmolnkmlpfeaaGreatDoor

/- A region's end stated once, where two places were made in it; ranges behind writes. -/
namespace Go.Proofs.YtpjmolnkmlpfeaaGreatDoor
set_option maxRecDepth 100000
open Go.RowKit

/-- A region's end, once for all its forks; two places were made in it. -/
def Norm2 (A : Nat → Nat → Act) (S : Nat → Nat → World → Prop) (e : Exit) (b : Act) (w' : World) : Prop := match e with | .normal => ∃ g h, b = A g h ∧ S g h w' | _ => False
theorem share2 {P : Program} {c : Code} {Q : Exit → Act → World → Prop} {a : Act} {w : World} {S : Nat → Nat → World → Prop} {A : Nat → Nat → Act} (walk : c.wp P (Norm2 A S) a w) (rest : ∀ g h w', S g h w' → Q .normal (A g h) w') : c.wp P Q a w :=
 Code.wp_mono (fun e b w' h => by
  cases e with
  | normal => obtain ⟨g, k, rfl, hs⟩ := h; exact rest g k w' hs
  | _ => exact h.elim) walk
theorem rg_below {w w' : World} {b o : Nat} {vs : List Value} (h : w.rangeAt b o vs) (hb : Below w.heap.size w w') : w'.rangeAt b o vs := fun j v hv => (hb.cell (p := ⟨b, o + j, none⟩) (World.block_lt_of_cell? w _ (h j v hv))).trans (h j v hv)
end Go.Proofs.YtpjmolnkmlpfeaaGreatDoor

/- The law JudgeSerial, walked. -/
namespace Go.Proofs.YtpjmolnkmlpfeaaGreatDoor
set_option maxRecDepth 100000
open Go.RowKit

/-- The three models, in a row. -/
def mdT (f : Int → Mdl) (vs : Int → Value × Value) : List Value := mdL (f 1) (vs 1).1 (vs 1).2 ++ (mdL (f 2) (vs 2).1 (vs 2).2 ++ mdL (f 3) (vs 3).1 (vs 3).2)
def SerB (g : Nat) (hv : Value) (w : World) (f : Int → Mdl) : Prop := ∃ vs : Int → Value × Value, Blk w g 45 (mdT f vs).toArray ∧ ∀ n, MdF (fun b => g < b ∧ hv.ownBlock ≠ some b) w (vs n).1 (vs n).2 (f n)
theorem SerB.below {g : Nat} {hv : Value} {w w' : World} {f : Int → Mdl} (h : SerB g hv w f) (hb : Below w.heap.size w w') : SerB g hv w' f := by
 obtain ⟨vs, h1, h2⟩ := h
 exact ⟨vs, h1.below hb h1.lt, fun n => (h2 n).below hb⟩
/-- Behind a write elsewhere. -/
theorem SerB.mod {S : Nat → Prop} {g : Nat} {hv : Value} {w w' : World} {f : Int → Mdl} (h : SerB g hv w f) (hm : Mod S w w') (hg : ¬ S g) (hS : ∀ b, g < b → hv.ownBlock ≠ some b → b < w.heap.size → ¬ S b) : SerB g hv w' f := by
 obtain ⟨vs, h1, h2⟩ := h
 exact ⟨vs, h1.mod hm hg, fun n => (((h2 n).weak (K' := fun b => (g < b ∧ hv.ownBlock ≠ some b) ∧ b < w.heap.size) fun b hb h => ⟨h, hb⟩).mod hm fun b hb => hS b hb.1.1 hb.1.2 hb.2).weak fun b _ h => h.1⟩
/-- Behind an append of notes. -/
theorem SerB.grown {g : Nat} {hv hv' : Value} {w w' : World} {f : Int → Mdl} (h : SerB g hv w f) (hg : w.grownBy w' hv.ownBlock) (h0 : ∀ b, hv.ownBlock = some b → g < b) (hq : hv'.ownBlock = hv.ownBlock ∨ hv'.ownBlock = some w.heap.size) : SerB g hv' w' f := by
 have hm := mod_grownO hg
 obtain ⟨vs, h1, h2⟩ := h
 refine ⟨vs, h1.mod hm fun e => by have := h0 g e; omega, fun n => ?_⟩
 have h3 := (h2 n).weak (K' := fun b => (g < b ∧ hv.ownBlock ≠ some b) ∧ b < w.heap.size) fun b hb h => ⟨h, hb⟩
 refine (h3.mod hm fun b hb e => hb.1.2 e).weak fun b _ hb => ⟨hb.1.1, fun e => ?_⟩
 rcases hq with h' | h'
 ·exact hb.1.2 (h' ▸ e)
 ·rw [h'] at e
  injection e with e
  have := hb.2
  omega
theorem mdT_put {f : Int → Mdl} {vs : Int → Value × Value} {m : Mdl} {u1 u2 : Value} {q : Nat} (hq : q < 3) : putL (mdT f vs).toArray (q * 3) (mdL m u1 u2) = (mdT (fun n => if n = (q : Int) + 1 then m else f n) (fun n => if n = (q : Int) + 1 then (u1, u2) else vs n)).toArray := by
 match q, hq with
 | 0, _ => rfl
 | 1, _ => rfl
 | 2, _ => rfl
/-- A model is put. -/
theorem SerB.put {g : Nat} {hv : Value} {w w' : World} {f : Int → Mdl} {vs : Int → Value × Value} {m : Mdl} {u1 u2 : Value} {q : Nat} (hq : q < 3) (h2 : ∀ n, MdF (fun b => g < b ∧ hv.ownBlock ≠ some b) w (vs n).1 (vs n).2 (f n)) (h3 : MdF (fun b => g < b ∧ hv.ownBlock ≠ some b) w u1 u2 m)
  (hB : Blk w' g 45 (putL (mdT f vs).toArray (q * 3) (mdL m u1 u2))) (hm : Mod (fun b => b = g) w w') : SerB g hv w' (fun n => if n = (q : Int) + 1 then m else f n) := by
 rw [mdT_put hq] at hB
 refine ⟨_, hB, fun n => ?_⟩
 show MdF _ _ (if n = (q : Int) + 1 then (u1, u2) else vs n).1 (if n = (q : Int) + 1 then (u1, u2) else vs n).2 (if n = (q : Int) + 1 then m else f n)
 split
 ·exact h3.mod hm fun b hb e => by have := hb.1; omega
 ·exact (h2 n).mod hm fun b hb e => by have := hb.1; omega
section
variable {P : Program} {ops : Array Oper} {rest : List Oper} {op : Oper} {a : Act} {w w' : World} {Q : Exit → Act → World → Prop}
end
end Go.Proofs.YtpjmolnkmlpfeaaGreatDoor

/- Rows of acts; models; replies: arguments opened. -/
namespace Go.Proofs.YtpjmolnkmlpfeaaGreatDoor
set_option maxRecDepth 100000
open Go.ChangeShapes Go.WideShapes Go.ChangeAt Go.RowKit Go.Deep

section
variable {H : Type} {enc : TypeId × Value → H} {P : Program} {W : World}
/-- A slice within a struct, whose elements have K cells each, spelled by a family. -/
theorem open_rows_at {α : Type} {K bytes : Nat} {t e : TypeId} {base : Nat} {spare : Nat → Bool} {held : Bool} {fuel : Nat} {cs : List Value} {x : DataW H × List MemPlace} (f : α → List Value) (ok : α → Prop) (hK : 0 < K) (hf3 : ∀ x, (f x).length = K) (ht : P.underlying t = some (.slice e)) (hC : P.cellsOf e = K) (hB : P.bytesOf e = bytes)
  (hel : ∀ (n : Nat) (cs : List Value) (x : DataW H × List MemPlace), DataW.trod enc P W base spare held n e cs = some x → (∀ y ∈ x.1.weights P e, y ≤ reachBytes) → ∃ a : α, cs = f a ∧ ok a) (dflt : α)
  (hf : DataW.trod enc P W base spare held fuel t cs = some x) (hsz : ∀ y ∈ x.1.weights P t, y ≤ reachBytes) :
  ∃ (A : Option Addr) (l : List α) (c : Nat), cs = [.slice A l.length c] ∧ Reads W K A l.length (l.flatMap f) ∧ l.length ≤ c ∧ c ≤ 9223372036854775807 ∧ (∀ a ∈ l, ok a) ∧ l.length * bytes ≤ 140737488351232 := by
 rcases open_slice ht hf with ⟨hcs, _⟩ | ⟨a, len0, cap0, m, n, D, Pl, hcs, _, hl, hm, hmm, hx0, hx⟩
 ·exact ⟨none, [], 0, hcs, Reads.nil_ _ _ _, Nat.le_refl _, by omega, (fun a h => by cases h), by simp⟩
 ·have hwe := slice_weighs (A := some a) (n := len0) (c := cap0) (d := x.1) (p := x.2) ht hB hsz ⟨fuel, by rw [hcs] at hf; simpa [Value.cells] using hf⟩
  have hlm : len0 ≤ m := by rw [hmm]; split <;> omega
  have each : ∀ i, ∃ x : α, i < len0 → ok x ∧ ∀ j, j < K → W.cell? (a.add (i * K + j)) = (f x)[j]? := by
   intro i
   by_cases hi : i < len0
   ·obtain ⟨cs', h1, h2⟩ := hx i (by omega)
    rw [hC] at h1
    obtain ⟨_, hlen, hcell⟩ := World.cells?_some h1
    obtain ⟨x, rfl, hok⟩ := hel _ _ _ h2 fun y hy => hsz y (by
     rw [hx0]
     simp only [DataW.weights, ht]
     exact List.mem_cons_of_mem _ (List.mem_append_left _ (mem_weights_all (List.mem_map.2 ⟨i, List.mem_range.2 hi, rfl⟩) hy)))
    refine ⟨x, fun _ => ⟨hok, fun j hj => ?_⟩⟩
    have := hcell j hj
    rw [add_add'] at this
    exact this
   ·exact ⟨dflt, fun h => absurd h hi⟩
  obtain ⟨F, hF⟩ : ∃ F : Nat → α, ∀ i, i < len0 → ok (F i) ∧ ∀ j, j < K → W.cell? (a.add (i * K + j)) = (f (F i))[j]? := ⟨fun i => Classical.choose (each i), fun i => Classical.choose_spec (each i)⟩
  have hll : ((List.range len0).map F).length = len0 := by simp
  refine ⟨some a, (List.range len0).map F, cap0, by rw [hll]; exact hcs, ⟨by rw [rows_len hf3, hll], fun h0 => ⟨a, rfl, ?_, fun j u hu => ?_⟩⟩, by rw [hll]; exact hl, by simpa [maxLen] using hm, fun x hx => ?_, by rw [hll]; exact hwe⟩
  ·rw [hll] at h0
   have h1 := (hF 0 h0).2 0 hK
   rw [List.getElem?_eq_getElem (by rw [hf3]; omega)] at h1
   have := World.block_lt_of_cell? W _ h1
   rwa [add_block] at this
  ·have hj : j < len0 * K := by
    have := (List.getElem?_eq_some_iff.1 hu).1
    rw [rows_len hf3, hll] at this
    exact this
   have hi : j / K < len0 := Nat.div_lt_of_lt_mul (by rw [Nat.mul_comm]; exact hj)
   have hmod : j % K < K := Nat.mod_lt _ hK
   have hjK : j / K * K + j % K = j := by rw [Nat.mul_comm]; exact Nat.div_add_mod j K
   have h1 := (hF (j / K) hi).2 (j % K) hmod
   rw [hjK] at h1
   rw [h1, ← hu]
   have h2 := rows_at hf3 ((List.range len0).map F) (j / K) (j % K) (by rw [hll]; exact hi) hmod
   rw [hjK] at h2
   rw [h2]
   simp
  ·obtain ⟨i, hi, rfl⟩ := List.mem_map.1 hx
   exact (hF i (List.mem_range.1 hi)).1
end
/-- A model that came in. -/
structure MdIn (M : Mdl) : Prop where
 ent : ∀ e ∈ M.log, (-9223372036854775808 ≤ e.prod ∧ e.prod < 9223372036854775808) ∧ e.seq < 18446744073709551616 ∧ e.body.length ≤ 140737488351232
 trim : M.trim < 18446744073709551616
 cur : ∀ x ∈ M.cur, x < 18446744073709551616
 log : M.log.length * 40 ≤ 140737488351232
 curl : M.cur.length * 8 ≤ 140737488351232
theorem map_u64v (l : List Nat) : (l.flatMap fun z : Nat => [u64v z]) = l.map u64v := by
 induction l with
 | nil => rfl
 | cons a l ih => rw [List.flatMap_cons, ih]; rfl
section
variable {H : Type} {enc : TypeId × Value → H} {W : World} {base : Nat} {spare : Nat → Bool} {held : Bool}
theorem entry_trodJ {fuel : Nat} {cs : List Value} {x : DataW H × List MemPlace} (h : DataW.trod enc Tryz.prog W base spare held fuel 73 cs = some x) (hsz : ∀ y ∈ x.1.weights Tryz.prog 73, y ≤ reachBytes) :
  ∃ p : EnV, cs = enL p ∧ SlB (fun _ => True) W p.2 p.1.body ∧ (-9223372036854775808 ≤ p.1.prod ∧ p.1.prod < 9223372036854775808) ∧ p.1.seq < 18446744073709551616 ∧ p.1.body.length ≤ 140737488351232 := by
 have hs := Tryz.underlying73
 obtain ⟨xs, n, hx, hl, hxl, hf⟩ := struct_cells hs (by kernel_rfl) (by kernel_rfl) h
 match cs, hl, xs, hxl with
 | [c0, c1, c2], _, [y0, y1, y2], _ =>
  obtain ⟨z0, e0, _, w0⟩ := DataW.trod_int (k := .i64) Tryz.underlying3 (hf 0 _ c0 y0 rfl rfl rfl)
  obtain ⟨z1, e1, _, w1⟩ := DataW.trod_int (k := .u64) Tryz.underlying22 (hf 1 _ c1 y1 rfl rfl rfl)
  obtain ⟨A, l, c, e2, hB, hlc, hc, hbl⟩ := bytes_weigh Tryz.underlying23 Tryz.underlying5 (by kernel_rfl) (by kernel_rfl) (hf 2 _ c2 y2 rfl rfl rfl) (field_weigh hs hx hsz (i := 2) rfl rfl)
  obtain ⟨x1, rfl, b1⟩ := u64N_of w1
  simp only [List.cons.injEq, and_true] at e0 e1 e2
  exact ⟨(⟨z0, x1, l⟩, .slice A l.length c), by rw [e0, e1, e2]; rfl, ⟨A, c, rfl, hB, hlc, hc, fun _ _ _ => trivial⟩, i64_wf w0, b1, hbl⟩
theorem u64_trodJ {fuel : Nat} {cs : List Value} {x : DataW H × List MemPlace} (h : DataW.trod enc Tryz.prog W base spare held fuel 22 cs = some x) : ∃ n : Nat, cs = [u64v n] ∧ n < 18446744073709551616 := by
 obtain ⟨z, e, _, wf⟩ := DataW.trod_int (k := .u64) Tryz.underlying22 h
 obtain ⟨n, rfl, b⟩ := u64N_of wf
 exact ⟨n, e, b⟩
theorem model_trodJ {fuel : Nat} {cs : List Value} {x : DataW H × List MemPlace} (h : DataW.trod enc Tryz.prog W base spare held fuel 45 cs = some x) (hsz : ∀ y ∈ x.1.weights Tryz.prog 45, y ≤ reachBytes) :
  ∃ M vl vc, cs = mdL M vl vc ∧ MdF (fun _ => True) W vl vc M ∧ MdIn M := by
 have hs := Tryz.underlying45
 obtain ⟨xs, n, hx, hl, hxl, hf⟩ := struct_cells hs (by kernel_rfl) (by kernel_rfl) h
 match cs, hl, xs, hxl with
 | [c0, c1, c2], _, [y0, y1, y2], _ =>
  obtain ⟨A0, l0, d0, e0, r0, b0, b0', k0, s0⟩ := open_rows_at (K := 3) (bytes := 40) enL (fun p => SlB (fun _ => True) W p.2 p.1.body ∧ (-9223372036854775808 ≤ p.1.prod ∧ p.1.prod < 9223372036854775808) ∧ p.1.seq < 18446744073709551616 ∧ p.1.body.length ≤ 140737488351232) (by decide) enL_len Tryz.underlying42 (by kernel_rfl) (by kernel_rfl) (fun n cs x hx hw => entry_trodJ hx hw) (zEnt, nilV) (hf 0 _ c0 y0 rfl rfl rfl) (field_weigh hs hx hsz (i := 0) rfl rfl)
  obtain ⟨z1, e1, _, w1⟩ := DataW.trod_int (k := .u64) Tryz.underlying22 (hf 1 _ c1 y1 rfl rfl rfl)
  obtain ⟨A2, l2, d2, e2, r2, b2, b2', k2, s2⟩ := open_rows_at (K := 1) (bytes := 8) (fun z : Nat => [u64v z]) (fun n => n < 18446744073709551616) (by decide) (fun _ => rfl) Tryz.underlying43 (by kernel_rfl) (by kernel_rfl) (fun n cs x hx hw => u64_trodJ hx) 0 (hf 2 _ c2 y2 rfl rfl rfl) (field_weigh hs hx hsz (i := 2) rfl rfl)
  obtain ⟨x1, rfl, b1⟩ := u64N_of w1
  simp only [List.cons.injEq, and_true] at e0 e1 e2
  rw [map_u64v] at r2
  refine ⟨⟨l0.map (·.1), x1, l2⟩, .slice A0 l0.length d0, .slice A2 l2.length d2, by rw [e0, e1, e2]; rfl, ⟨⟨A0, d0, l0, rfl, rfl, r0, fun p hp => (k0 p hp).1, b0, b0', fun _ _ _ => trivial⟩, ⟨A2, d2, rfl, r2, b2, b2', fun _ _ _ => trivial⟩⟩, ⟨fun e he => ?_, b1, k2, by rw [List.length_map]; exact s0, s2⟩⟩
  obtain ⟨p, hp, rfl⟩ := List.mem_map.1 he
  exact (k0 p hp).2
variable {r : Reach} {b0 : Nat} {v : Value} {d : DataW H} {p : List MemPlace}
theorem open_mdlJ (hv : Value.okWide Tryz.prog W r b0 45 v) (h : DataW.Trod enc Tryz.prog W base spare held 45 v d p) (hsz : ∀ y ∈ d.weights Tryz.prog 45, y ≤ reachBytes) :
  ∃ M vl vc, v = .agg (mdL M vl vc).toArray ∧ MdF (fun _ => True) W vl vc M ∧ MdIn M := by
 obtain ⟨cs, rfl, _⟩ := okWide_struct Tryz.underlying45 hv
 obtain ⟨fuel, hf⟩ := h
 obtain ⟨M, vl, vc, h1, h2⟩ := model_trodJ hf hsz
 refine ⟨M, vl, vc, ?_, h2⟩
 have : cs.toList = mdL M vl vc := by simpa [Value.cells] using h1
 rw [← Array.toArray_toList (xs := cs), this]
theorem open_replyJ (hv : Value.okWide Tryz.prog W r b0 32 v) (h : DataW.Trod enc Tryz.prog W base spare held 32 v d p) (hsz : ∀ y ∈ d.weights Tryz.prog 32, y ≤ reachBytes) :
  ∃ R u, v = .agg (repL R u).toArray ∧ SlB (fun _ => True) W u R.body ∧ RepOk R ∧ R.body.length ≤ 140737488351232 := by
 obtain ⟨cs, rfl, _⟩ := okWide_struct Tryz.underlying32 hv
 obtain ⟨fuel, hf⟩ := h
 obtain ⟨R, u, h1, h2⟩ := reply_trodJ hf hsz
 refine ⟨R, u, ?_, h2⟩
 have : cs.toList = repL R u := by simpa [Value.cells] using h1
 rw [← Array.toArray_toList (xs := cs), this]
end
end Go.Proofs.YtpjmolnkmlpfeaaGreatDoor
