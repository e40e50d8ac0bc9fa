/- The law JudgeLong, walked. -/
import Derived.Test.YtpjmolnkmlpfeaaGreatDoorJuLd
import Derived.Test.YtpjmolnkmlpfeaaGreatDoorJQ
import Derived.Test.YtpjmolnkmlpfeaaGreatDoorJuRm
namespace Go.Proofs.YtpjmolnkmlpfeaaGreatDoor
set_option linter.unusedVariables false
set_option linter.unusedSimpArgs false
set_option maxRecDepth 100000
open Go.RowKit

/-- What a call's numbers are. -/
structure CalOk (C : Cal) : Prop where
  id : IdOk (idOf C)
  seq : C.seq < 18446744073709551616
  at_ : C.at_ < 18446744073709551616
theorem i64_and7 (n : Int) : bits .and .i64 n 7 = n % 8 := by
  have h1 : (BitVec.ofInt 64 n &&& BitVec.ofInt 64 7).toNat = (BitVec.ofInt 64 n).toNat % 8 := by
    rw [BitVec.toNat_and, show (BitVec.ofInt 64 7).toNat = 7 by decide]
    exact Nat.and_two_pow_sub_one_eq_mod _ 3
  show IntKind.i64.wrap ((BitVec.ofInt 64 n &&& BitVec.ofInt 64 7).toNat : Int) = _
  rw [h1, BitVec.toNat_ofInt, IntKind.wrap_i64]
  omega
def longV (C : Cal) (u : Value) : Nat → List NtV
  | 0 => []
  | k + 1 => longV C u k ++ [begV (atN C (k + 1)) u, endV (atN C (k + 1)) (saysR (atN C (k + 1)) 3 0 0) u nilV]
theorem longV_map (C : Cal) (u : Value) : ∀ k, (longV C u k).map (·.n) = longH C k
  | 0 => rfl
  | k + 1 => by
    show (longV C u k ++ _).map (·.n) = longH C k ++ _
    rw [List.map_append, longV_map C u k]
    rfl
theorem longV_len (C : Cal) (u : Value) (k : Nat) : (longV C u k).length = 2 * k := by
  have := congrArg List.length (longV_map C u k)
  rwa [List.length_map, longH_len] at this
theorem longV_sl {K : Nat → Prop} {w : World} {C : Cal} {u : Value} (h : SlB K w u C.body) : ∀ k, ∀ x ∈ longV C u k, SlB K w x.vc x.n.call.body ∧ SlB K w x.vr x.n.rep.body
  | 0, x, hx => by cases hx
  | k + 1, x, hx => by
    rcases List.mem_append.1 hx with hx | hx
    · exact longV_sl h k x hx
    · rcases List.mem_cons.1 hx with rfl | hx
      · exact ⟨h, SlB.nil _ _⟩
      · rw [List.mem_singleton.1 hx]; exact ⟨h, SlB.nil _ _⟩
theorem zrep_ok : IdOk (repId zRep) := ⟨by decide, by decide, by decide, by decide⟩
theorem longH_ok {C : Cal} (h : MayP (atN C 1)) (hk : CalOk C) (hb : C.body.length ≤ 1000000) {k : Nat} (hk2 : k ≤ 2000) : ∀ x ∈ longH C k, NtOk x := by
  have hmay := h.1
  simp only [atN] at hmay
  have h2 := hk.seq
  have h3 := hk.at_
  have ok : ∀ j, j ≤ 2000 → IdOk (idOf (atN C j)) := fun j hj => by
    refine ⟨?_, ?_, ?_, ?_⟩ <;> simp only [idOf, atN] <;> omega
  induction k with
  | zero => intro x hx; cases hx
  | succ k ih =>
    intro x hx
    rcases List.mem_append.1 hx with hx | hx
    · exact ih (by omega) x hx
    · rcases List.mem_cons.1 hx with rfl | hx
      · exact ⟨ok (k + 1) (by omega), zrep_ok, h2, h3, (show 0 < 18446744073709551616 by decide), hb, (show 0 ≤ 1000000 by decide)⟩
      · rw [List.mem_singleton.1 hx]
        exact ⟨ok (k + 1) (by omega), ok (k + 1) (by omega), h2, h3, (show 0 < 18446744073709551616 by decide), hb, (show 0 ≤ 1000000 by decide)⟩
section
variable {P : Program} {op : Oper} {a : Act} {w : World} {K : Act → World → Prop} {Q : Exit → Act → World → Prop}
theorem wp_mk0 (ho : op.op = .buildSlice 28 0 #[]) (h : ∀ g w', OwH w.heap.size w' (.slice (some ⟨g, 0, none⟩) 0 0) [] → Below w.heap.size w w' → K (a.put op.dst (.slice (some ⟨g, 0, none⟩) 0 0)) w') : op.wp Tryz.prog a w K Q := by
  have hb : (Instr.buildSlice 28 0 #[]).run Tryz.prog w = .ok (.slice (some ⟨w.heap.size, 0, none⟩) 0 0) (w.alloc (.cells #[] 38)) := by kernel_rfl
  unfold Oper.wp execOp
  simp only [ho, Sem.run_bind, List.map_toArray, List.map_nil, hb, Result.andThen_ok, Sem.run_pure]
  exact h _ _ (owh_new w [] (Nat.le_refl _) (by decide)) (below_new _ _)
theorem wp_mk1 {x : NtV} {p : Operand} (ho : op.op = .buildSlice 28 1 #[(0, p)]) (hx : a.eval p = .agg (ntL x).toArray) (h : ∀ g w', OwH w.heap.size w' (.slice (some ⟨g, 0, none⟩) 1 1) [x] → Below w.heap.size w w' → K (a.put op.dst (.slice (some ⟨g, 0, none⟩) 1 1)) w') : op.wp Tryz.prog a w K Q := by
  have hb : (Instr.buildSlice 28 1 #[(0, .agg (ntL x).toArray)]).run Tryz.prog w = .ok (.slice (some ⟨w.heap.size, 0, none⟩) 1 1) (w.alloc (.cells ([x].flatMap ntL).toArray 38)) := by kernel_rfl
  unfold Oper.wp execOp
  simp only [ho, Sem.run_bind, List.map_toArray, List.map_cons, List.map_nil, hx, hb, Result.andThen_ok, Sem.run_pure]
  exact h _ _ (owh_new w [x] (Nat.le_refl _) (by simp)) (below_new _ _)
/-- append of notes. -/
theorem wp_appN {s x : Operand} (ho : op.op = .call { callee := .builtin .append, args := #[s, x], argTypes := #[28, 28] }) {B B2 : Nat} {v : Value} {N M : List NtV} {A : Option Addr} {d : Nat} (hown : OwH B w v N) (hs : a.eval s = v) (h2 : OwH B2 w (.slice A M.length d) M) (hx : a.eval x = .slice A M.length d)
    (h1 : ∀ y ∈ M, y.vc.oneCell' = true ∧ y.vr.oneCell' = true) (hn : N.length + M.length ≤ 100000) (hB : B ≤ w.heap.size)
    (h : ∀ c' A' w', OwH B w' (.slice A' (N ++ M).length c') (N ++ M) → w.grownBy w' v.ownBlock → K (a.put op.dst (.slice A' (N ++ M).length c')) w') : op.wp Tryz.prog a w K Q := by
  refine app_wp note_ty ho hown hs (Reads.of_own h2) hx (ntL_one h1) (by omega) hB fun v' w' ho' hg' _ => ?_
  have ho2 : OwH B w' v' (N ++ M) := by
    show World.ownsRow _ _ _ _ _ _ _
    rw [List.length_append, List.flatMap_append]
    exact ho'
  obtain ⟨A', c', rfl, _, _⟩ := own_slice ho2
  exact h c' A' w' ho2 hg'
end
theorem OwH.raise {B B' : Nat} {w : World} {g n c : Nat} {N : List NtV} (h : OwH B w (.slice (some ⟨g, 0, none⟩) n c) N) (hg : B' ≤ g) : OwH B' w (.slice (some ⟨g, 0, none⟩) n c) N := by
  refine ⟨h.1, ?_⟩
  rcases h.2 with ⟨e, _⟩ | ⟨g2, cap, cur, e, _, r⟩
  · cases e
  · refine .inr ⟨g2, cap, cur, e, ?_, r⟩
    injection e with e
    injection e with e
    injection e with e
    omega
theorem longV_map2 {C : Cal} {u : Value} {N : Nat} : (([] ++ longV C u N) ++ [begV (atN C 1) u]).map (fun x : NtV => x.n) = longH C N ++ [begN (atN C 1)] := by
  rw [List.nil_append, List.map_append, longV_map]
  rfl
theorem longV_more {K : Nat → Prop} {w : World} {C : Cal} {u : Value} (h : SlB K w u C.body) (N : Nat) : ∀ x ∈ ([] ++ longV C u N) ++ [begV (atN C 1) u], SlB K w x.vc x.n.call.body ∧ SlB K w x.vr x.n.rep.body := by
  intro y hy
  rcases List.mem_append.1 hy with hy | hy
  · exact longV_sl h N y hy
  · rw [List.mem_singleton.1 hy]
    exact ⟨h, SlB.nil _ _⟩
theorem longV_one {C : Cal} {u : Value} (h : u.oneCell' = true) : ∀ k, ∀ y ∈ longV C u k, y.vc.oneCell' = true ∧ y.vr.oneCell' = true
  | 0, x, hx => by cases hx
  | k + 1, x, hx => by
    rcases List.mem_append.1 hx with hx | hx
    · exact longV_one h k x hx
    · rcases List.mem_cons.1 hx with rfl | hx
      · exact ⟨h, rfl⟩
      · rw [List.mem_singleton.1 hx]; exact ⟨h, rfl⟩
theorem longV_get {C : Cal} {u : Value} : ∀ {k : Nat} (h : 1 ≤ k), ∃ h2 : 0 < (longV C u k).length, (longV C u k)[0] = begV (atN C 1) u
  | 1, _ => ⟨by rw [longV_len]; omega, rfl⟩
  | k + 2, _ => by
    obtain ⟨h2, e⟩ := longV_get (C := C) (u := u) (k := k + 1) (by omega)
    refine ⟨by rw [longV_len]; omega, ?_⟩
    show (longV C u (k + 1) ++ _)[0] = _
    rw [List.getElem_append_left h2, e]
namespace JudgeLong
set_option maxRecDepth 100000 in
set_option maxHeartbeats 8000000 in
theorem walk {w : World} (x0 : Int64) (C : Cal) (u : Value) (b1 : SlB (fun _ => True) w u C.body) (k1 : CalOk C) :
    Calls Tryz.prog 3 #[.int .i64 x0.toInt, .agg (calL C u).toArray] w fun e w' => e = .returned (.bool true) ∧ Below w.heap.size w w' := by
  generalize x0.toInt = more
  obtain ⟨A, c, rfl, hA, hc1, hc2, _⟩ := b1
  have HA : Hid (SlB (fun _ => True) w (.slice A C.body.length c) C.body) := ⟨A, c, rfl, hA, hc1, hc2, fun _ _ _ => trivial⟩
  obtain ⟨n, hn⟩ : ∃ n, n = C.body.length := ⟨_, rfl⟩
  have HN := Lib.hid hn
  rw [← hn] at HA ⊢
  have hB1 : Blk (w.alloc (.cells (calL C (.slice A n c)).toArray 25)) w.heap.size 25 (calL C (.slice A n c)).toArray := Blk.new _ _ _
  have hb1 := below_new w (.cells (calL C (.slice A n c)).toArray 25)
  have c0 := (hB1.cell 0).trans (rfl : _ = some (Value.int .i64 C.cl))
  have c1 := (hB1.cell 1).trans (rfl : _ = some (Value.int .u64 (C.inc : Int)))
  have c2 := (hB1.cell 2).trans (rfl : _ = some (Value.int .u64 (C.n : Int)))
  have c8 := (hB1.cell 8).trans (rfl : _ = some (Value.slice A n c))
  have f1 := hB1.free 1
  have f2 := hB1.free 2
  have HB1 := Lib.hid hB1
  have HT := Lib.hid hb1
  have HK := Lib.hid k1
  clear hB1 hb1 hA hc1 hc2 k1 hn
  by_cases hbig : 100 < n ∨ C.cl < 1 ∨ 15 < C.cl
  · have hfin : ∀ w2, Below w.heap.size w w2 → Calls Tryz.prog 9 #[] w2 fun e w' => e = .returned (.bool true) ∧ Below w.heap.size w w' := fun w2 h2 => (awake_any w2).mono fun e w' ⟨h1, h3⟩ => ⟨h1, h2.trans (h3.mono h2.size)⟩
    have HF := Lib.hid hfin
    clear hfin f1 f2 c1 c2
    by_cases h1 : 100 < n
    · have d1 : decide (100 < n) = true := decide_eq_true h1
      have d2 : decide ((100 : Int) < (n : Int)) = true := decide_eq_true (by omega)
      clear hbig h1
      go_enter Tryz.func3, Tryz.ntmps3
      go_wp2_with fail
      refine (HF.out _ HT.out).mono ?_
      rintro e w4 ⟨rfl, hb4⟩
      go_wp2_with fail
      go_ret
      exact ⟨rfl, hb4⟩
    · have d1 : decide (100 < n) = false := decide_eq_false h1
      have d2 : decide ((100 : Int) < (n : Int)) = false := decide_eq_false (by omega)
      by_cases h2 : C.cl < 1
      · have d3 : decide (C.cl < 1) = true := decide_eq_true h2
        clear hbig h1 h2
        go_enter Tryz.func3, Tryz.ntmps3
        go_wp2_with fail
        refine (HF.out _ HT.out).mono ?_
        rintro e w4 ⟨rfl, hb4⟩
        go_wp2_with fail
        go_ret
        exact ⟨rfl, hb4⟩
      · have d3 : decide (C.cl < 1) = false := decide_eq_false h2
        have d4 : decide (15 < C.cl) = true := decide_eq_true (by omega)
        clear hbig h1 h2
        go_enter Tryz.func3, Tryz.ntmps3
        go_wp2_with fail
        refine (HF.out _ HT.out).mono ?_
        rintro e w4 ⟨rfl, hb4⟩
        go_wp2_with fail
        go_ret
        exact ⟨rfl, hb4⟩
  · have d1 : decide (100 < n) = false := decide_eq_false (by omega)
    have d2 : decide ((100 : Int) < (n : Int)) = false := decide_eq_false (by omega)
    have d3 : decide (C.cl < 1) = false := decide_eq_false (by omega)
    have d4 : decide (15 < C.cl) = false := decide_eq_false (by omega)
    have HG : Hid (n ≤ 100 ∧ 1 ≤ C.cl ∧ C.cl ≤ 15) := ⟨by omega, by omega, by omega⟩
    clear hbig
    go_enter Tryz.func3, Tryz.ntmps3
    have HB2 : Hid (Blk (w.alloc (.cells (((calL C (.slice A n c)).set 1 (.int .u64 1)).set 2 (.int .u64 1)).toArray 25)) w.heap.size 25 (calL (atN C 1) (.slice A n c)).toArray) := Blk.new _ _ _
    have HT2 : Hid (Below w.heap.size w (w.alloc (.cells (((calL C (.slice A n c)).set 1 (.int .u64 1)).set 2 (.int .u64 1)).toArray 25))) := below_new _ _
    go_wp2_with (refine wpList_load_rg rfl (ty := 25) rfl (vs := calL (atN C 1) (.slice A n c)) rfl (Blk.rangeAll HB2.out) Tryz.underlying25 rfl (infoj_call9 rfl) ?_; refine Hid.out ?_)
    refine Lib.hid ?_
    clear c0 c1 c2 c8 f1 f2 HB1 HT
    generalize w.alloc (.cells (((calL C (.slice A n c)).set 1 (.int .u64 1)).set 2 (.int .u64 1)).toArray 25) = w2 at HB2 HT2 ⊢
    have HA2 : Hid (SlB (fun _ => True) w2 (.slice A n c) (atN C 1).body) := HA.out.below HT2.out
    have hmay := rmay_any (C := atN C 1) HA2.out
    have HM := Lib.hid hmay
    clear hmay
    go_wp2_with fail
    refine HM.out.mono ?_
    rintro e w3 ⟨rfl, hb3⟩
    have HB3 := Lib.hid (HB2.out.below hb3 HB2.out.lt)
    have HT3 := Lib.hid (HT2.out.trans (hb3.mono HT2.out.size))
    have HA3 : Hid (SlB (fun _ => True) w3 (.slice A n c) C.body) := HA2.out.below hb3
    clear hb3 HB2 HT2 HA2 HM
    cases hmc : mayC (atN C 1) with
    | false =>
      clear hmc
      go_wp2_with fail
      refine (awake_any w3).mono ?_
      rintro e w4 ⟨rfl, hb4⟩
      have HT4 := Lib.hid (HT3.out.trans (hb4.mono HT3.out.size))
      clear hb4
      go_wp2_with fail
      go_ret
      exact ⟨rfl, HT4.out⟩
    | true =>
      have hmp : MayP (atN C 1) := by unfold mayC at hmc; exact of_decide_eq_true hmc
      have HMP := Lib.hid hmp
      clear hmc hmp
      obtain ⟨m, hm, hm7⟩ : ∃ m : Nat, bits .and .i64 more 7 = (m : Int) ∧ m ≤ 7 := ⟨(more % 8).toNat, by rw [i64_and7]; omega, by omega⟩
      obtain ⟨N, hN⟩ : ∃ N : Nat, N = 1001 + m := ⟨_, rfl⟩
      go_wp2_with fail
      rw [show (1001 + (m : Int)) = (N : Int) by omega]
      have HNN : Hid (1001 ≤ N ∧ N ≤ 1008) := ⟨by omega, by omega⟩
      clear hm hm7 hN
      go_loopw [5, 7] (fun ov i wr => ∃ q : Nat, 1 ≤ q ∧ q ≤ N + 1 ∧ i = .int .i64 (q : Int) ∧ Below w.heap.size w wr ∧ (∃ j, Blk wr w.heap.size 25 (calL (atN C j) (.slice A n c)).toArray) ∧ OwH (w.heap.size + 1) wr ov (longV C (.slice A n c) (q - 1))) (fun _ i _ => N + 1 - (intOf i).toNat)
      case atStart => exact ⟨1, by omega, by omega, rfl, HT3.out, ⟨1, HB3.out⟩, World.ownsRow_nil _ _ _ _⟩
      case round =>
        obtain ⟨q, hq1, hqN, rfl, hb, ⟨j, hB⟩, ho⟩ := hrel
        have HBr := Lib.hid hb
        have HBk := Lib.hid hB
        have HO := Lib.hid ho
        have hN8 := HNN.out
        by_cases hlt : q ≤ N
        · have cc2 := (hB.cell 2).trans (rfl : _ = some (Value.int .u64 (j : Int)))
          have ff2 := hB.free 2
          have hw : IntKind.u64.wrap (q : Int) = (q : Int) := by rw [IntKind.wrap_u64]; omega
          have HB4 : Hid (Blk (wr.setCell ⟨w.heap.size, 2, none⟩ (.int .u64 (q : Int))) w.heap.size 25 (calL (atN C q) (.slice A n c)).toArray) := hB.put 2 (.int .u64 (q : Int))
          have hm4 : Mod (fun b => b = w.heap.size) wr (wr.setCell ⟨w.heap.size, 2, none⟩ (.int .u64 (q : Int))) := Mod.set (S := fun b => b = w.heap.size) (Mod.refl _ _) (p := ⟨w.heap.size, 2, none⟩) (fun _ => rfl) _
          have HT4 : Hid (Below w.heap.size w (wr.setCell ⟨w.heap.size, 2, none⟩ (.int .u64 (q : Int)))) := hb.trans (hm4.to_below hb.size fun b hb e => by omega)
          have HO4 : Hid (OwH (w.heap.size + 1) (wr.setCell ⟨w.heap.size, 2, none⟩ (.int .u64 (q : Int))) u5 (longV C (.slice A n c) (q - 1))) := own_mod ho hm4 fun b hb e => by have := own_ge ho b hb; omega
          clear hb hB ho hm4
          go_wp2_with fail
          generalize wr.setCell ⟨w.heap.size, 2, none⟩ (.int .u64 (q : Int)) = w4 at HB4 HT4 HO4 ⊢
          clear cc2 ff2
          obtain ⟨A5, c5, rfl, _, _⟩ := own_slice HO4.out
          refine PF.pf_begin (by kernel_rfl) ?_
          refine PF.pf_take0 0 (by kernel_rfl) rfl (fun _ _ _ _ _ h => h) (by kernel_rfl) (fun u => by go_simp; try rfl) ?_
          try simp only [Act.put, pz0, pz1, pz2]
          refine PF.pf_take1 1 ((fun u => Blk u w.heap.size 25 (calL (atN C q) (.slice A n c)).toArray)) (by kernel_rfl) rfl (fun _ _ _ _ _ h => h) (by kernel_rfl) (HB4.out) (fun u hu => by (exact exec_load_blk rfl rfl hu Tryz.underlying25 rfl (info_call rfl))) ?_
          try simp only [Act.put, pz0, pz1, pz2]
          refine PF.pf_take1 2 ((fun u => Blk u w.heap.size 25 (calL (atN C q) (.slice A n c)).toArray)) (by kernel_rfl) rfl (fun _ _ _ _ _ h => h) (by kernel_rfl) (HB4.out) (fun u hu => by (exact exec_load_blk rfl rfl hu Tryz.underlying25 rfl (info_call rfl))) ?_
          try simp only [Act.put, pz0, pz1, pz2]
          refine PF.pf_exec 3 (by kernel_rfl) rfl (by kernel_rfl) (fun K hK => ?_)
          go_simp
          refine (says_any _ (atN C q) (.slice A n c) 3 0 0).mono ?_
          rintro e w5 ⟨rfl, hb⟩
          have hb := ((Below.refl w4.heap.size w4).drew).trans hb
          have HB5 := Lib.hid (HB4.out.below hb HB4.out.lt)
          have HO5 := Lib.hid (OwH.below HO4.out hb)
          have HT5 := Lib.hid (HT4.out.trans (hb.mono HT4.out.size))
          clear hb
          refine hK _ _ (by repeat (first | exact PF.owes_nil | refine PF.owes_left ?_ | refine PF.owes_no (by decide +kernel) ?_ | refine PF.owes_yes (by exact HB5.out) ?_)) ?_
          clear hK K
          try simp only [Act.put, pz0, pz1, pz2]
          refine PF.pf_exec 4 (by kernel_rfl) rfl (by kernel_rfl) (fun K hK => ?_)
          go_simp
          refine (both_any _ (atN C q) (saysR (atN C q) 3 0 0) (.slice A n c) nilV).mono ?_
          rintro e w6 ⟨⟨g6, rfl, hw6⟩, hb⟩
          have HB6 := Lib.hid (HB5.out.below hb HB5.out.lt)
          have HO6 := Lib.hid (OwH.below HO5.out hb)
          have HT6 := Lib.hid (HT5.out.trans (hb.mono HT5.out.size))
          have HW6 := Lib.hid hw6
          clear hb hw6
          refine hK _ _ (by repeat (first | exact PF.owes_nil | refine PF.owes_left ?_ | refine PF.owes_no (by decide +kernel) ?_ | refine PF.owes_yes (by exact HB6.out) ?_)) ?_
          clear hK K
          try simp only [Act.put, pz0, pz1, pz2]
          refine PF.pf_exec 5 (by kernel_rfl) rfl (by kernel_rfl) (fun K hK => ?_)
          refine wp_appN (B := w.heap.size + 1) (N := longV C (.slice A n c) (q - 1)) (M := [begV (atN C q) (.slice A n c), endV (atN C q) (saysR (atN C q) 3 0 0) (.slice A n c) nilV]) rfl HO6.out rfl HW6.out rfl (by intro y hy; rcases List.mem_cons.1 hy with rfl | hy; exact ⟨rfl, rfl⟩; rw [List.mem_singleton.1 hy]; exact ⟨rfl, rfl⟩) (by rw [longV_len]; simp only [List.length_cons, List.length_nil]; omega) (by have := HB6.out.lt; omega) ?_
          intro c7 A7 w7 ho7 hg7
          have HO7 := Lib.hid ho7
          have HB7 := Lib.hid (HB6.out.grown hg7 (fun e => by have := own_ge HO6.out _ e.symm; omega))
          have HT7 := Lib.hid (HT6.out.grown hg7 HT6.out.size (fun b hb => by have := own_ge HO6.out b hb; omega))
          clear ho7 hg7
          refine hK _ _ (by repeat (first | exact PF.owes_nil | refine PF.owes_left ?_ | refine PF.owes_no (by decide +kernel) ?_ | refine PF.owes_yes (by exact HB7.out) ?_)) ?_
          clear hK K
          try simp only [Act.put, pz0, pz1, pz2]
          refine PF.pf_take0 6 (by kernel_rfl) rfl (fun _ _ _ _ _ h => h) (by kernel_rfl) (fun u => by go_simp; try rfl) ?_
          try simp only [Act.put, pz0, pz1, pz2]
          refine PF.pf_done (by kernel_rfl) ?_
          go_wp2_with fail
          go_roundw
          case rel =>
            refine ⟨q + 1, by omega, by omega, by go_num, HT7.out, ⟨q, HB7.out⟩, ?_⟩
            have e : longV C (.slice A n c) (q + 1 - 1) = longV C (.slice A n c) (q - 1) ++ [begV (atN C q) (.slice A n c), endV (atN C q) (saysR (atN C q) 3 0 0) (.slice A n c) nilV] := by
              obtain ⟨p, rfl⟩ : ∃ p, q = p + 1 := ⟨q - 1, by omega⟩
              show longV C (.slice A n c) (p + 1) = longV C (.slice A n c) p ++ _
              rfl
            rw [e]
            have h7 := HO7.out
            rw [List.length_append] at h7
            exact h7
          case measure => simp [intOf]; omega
        · obtain rfl : q = N + 1 := by omega
          have ho2 : OwH (w.heap.size + 1) wr u5 (longV C (.slice A n c) N) := HO.out
          obtain ⟨A5, c5, rfl, _, _⟩ := own_slice ho2
          have HO2 := Lib.hid ho2
          have hbl : C.body.length ≤ 1000000 := by have := HG.out.1; have := HN.out; omega
          have HOKS : Hid (∀ x ∈ longH C N, NtOk x) := longH_ok HMP.out HK.out hbl (by omega)
          have HSB : Hid (SlB (fun _ => True) wr (.slice A n c) C.body) := HA.out.below HBr.out
          have hslh := ho2.slh (longV_sl HSB.out N)
          rw [longV_map] at hslh
          have hmm := jmay_any hslh HOKS.out (by rw [longH_len]; omega)
          have HMM := Lib.hid hmm
          clear hb hB ho ho2 hbl hslh hmm
          go_wp2_with fail
          refine HMM.out.mono ?_
          rintro e w4 ⟨hb4, b4, e4, rfl, hp⟩
          obtain ⟨rfl, rfl⟩ := longH_may HMP.out (by omega) (by omega) hp
          have HO4 := Lib.hid (OwH.below HO2.out hb4)
          have HT4 := Lib.hid (HBr.out.trans (hb4.mono HBr.out.size))
          have HS4 := Lib.hid (HSB.out.below hb4)
          have HL4 : Hid (∀ b, (Value.slice A5 (longV C (.slice A n c) N).length c5).ownBlock = some b → b < w4.heap.size) := fun b hb => (HO4.out.lt b hb).2
          have hpos : 0 < (longV C (.slice A n c) N).length := by rw [longV_len]; omega
          obtain ⟨g5, hA5⟩ : ∃ g5, A5 = some ⟨g5, 0, none⟩ := by
            rcases HO4.out.2 with ⟨e, e2⟩ | ⟨g', c', cur, e, _⟩
            · omega
            · injection e with e
              exact ⟨g', e⟩
          subst hA5
          have hrg0 : ∀ u, OwH (w.heap.size + 1) u (.slice (some ⟨g5, 0, none⟩) (longV C (.slice A n c) N).length c5) (longV C (.slice A n c) N) → u.rangeAt g5 (0 * 19) (ntL (begV (atN C 1) (.slice A n c))) := fun u hu => by
            obtain ⟨h2, e⟩ := longV_get (C := C) (u := .slice A n c) (k := N) (by omega)
            rw [← e]
            exact owh_range hu rfl h2
          have HR0 := Lib.hid hrg0
          have hpp : (0 : Int) < ((longV C (.slice A n c) N).length : Int) := by omega
          have HPOS := Lib.hid hpos
          have HLN : Hid ((longV C (.slice A n c) N).length ≤ 3000) := by show _ ≤ _; rw [longV_len]; omega
          clear hp hb4 hrg0
          go_wp2_with fail
          -- BEGIN R14
          have HW4 : Hid (Below w4.heap.size w4 w4) := Below.refl _ _
          have HBS : Hid (w.heap.size ≤ w4.heap.size) := HT4.out.size
          have HNQ : Hid (1 ≤ N) := by show _ ≤ _; omega
          refine PF.pf_begin (by kernel_rfl) ?_
          refine PF.pf_take0 1 (by kernel_rfl) rfl (fun _ _ _ _ _ h => h) (by kernel_rfl) (fun u => by go_simp; try rfl) ?_
          try simp only [Act.put, pz0, pz1, pz2]
          refine PF.pf_take0 3 (by kernel_rfl) rfl (fun _ _ _ _ _ h => h) (by kernel_rfl) (fun u => by go_simp; try rfl) ?_
          try simp only [Act.put, pz0, pz1, pz2]
          refine PF.pf_take0 4 (by kernel_rfl) rfl (fun _ _ _ _ _ h => h) (by kernel_rfl) (fun u => by go_simp; try rfl) ?_
          try simp only [Act.put, pz0, pz1, pz2]
          refine PF.pf_take1 5 ((fun u => u.rangeAt g5 (0 * 19) (ntL (begV (atN C 1) (.slice A n c))))) (by kernel_rfl) rfl (fun _ _ _ _ _ h => h) (by kernel_rfl) ((HR0.out _ HO4.out)) (fun u hu => by (exact exec_load_rg rfl rfl hu Tryz.underlying38 rfl (info_note19 rfl))) ?_
          try simp only [Act.put, pz0, pz1, pz2]
          refine PF.pf_fork [0, 6] (by kernel_rfl) rfl (PF.fork_cons ?_ (PF.fork_cons ?_ PF.fork_nil))
          -- number 0 first
          · refine PF.step_one rfl (by kernel_rfl) (fun K hK => ?_)
            refine wp_mk0 rfl ?_
            intro g0 w5 h0 hb
            have HG0 : Hid (w4.heap.size ≤ g0) := Nat.le_trans HW4.out.size (own_ge h0 g0 rfl)
            have hb := ((Below.refl w4.heap.size w4).drew).trans hb
            have HO4 := Lib.hid (OwH.below HO4.out hb)
            have HT4 := Lib.hid (HT4.out.trans (hb.mono HT4.out.size))
            have H0 : Hid (OwH w4.heap.size w5 (.slice (some ⟨g0, 0, none⟩) 0 0) []) := OwH.raise h0 HG0.out
            have HW4 := Lib.hid (HW4.out.trans (hb.mono HW4.out.size))
            clear h0 hb
            refine hK _ _ (by repeat (first | exact PF.owes_nil | refine PF.owes_left ?_ | refine PF.owes_no (by decide +kernel) ?_ | refine PF.owes_yes (by exact HR0.out _ HO4.out) ?_)) ?_
            clear hK K
            try simp only [Act.put, pz0, pz1, pz2]
            refine PF.pf_fork [2, 6] (by kernel_rfl) rfl (PF.fork_cons ?_ (PF.fork_cons ?_ PF.fork_nil))
            -- number 2 first
            · refine PF.step_one rfl (by kernel_rfl) (fun K hK => ?_)
              refine wp_appN (N := []) (M := (longV C (.slice A n c) N)) rfl H0.out rfl HO4.out rfl (longV_one (C := C) (u := .slice A n c) rfl N) (by have := HLN.out; simp only [List.length_nil]; omega) HW4.out.size ?_
              intro c2 A2 w22 h2 hg
              have HO4 : Hid (OwH (w.heap.size + 1) w22 (.slice (some ⟨g5, 0, none⟩) (longV C (.slice A n c) N).length c5) (longV C (.slice A n c) N)) := own_mod HO4.out (mod_grownO hg) fun b hb e => by have h1 := HL4.out b hb; have h2 := ownBlock_slice.1 e; have h3 := HG0.out; omega
              have HT4 := Lib.hid (HT4.out.grown hg HT4.out.size (fun b hb => by have h2 := ownBlock_slice.1 hb; have h3 := HG0.out; have := HBS.out; omega))
              have H2 := Lib.hid h2
              have HW4 := Lib.hid (HW4.out.grown hg HW4.out.size (fun b hb => by have h2 := ownBlock_slice.1 hb; have h3 := HG0.out; omega))
              clear h2 hg
              refine hK _ _ (by repeat (first | exact PF.owes_nil | refine PF.owes_left ?_ | refine PF.owes_no (by decide +kernel) ?_ | refine PF.owes_yes (by exact HR0.out _ HO4.out) ?_)) ?_
              clear hK K
              try simp only [Act.put, pz0, pz1, pz2]
              refine PF.pf_exec 6 (by kernel_rfl) rfl (by kernel_rfl) (fun K hK => ?_)
              refine wp_mk1 (x := (begV (atN C 1) (.slice A n c))) rfl rfl ?_
              intro g6 w6 h6 hb
              have H6 : Hid (OwH 0 w6 (.slice (some ⟨g6, 0, none⟩) 1 1) [(begV (atN C 1) (.slice A n c))]) := own_lowJ h6 (Nat.zero_le _)
              have HO4 := Lib.hid (OwH.below HO4.out hb)
              have HT4 := Lib.hid (HT4.out.trans (hb.mono HT4.out.size))
              have H2 := Lib.hid (OwH.below H2.out hb)
              have HW4 := Lib.hid (HW4.out.trans (hb.mono HW4.out.size))
              clear h6 hb
              refine hK _ _ (by repeat (first | exact PF.owes_nil | refine PF.owes_left ?_ | refine PF.owes_no (by decide +kernel) ?_ | refine PF.owes_yes (by exact HR0.out _ HO4.out) ?_)) ?_
              clear hK K
              try simp only [Act.put, pz0, pz1, pz2]
              refine PF.pf_exec 7 (by kernel_rfl) rfl (by kernel_rfl) (fun K hK => ?_)
              refine wp_appN (N := [] ++ (longV C (.slice A n c) N)) (M := [(begV (atN C 1) (.slice A n c))]) rfl H2.out rfl H6.out rfl (by intro y hy; rw [List.mem_singleton.1 hy]; exact ⟨rfl, rfl⟩) (by have := HLN.out; simp only [List.nil_append, List.length_cons, List.length_nil]; omega) HW4.out.size ?_
              intro c7 A7 w7 h7 hg
              obtain ⟨K7, hK7⟩ : ∃ K7, K7 = (([] ++ (longV C (.slice A n c) N)) ++ [(begV (atN C 1) (.slice A n c))]).length := ⟨_, rfl⟩
              rw [← hK7] at h7 ⊢
              clear hK7
              have HT7 := Lib.hid (HT4.out.grown hg HT4.out.size (fun b hb => by have := own_ge H2.out b hb; have := HBS.out; omega))
              have H7 := Lib.hid h7
              have HS7 : Hid (SlB (fun _ => True) w7 (.slice A n c) C.body) := HA.out.below HT7.out
              clear h7 hg
              refine hK _ _ (by repeat (first | exact PF.owes_nil | refine PF.owes_left ?_ | refine PF.owes_no (by decide +kernel) ?_ | refine PF.owes_yes (by exact HR0.out _ HO4.out) ?_)) ?_
              clear hK K
              try simp only [Act.put, pz0, pz1, pz2]
              refine PF.pf_exec 8 (by kernel_rfl) rfl (by kernel_rfl) (fun K hK => ?_)
              go_simp
              have hs7 := H7.out.slh (K := fun _ => True) (longV_more HS7.out N)
              rw [longV_map2] at hs7
              refine (jmay_any hs7 (by intro y hy; rcases List.mem_append.1 hy with hy | hy; exact HOKS.out y hy; rw [List.mem_singleton.1 hy]; exact HOKS.out _ (longH_first HNQ.out)) (by rw [List.length_append, longH_len]; simp only [List.length_cons, List.length_nil]; have := HNN.out; omega)).mono ?_
              rintro e w8 ⟨hb8, b8, e8, rfl, hp⟩
              obtain ⟨rfl, rfl⟩ := longH_bad HNQ.out hp
              have HT8 := Lib.hid (HT7.out.trans (hb8.mono HT7.out.size))
              clear hb8 hp hs7
              refine hK _ _ (by repeat (first | exact PF.owes_nil | refine PF.owes_left ?_ | refine PF.owes_no (by decide +kernel) ?_ | refine PF.owes_yes (by exact HR0.out _ HO4.out) ?_)) ?_
              clear hK K
              try simp only [Act.put, pz0, pz1, pz2]
              refine PF.pf_take0 9 (by kernel_rfl) rfl (fun _ _ _ _ _ h => h) (by kernel_rfl) (fun u => by go_simp; try rfl) ?_
              try simp only [Act.put, pz0, pz1, pz2]
              refine PF.pf_take0 10 (by kernel_rfl) rfl (fun _ _ _ _ _ h => h) (by kernel_rfl) (fun u => by go_simp; try rfl) ?_
              try simp only [Act.put, pz0, pz1, pz2]
              refine PF.pf_take0 11 (by kernel_rfl) rfl (fun _ _ _ _ _ h => h) (by kernel_rfl) (fun u => by go_simp; try rfl) ?_
              try simp only [Act.put, pz0, pz1, pz2]
              refine PF.pf_take0 12 (by kernel_rfl) rfl (fun _ _ _ _ _ h => h) (by kernel_rfl) (fun u => by go_simp; try rfl) ?_
              try simp only [Act.put, pz0, pz1, pz2]
              refine PF.pf_take0 13 (by kernel_rfl) rfl (fun _ _ _ _ _ h => h) (by kernel_rfl) (fun u => by go_simp; try rfl) ?_
              try simp only [Act.put, pz0, pz1, pz2]
              refine PF.pf_done (by kernel_rfl) ?_
              go_wp2_with fail
              refine (awake_any w8).mono ?_
              rintro e w9 ⟨rfl, hb9⟩
              have HT9 := Lib.hid (HT8.out.trans (hb9.mono HT8.out.size))
              clear hb9
              go_wp2_with fail
              go_ret
              exact ⟨rfl, HT9.out⟩
            -- number 6 first
            · refine PF.step_one rfl (by kernel_rfl) (fun K hK => ?_)
              refine wp_mk1 (x := (begV (atN C 1) (.slice A n c))) rfl rfl ?_
              intro g6 w6 h6 hb
              have H6 : Hid (OwH 0 w6 (.slice (some ⟨g6, 0, none⟩) 1 1) [(begV (atN C 1) (.slice A n c))]) := own_lowJ h6 (Nat.zero_le _)
              have HNE : Hid (g0 ≠ g6) := by show _ ≠ _; have h1 := own_ge h6 g6 rfl; have h2 := (H0.out.lt g0 rfl).2; omega
              have HO4 := Lib.hid (OwH.below HO4.out hb)
              have HT4 := Lib.hid (HT4.out.trans (hb.mono HT4.out.size))
              have H0 := Lib.hid (OwH.below H0.out hb)
              have HW4 := Lib.hid (HW4.out.trans (hb.mono HW4.out.size))
              clear h6 hb
              refine hK _ _ (by repeat (first | exact PF.owes_nil | refine PF.owes_left ?_ | refine PF.owes_no (by decide +kernel) ?_ | refine PF.owes_yes (by exact HR0.out _ HO4.out) ?_)) ?_
              clear hK K
              try simp only [Act.put, pz0, pz1, pz2]
              refine PF.pf_exec 2 (by kernel_rfl) rfl (by kernel_rfl) (fun K hK => ?_)
              refine wp_appN (N := []) (M := (longV C (.slice A n c) N)) rfl H0.out rfl HO4.out rfl (longV_one (C := C) (u := .slice A n c) rfl N) (by have := HLN.out; simp only [List.length_nil]; omega) HW4.out.size ?_
              intro c2 A2 w22 h2 hg
              have HO4 : Hid (OwH (w.heap.size + 1) w22 (.slice (some ⟨g5, 0, none⟩) (longV C (.slice A n c) N).length c5) (longV C (.slice A n c) N)) := own_mod HO4.out (mod_grownO hg) fun b hb e => by have h1 := HL4.out b hb; have h2 := ownBlock_slice.1 e; have h3 := HG0.out; omega
              have HT4 := Lib.hid (HT4.out.grown hg HT4.out.size (fun b hb => by have h2 := ownBlock_slice.1 hb; have h3 := HG0.out; have := HBS.out; omega))
              have H2 := Lib.hid h2
              have H6 : Hid (OwH 0 w22 (.slice (some ⟨g6, 0, none⟩) 1 1) [(begV (atN C 1) (.slice A n c))]) := own_mod H6.out (mod_grownO hg) fun b hb e => by have h1 := ownBlock_slice.1 hb; have h2 := ownBlock_slice.1 e; have := HNE.out; omega
              have HW4 := Lib.hid (HW4.out.grown hg HW4.out.size (fun b hb => by have h2 := ownBlock_slice.1 hb; have h3 := HG0.out; omega))
              clear h2 hg
              refine hK _ _ (by repeat (first | exact PF.owes_nil | refine PF.owes_left ?_ | refine PF.owes_no (by decide +kernel) ?_ | refine PF.owes_yes (by exact HR0.out _ HO4.out) ?_)) ?_
              clear hK K
              try simp only [Act.put, pz0, pz1, pz2]
              refine PF.pf_exec 7 (by kernel_rfl) rfl (by kernel_rfl) (fun K hK => ?_)
              refine wp_appN (N := [] ++ (longV C (.slice A n c) N)) (M := [(begV (atN C 1) (.slice A n c))]) rfl H2.out rfl H6.out rfl (by intro y hy; rw [List.mem_singleton.1 hy]; exact ⟨rfl, rfl⟩) (by have := HLN.out; simp only [List.nil_append, List.length_cons, List.length_nil]; omega) HW4.out.size ?_
              intro c7 A7 w7 h7 hg
              obtain ⟨K7, hK7⟩ : ∃ K7, K7 = (([] ++ (longV C (.slice A n c) N)) ++ [(begV (atN C 1) (.slice A n c))]).length := ⟨_, rfl⟩
              rw [← hK7] at h7 ⊢
              clear hK7
              have HT7 := Lib.hid (HT4.out.grown hg HT4.out.size (fun b hb => by have := own_ge H2.out b hb; have := HBS.out; omega))
              have H7 := Lib.hid h7
              have HS7 : Hid (SlB (fun _ => True) w7 (.slice A n c) C.body) := HA.out.below HT7.out
              clear h7 hg
              refine hK _ _ (by repeat (first | exact PF.owes_nil | refine PF.owes_left ?_ | refine PF.owes_no (by decide +kernel) ?_ | refine PF.owes_yes (by exact HR0.out _ HO4.out) ?_)) ?_
              clear hK K
              try simp only [Act.put, pz0, pz1, pz2]
              refine PF.pf_exec 8 (by kernel_rfl) rfl (by kernel_rfl) (fun K hK => ?_)
              go_simp
              have hs7 := H7.out.slh (K := fun _ => True) (longV_more HS7.out N)
              rw [longV_map2] at hs7
              refine (jmay_any hs7 (by intro y hy; rcases List.mem_append.1 hy with hy | hy; exact HOKS.out y hy; rw [List.mem_singleton.1 hy]; exact HOKS.out _ (longH_first HNQ.out)) (by rw [List.length_append, longH_len]; simp only [List.length_cons, List.length_nil]; have := HNN.out; omega)).mono ?_
              rintro e w8 ⟨hb8, b8, e8, rfl, hp⟩
              obtain ⟨rfl, rfl⟩ := longH_bad HNQ.out hp
              have HT8 := Lib.hid (HT7.out.trans (hb8.mono HT7.out.size))
              clear hb8 hp hs7
              refine hK _ _ (by repeat (first | exact PF.owes_nil | refine PF.owes_left ?_ | refine PF.owes_no (by decide +kernel) ?_ | refine PF.owes_yes (by exact HR0.out _ HO4.out) ?_)) ?_
              clear hK K
              try simp only [Act.put, pz0, pz1, pz2]
              refine PF.pf_take0 9 (by kernel_rfl) rfl (fun _ _ _ _ _ h => h) (by kernel_rfl) (fun u => by go_simp; try rfl) ?_
              try simp only [Act.put, pz0, pz1, pz2]
              refine PF.pf_take0 10 (by kernel_rfl) rfl (fun _ _ _ _ _ h => h) (by kernel_rfl) (fun u => by go_simp; try rfl) ?_
              try simp only [Act.put, pz0, pz1, pz2]
              refine PF.pf_take0 11 (by kernel_rfl) rfl (fun _ _ _ _ _ h => h) (by kernel_rfl) (fun u => by go_simp; try rfl) ?_
              try simp only [Act.put, pz0, pz1, pz2]
              refine PF.pf_take0 12 (by kernel_rfl) rfl (fun _ _ _ _ _ h => h) (by kernel_rfl) (fun u => by go_simp; try rfl) ?_
              try simp only [Act.put, pz0, pz1, pz2]
              refine PF.pf_take0 13 (by kernel_rfl) rfl (fun _ _ _ _ _ h => h) (by kernel_rfl) (fun u => by go_simp; try rfl) ?_
              try simp only [Act.put, pz0, pz1, pz2]
              refine PF.pf_done (by kernel_rfl) ?_
              go_wp2_with fail
              refine (awake_any w8).mono ?_
              rintro e w9 ⟨rfl, hb9⟩
              have HT9 := Lib.hid (HT8.out.trans (hb9.mono HT8.out.size))
              clear hb9
              go_wp2_with fail
              go_ret
              exact ⟨rfl, HT9.out⟩
          -- number 6 first
          · refine PF.step_one rfl (by kernel_rfl) (fun K hK => ?_)
            refine wp_mk1 (x := (begV (atN C 1) (.slice A n c))) rfl rfl ?_
            intro g6 w6 h6 hb
            have H6 : Hid (OwH 0 w6 (.slice (some ⟨g6, 0, none⟩) 1 1) [(begV (atN C 1) (.slice A n c))]) := own_lowJ h6 (Nat.zero_le _)
            have hb := ((Below.refl w4.heap.size w4).drew).trans hb
            have HO4 := Lib.hid (OwH.below HO4.out hb)
            have HT4 := Lib.hid (HT4.out.trans (hb.mono HT4.out.size))
            have HW4 := Lib.hid (HW4.out.trans (hb.mono HW4.out.size))
            clear h6 hb
            refine hK _ _ (by repeat (first | exact PF.owes_nil | refine PF.owes_left ?_ | refine PF.owes_no (by decide +kernel) ?_ | refine PF.owes_yes (by exact HR0.out _ HO4.out) ?_)) ?_
            clear hK K
            try simp only [Act.put, pz0, pz1, pz2]
            refine PF.pf_exec 0 (by kernel_rfl) rfl (by kernel_rfl) (fun K hK => ?_)
            refine wp_mk0 rfl ?_
            intro g0 w5 h0 hb
            have HG0 : Hid (w4.heap.size ≤ g0) := Nat.le_trans HW4.out.size (own_ge h0 g0 rfl)
            have HNE : Hid (g0 ≠ g6) := by show _ ≠ _; have h1 := own_ge h0 g0 rfl; have h2 := (H6.out.lt g6 rfl).2; omega
            have HO4 := Lib.hid (OwH.below HO4.out hb)
            have HT4 := Lib.hid (HT4.out.trans (hb.mono HT4.out.size))
            have H0 : Hid (OwH w4.heap.size w5 (.slice (some ⟨g0, 0, none⟩) 0 0) []) := OwH.raise h0 HG0.out
            have H6 := Lib.hid (OwH.below H6.out hb)
            have HW4 := Lib.hid (HW4.out.trans (hb.mono HW4.out.size))
            clear h0 hb
            refine hK _ _ (by repeat (first | exact PF.owes_nil | refine PF.owes_left ?_ | refine PF.owes_no (by decide +kernel) ?_ | refine PF.owes_yes (by exact HR0.out _ HO4.out) ?_)) ?_
            clear hK K
            try simp only [Act.put, pz0, pz1, pz2]
            refine PF.pf_exec 2 (by kernel_rfl) rfl (by kernel_rfl) (fun K hK => ?_)
            refine wp_appN (N := []) (M := (longV C (.slice A n c) N)) rfl H0.out rfl HO4.out rfl (longV_one (C := C) (u := .slice A n c) rfl N) (by have := HLN.out; simp only [List.length_nil]; omega) HW4.out.size ?_
            intro c2 A2 w22 h2 hg
            have HO4 : Hid (OwH (w.heap.size + 1) w22 (.slice (some ⟨g5, 0, none⟩) (longV C (.slice A n c) N).length c5) (longV C (.slice A n c) N)) := own_mod HO4.out (mod_grownO hg) fun b hb e => by have h1 := HL4.out b hb; have h2 := ownBlock_slice.1 e; have h3 := HG0.out; omega
            have HT4 := Lib.hid (HT4.out.grown hg HT4.out.size (fun b hb => by have h2 := ownBlock_slice.1 hb; have h3 := HG0.out; have := HBS.out; omega))
            have H2 := Lib.hid h2
            have H6 : Hid (OwH 0 w22 (.slice (some ⟨g6, 0, none⟩) 1 1) [(begV (atN C 1) (.slice A n c))]) := own_mod H6.out (mod_grownO hg) fun b hb e => by have h1 := ownBlock_slice.1 hb; have h2 := ownBlock_slice.1 e; have := HNE.out; omega
            have HW4 := Lib.hid (HW4.out.grown hg HW4.out.size (fun b hb => by have h2 := ownBlock_slice.1 hb; have h3 := HG0.out; omega))
            clear h2 hg
            refine hK _ _ (by repeat (first | exact PF.owes_nil | refine PF.owes_left ?_ | refine PF.owes_no (by decide +kernel) ?_ | refine PF.owes_yes (by exact HR0.out _ HO4.out) ?_)) ?_
            clear hK K
            try simp only [Act.put, pz0, pz1, pz2]
            refine PF.pf_exec 7 (by kernel_rfl) rfl (by kernel_rfl) (fun K hK => ?_)
            refine wp_appN (N := [] ++ (longV C (.slice A n c) N)) (M := [(begV (atN C 1) (.slice A n c))]) rfl H2.out rfl H6.out rfl (by intro y hy; rw [List.mem_singleton.1 hy]; exact ⟨rfl, rfl⟩) (by have := HLN.out; simp only [List.nil_append, List.length_cons, List.length_nil]; omega) HW4.out.size ?_
            intro c7 A7 w7 h7 hg
            obtain ⟨K7, hK7⟩ : ∃ K7, K7 = (([] ++ (longV C (.slice A n c) N)) ++ [(begV (atN C 1) (.slice A n c))]).length := ⟨_, rfl⟩
            rw [← hK7] at h7 ⊢
            clear hK7
            have HT7 := Lib.hid (HT4.out.grown hg HT4.out.size (fun b hb => by have := own_ge H2.out b hb; have := HBS.out; omega))
            have H7 := Lib.hid h7
            have HS7 : Hid (SlB (fun _ => True) w7 (.slice A n c) C.body) := HA.out.below HT7.out
            clear h7 hg
            refine hK _ _ (by repeat (first | exact PF.owes_nil | refine PF.owes_left ?_ | refine PF.owes_no (by decide +kernel) ?_ | refine PF.owes_yes (by exact HR0.out _ HO4.out) ?_)) ?_
            clear hK K
            try simp only [Act.put, pz0, pz1, pz2]
            refine PF.pf_exec 8 (by kernel_rfl) rfl (by kernel_rfl) (fun K hK => ?_)
            go_simp
            have hs7 := H7.out.slh (K := fun _ => True) (longV_more HS7.out N)
            rw [longV_map2] at hs7
            refine (jmay_any hs7 (by intro y hy; rcases List.mem_append.1 hy with hy | hy; exact HOKS.out y hy; rw [List.mem_singleton.1 hy]; exact HOKS.out _ (longH_first HNQ.out)) (by rw [List.length_append, longH_len]; simp only [List.length_cons, List.length_nil]; have := HNN.out; omega)).mono ?_
            rintro e w8 ⟨hb8, b8, e8, rfl, hp⟩
            obtain ⟨rfl, rfl⟩ := longH_bad HNQ.out hp
            have HT8 := Lib.hid (HT7.out.trans (hb8.mono HT7.out.size))
            clear hb8 hp hs7
            refine hK _ _ (by repeat (first | exact PF.owes_nil | refine PF.owes_left ?_ | refine PF.owes_no (by decide +kernel) ?_ | refine PF.owes_yes (by exact HR0.out _ HO4.out) ?_)) ?_
            clear hK K
            try simp only [Act.put, pz0, pz1, pz2]
            refine PF.pf_take0 9 (by kernel_rfl) rfl (fun _ _ _ _ _ h => h) (by kernel_rfl) (fun u => by go_simp; try rfl) ?_
            try simp only [Act.put, pz0, pz1, pz2]
            refine PF.pf_take0 10 (by kernel_rfl) rfl (fun _ _ _ _ _ h => h) (by kernel_rfl) (fun u => by go_simp; try rfl) ?_
            try simp only [Act.put, pz0, pz1, pz2]
            refine PF.pf_take0 11 (by kernel_rfl) rfl (fun _ _ _ _ _ h => h) (by kernel_rfl) (fun u => by go_simp; try rfl) ?_
            try simp only [Act.put, pz0, pz1, pz2]
            refine PF.pf_take0 12 (by kernel_rfl) rfl (fun _ _ _ _ _ h => h) (by kernel_rfl) (fun u => by go_simp; try rfl) ?_
            try simp only [Act.put, pz0, pz1, pz2]
            refine PF.pf_take0 13 (by kernel_rfl) rfl (fun _ _ _ _ _ h => h) (by kernel_rfl) (fun u => by go_simp; try rfl) ?_
            try simp only [Act.put, pz0, pz1, pz2]
            refine PF.pf_done (by kernel_rfl) ?_
            go_wp2_with fail
            refine (awake_any w8).mono ?_
            rintro e w9 ⟨rfl, hb9⟩
            have HT9 := Lib.hid (HT8.out.trans (hb9.mono HT8.out.size))
            clear hb9
            go_wp2_with fail
            go_ret
            exact ⟨rfl, HT9.out⟩
end JudgeLong
end Go.Proofs.YtpjmolnkmlpfeaaGreatDoor
