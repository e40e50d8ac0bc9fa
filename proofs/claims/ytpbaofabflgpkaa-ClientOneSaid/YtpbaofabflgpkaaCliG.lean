/- A client's calls: Tick. -/
import Derived.Test.YtpbaofabflgpkaaCliE
import Derived.Test.YtpbaofabflgpkaaCliF
namespace Go.Proofs.Ytpbaofabflgpkaa
set_option linter.unusedVariables false
set_option linter.unusedSimpArgs false
open Go.RowKit

theorem info_client17 {vs : List Value} (h : vs.length = 17) : (Try.prog.info? 29).map (·.size) = some vs.length := by rw [h]; kernel_rfl
theorem exec_build0 {P : Program} {u : World} {E : Operand → Value} {op : Oper} {ty : TypeId} {v : Value} (ho : op.op = .build ty #[]) (hb : (Instr.build ty #[]).run P u = .ok v u) : (execOp E op).run P u = .ok (.value v) u := by
  unfold execOp
  simp only [ho, Sem.run_bind, List.map_toArray, List.map_nil, hb, Result.andThen_ok, Sem.run_pure]
theorem exec_build4 {P : Program} {u : World} {E : Operand → Value} {op : Oper} {ty : TypeId} {i j k l : Nat} {p q r s : Operand} (ho : op.op = .build ty #[(i, p), (j, q), (k, r), (l, s)]) {x y z t v : Value} (hx : E p = x) (hy : E q = y) (hz : E r = z) (ht : E s = t) (hb : (Instr.build ty #[(i, x), (j, y), (k, z), (l, t)]).run P u = .ok v u) :
    (execOp E op).run P u = .ok (.value v) u := by
  unfold execOp
  simp only [ho, Sem.run_bind, List.map_toArray, List.map_cons, List.map_nil, hx, hy, hz, ht, hb, Result.andThen_ok, Sem.run_pure]
theorem build_tout (a : Int) (b c : Nat) (w : World) : (Instr.build 36 #[(0, .int .i64 a), (1, .int .u64 (b : Int)), (2, .int .u64 (c : Int)), (3, .int .i64 3)]).run Try.prog w = .ok (.agg (repL { zRep with cl := a, inc := b, n := c, res := 3 } (.slice none 0 0)).toArray) w := by kernel_rfl
theorem build_reply0 (w : World) : (Instr.build 36 #[]).run Try.prog w = .ok (.agg (repL zRep (.slice none 0 0)).toArray) w := by kernel_rfl
set_option maxRecDepth 100000 in
set_option maxHeartbeats 16000000 in
theorem tick_any {K : Nat → Prop} {w : World} {X : Cli} {vb vc : Value} {now : Nat} (hvb : SlI K w vb X.bs) (hvc : SlB K w vc X.call.body) (hg : Good X) (hn : X.call.body.length ≤ 1000000) (hnow : now < 18446744073709551616) :
    Calls Try.prog 12 #[.agg (cliL X vb vc).toArray, .int .u64 (now : Int)] w fun e w' => TurnPost (fun b => w.heap.size ≤ b) e w' (tickX X now) ∧ Below w.heap.size w w' := by
  have hB1 : Blk (w.alloc (.cells (cliL X vb vc).toArray 29)) w.heap.size 29 (cliL X vb vc).toArray := Blk.new _ _ _
  have hb1 := below_new w (.cells (cliL X vb vc).toArray 29)
  have HB1 := Lib.hid hB1
  have HT1 := Lib.hid hb1
  have HS1 : Hid ((w.alloc (.cells (cliL X vb vc).toArray 29)).heap.size = w.heap.size + 1) := alloc_size _ _
  have HVB0 := Lib.hid hvb
  have HVC0 := Lib.hid hvc
  have HG := Lib.hid hg
  have HN := Lib.hid hn
  clear hB1 hb1 hvb hvc hg hn
  go_enter Try.func12, Try.ntmps12
  go_wp2_with (refine wpList_alloc_blk rfl rfl zero_client ?_; rintro g1 w2 hg1 hB2 hb2; refine Hid.out ?_)
  refine Lib.hid ?_
  obtain rfl : g1 = w.heap.size + 1 := by rw [← hg1, HS1.out]
  have HS2 : Hid (w.heap.size + 2 ≤ w2.heap.size) := hB2.lt
  have HB2 := Lib.hid (HB1.out.below hb2 HB1.out.lt)
  have HT2 := Lib.hid (below_call HT1.out HT1.out.size hb2)
  have HR2 := Lib.hid hB2
  clear hB2 hb2 hg1 HB1 HT1
  go_wp2_with (refine wpList_alloc_blk rfl rfl zero_reply ?_; rintro g2 w3 hg2 hB3 hb3; refine Hid.out ?_)
  refine Lib.hid ?_
  have HR6 := Lib.hid hB3
  have HG2 : Hid (w.heap.size + 2 ≤ g2) := by show _ ≤ _; rw [← hg2]; exact HS2.out
  have HB3 := Lib.hid (HB2.out.below hb3 HB2.out.lt)
  have HT := Lib.hid (below_call HT2.out HT2.out.size hb3)
  have HR4 := Lib.hid (HR2.out.below hb3 HR2.out.lt)
  clear hB3 hb3 hg2 HB2 HT2 HR2
  go_wp2_with (refine wpList_load_blk rfl (ty := 29) rfl rfl HB3.out Try.underlying29 rfl (info_client rfl) ?_; refine Hid.out ?_)
  refine Lib.hid ?_
  go_wp2_with fail
  refine (with_any (HVB0.out.below HT.out) (HVC0.out.below HT.out) (by have := HG.out.2.1; omega) HN.out).mono ?_
  rintro e w4 ⟨⟨g, rfl, hwk⟩, hb4⟩
  have HBB : Hid (w.heap.size + 2 ≤ g2 ∧ g2 < w3.heap.size) := ⟨HG2.out, HR6.out.lt⟩
  have HR6 := Lib.hid (HR6.out.below hb4 HR6.out.lt)
  have HR4 := Lib.hid (HR4.out.below hb4 HR4.out.lt)
  have HT := Lib.hid (below_call HT.out HT.out.size hb4)
  have HWk := Lib.hid hwk
  generalize w3.heap.size = B at *
  have c4 : w4.cell? ⟨g, 4, none⟩ = some (.int .i64 X.busy) := by
    obtain ⟨_, _, _, _, hb, _⟩ := hwk
    exact (hb.cell 4).trans rfl
  have c15 : w4.cell? ⟨g, 15, none⟩ = some (.int .u64 (X.born : Int)) := by
    obtain ⟨_, _, _, _, hb, _⟩ := hwk
    exact (hb.cell 15).trans rfl
  have c16 : w4.cell? ⟨g, 16, none⟩ = some (.int .u64 (X.since : Int)) := by
    obtain ⟨_, _, _, _, hb, _⟩ := hwk
    exact (hb.cell 16).trans rfl
  have f4 : w4.frozen? ⟨g, 4, none⟩ = false := by
    obtain ⟨_, _, _, _, hb, _⟩ := hwk
    exact hb.free 4
  have HNOW := Lib.hid hnow
  clear hwk hb4 HB3 HS1 HS2 HG2 hnow
  by_cases hbz : X.busy = 1
  · have e0 : (X.busy != 1) = false := by simp [hbz]
    have e1 : decide (X.busy = 1) = true := decide_eq_true hbz
    have HBZ := Lib.hid hbz
    clear hbz
    obtain ⟨n1, hn1⟩ : ∃ n1, n1 = now - X.born := ⟨_, rfl⟩
    have HA1 : Hid (∀ S, Wk B w4 g X now S → Calls Try.prog 30 #[.pointer (some ⟨g, 0, none⟩), .int .u64 (X.born : Int)] w4 fun e w' => e = .returned (.int .u64 (n1 : Int)) ∧ w' = w4) := fun S h => by
      rw [hn1]
      exact after_any h HNOW.out
    obtain ⟨n2, hn2⟩ : ∃ n2, n2 = now - X.since := ⟨_, rfl⟩
    have HA2 : Hid (∀ S, Wk B w4 g X now S → Calls Try.prog 30 #[.pointer (some ⟨g, 0, none⟩), .int .u64 (X.since : Int)] w4 fun e w' => e = .returned (.int .u64 (n2 : Int)) ∧ w' = w4) := fun S h => by
      rw [hn2]
      exact after_any h HNOW.out
    have HTX : Hid (tickX X now = if 240 ≤ n1 then { cli := { X with busy := 0 }, sent := none, rep := some { zRep with cl := X.call.cl, inc := X.call.inc, n := X.call.n, res := 3 } } else if 3 ≤ n2 then (if 9 ≤ n1 then { cli := { nextX X with since := now }, sent := sentX (nextX X), rep := none } else { cli := { X with since := now }, sent := sentX X, rep := none }) else { cli := X, sent := none, rep := none }) := by
      show _ = _
      unfold tickX
      rw [if_neg (by rw [HBZ.out]; decide), hn1, hn2]
    clear hn1 hn2
    go_wp2_with fail
    refine (HA1.out _ HWk.out).mono ?_
    rintro e w5 ⟨rfl, h5⟩
    subst h5
    by_cases h240 : 240 ≤ n1
    · have d0 : decide ((240 : Int) ≤ (n1 : Int)) = true := decide_eq_true (by omega)
      have d1 : decide (240 ≤ n1) = true := decide_eq_true h240
      have HP := Lib.hid (HWk.out.put (i := 4) (u := .int .i64 0) (Y := { X with busy := 0 }) (fun vb vc sv => by simp only [wkL, cliL, List.cons_append, List.nil_append, pz0, pz1, pz2]) rfl rfl)
      have H240 := Lib.hid h240
      clear h240 HA1 HA2
      go_wp2_with fail
      clear c4 c15 c16 f4 d0 d1 e0 e1
      have HR4 : Hid (Blk (w5.setCell ⟨g, 4, none⟩ (.int .i64 0)) (w.heap.size + 1) 29 (cliL zCli (.slice none 0 0) (.slice none 0 0)).toArray) := HR4.out.mod HP.out.2 (by have := HWk.out.1; have := HBB.out; omega)
      have HR6 : Hid (Blk (w5.setCell ⟨g, 4, none⟩ (.int .i64 0)) g2 36 (repL zRep (.slice none 0 0)).toArray) := HR6.out.mod HP.out.2 (by have := HWk.out.1; have := HBB.out; omega)
      have HT : Hid (Below w.heap.size w (w5.setCell ⟨g, 4, none⟩ (.int .i64 0))) := HT.out.trans (HP.out.2.to_below HT.out.size fun b hb e => by have := HWk.out.1; have := HBB.out; omega)
      have HWk := Lib.hid HP.out.1
      clear HP
      generalize (w5.setCell ⟨g, 4, none⟩ (.int .i64 0)) = w6 at *
      obtain ⟨hBg, vb, vc, sv, hb, hvb, hvc, hsv⟩ := HWk.out
      have HB := Lib.hid hb
      have HVB := Lib.hid hvb
      have HVC := Lib.hid hvc
      have HSV := Lib.hid hsv
      have HBg := Lib.hid hBg
      have c18 : w6.cell? ⟨g, 18, none⟩ = some sv := (hb.cell 18).trans rfl
      have c5 : w6.cell? ⟨g, 5, none⟩ = some (.int .i64 X.call.cl) := (hb.cell 5).trans rfl
      have c6 : w6.cell? ⟨g, 6, none⟩ = some (.int .u64 (X.call.inc : Int)) := (hb.cell 6).trans rfl
      have c7 : w6.cell? ⟨g, 7, none⟩ = some (.int .u64 (X.call.n : Int)) := (hb.cell 7).trans rfl
      have HOB : Hid (vb.oneCell' = true ∧ vc.oneCell' = true) := ⟨hvb.one, hvc.one⟩
      have HGL := Lib.hid hb.lt
      clear hb hvb hvc hsv hBg
      refine PF.pf_begin (by kernel_rfl) ?_
      refine PF.pf_take0 0 (by kernel_rfl) rfl (fun _ _ _ _ _ h => h) (by kernel_rfl) (fun u => by go_simp; try rfl) ?_
      try simp only [Act.put, pz0, pz1, pz2]
      refine PF.pf_take0 1 (by kernel_rfl) rfl (fun _ _ _ _ _ h => h) (by kernel_rfl) (fun u => by go_simp; try rfl) ?_
      try simp only [Act.put, pz0, pz1, pz2]
      refine PF.pf_take0 2 (by kernel_rfl) rfl (fun _ _ _ _ _ h => h) (by kernel_rfl) (fun u => by go_simp; try rfl) ?_
      try simp only [Act.put, pz0, pz1, pz2]
      refine PF.pf_take1 3 (fun u => Blk u g 66 (wkL { X with busy := 0 } vb vc now sv).toArray) (by kernel_rfl) rfl (fun _ _ _ _ _ h => h) (by kernel_rfl) (HB.out) (fun u hu => by (exact exec_load_rg rfl rfl (show u.rangeAt g 0 (cliL { X with busy := 0 } vb vc) from hu.range 0 17) Try.underlying29 rfl (info_client17 rfl))) ?_
      try simp only [Act.put, pz0, pz1, pz2]
      refine PF.pf_take0 4 (by kernel_rfl) rfl (fun _ _ _ _ _ h => h) (by kernel_rfl) (fun u => by go_simp; try rfl) ?_
      try simp only [Act.put, pz0, pz1, pz2]
      refine PF.pf_take0 5 (by kernel_rfl) rfl (fun _ _ _ _ _ h => h) (by kernel_rfl) (fun u => by go_simp; try rfl) ?_
      try simp only [Act.put, pz0, pz1, pz2]
      refine PF.pf_take0 6 (by kernel_rfl) rfl (fun _ _ _ _ _ h => h) (by kernel_rfl) (fun u => by go_simp; try rfl) ?_
      try simp only [Act.put, pz0, pz1, pz2]
      refine PF.pf_take0 7 (by kernel_rfl) rfl (fun _ _ _ _ _ h => h) (by kernel_rfl) (fun u => by go_simp; try rfl) ?_
      try simp only [Act.put, pz0, pz1, pz2]
      refine PF.pf_take0 8 (by kernel_rfl) rfl (fun _ _ _ _ _ h => h) (by kernel_rfl) (fun u => by go_simp; try rfl) ?_
      try simp only [Act.put, pz0, pz1, pz2]
      refine PF.pf_take1 9 (PF.Same (g) _) (by kernel_rfl) rfl (fun _ _ _ _ _ h => h) (by kernel_rfl) (PF.Same.refl _ _) (fun u hu => by have hcu := hu.cell; go_simp; try rfl) ?_
      try simp only [Act.put, pz0, pz1, pz2]
      refine PF.pf_take0 10 (by kernel_rfl) rfl (fun _ _ _ _ _ h => h) (by kernel_rfl) (fun u => by go_simp; try rfl) ?_
      try simp only [Act.put, pz0, pz1, pz2]
      refine PF.pf_take0 11 (by kernel_rfl) rfl (fun _ _ _ _ _ h => h) (by kernel_rfl) (fun u => by go_simp; try rfl) ?_
      try simp only [Act.put, pz0, pz1, pz2]
      refine PF.pf_take0 12 (by kernel_rfl) rfl (fun _ _ _ _ _ h => h) (by kernel_rfl) (fun u => by go_simp; try rfl) ?_
      try simp only [Act.put, pz0, pz1, pz2]
      refine PF.pf_take0 13 (by kernel_rfl) rfl (fun _ _ _ _ _ h => h) (by kernel_rfl) (fun u => by go_simp; try rfl) ?_
      try simp only [Act.put, pz0, pz1, pz2]
      refine PF.pf_take0 14 (by kernel_rfl) rfl (fun _ _ _ _ _ h => h) (by kernel_rfl) (fun u => by go_simp; try rfl) ?_
      try simp only [Act.put, pz0, pz1, pz2]
      refine PF.pf_take1 15 (PF.Same (g) _) (by kernel_rfl) rfl (fun _ _ _ _ _ h => h) (by kernel_rfl) (PF.Same.refl _ _) (fun u hu => by have hcu := hu.cell; go_simp; try rfl) ?_
      try simp only [Act.put, pz0, pz1, pz2]
      refine PF.pf_take0 16 (by kernel_rfl) rfl (fun _ _ _ _ _ h => h) (by kernel_rfl) (fun u => by go_simp; try rfl) ?_
      try simp only [Act.put, pz0, pz1, pz2]
      refine PF.pf_take0 17 (by kernel_rfl) rfl (fun _ _ _ _ _ h => h) (by kernel_rfl) (fun u => by go_simp; try rfl) ?_
      try simp only [Act.put, pz0, pz1, pz2]
      refine PF.pf_take0 18 (by kernel_rfl) rfl (fun _ _ _ _ _ h => h) (by kernel_rfl) (fun u => by go_simp; try rfl) ?_
      try simp only [Act.put, pz0, pz1, pz2]
      refine PF.pf_take0 19 (by kernel_rfl) rfl (fun _ _ _ _ _ h => h) (by kernel_rfl) (fun u => by go_simp; try rfl) ?_
      try simp only [Act.put, pz0, pz1, pz2]
      refine PF.pf_take0 20 (by kernel_rfl) rfl (fun _ _ _ _ _ h => h) (by kernel_rfl) (fun u => by go_simp; try rfl) ?_
      try simp only [Act.put, pz0, pz1, pz2]
      refine PF.pf_take1 21 (PF.Same (g) _) (by kernel_rfl) rfl (fun _ _ _ _ _ h => h) (by kernel_rfl) (PF.Same.refl _ _) (fun u hu => by have hcu := hu.cell; go_simp; try rfl) ?_
      try simp only [Act.put, pz0, pz1, pz2]
      refine PF.pf_take0 22 (by kernel_rfl) rfl (fun _ _ _ _ _ h => h) (by kernel_rfl) (fun u => by exact exec_build4 (x := .int .i64 X.call.cl) (y := .int .u64 (X.call.inc : Int)) (z := .int .u64 (X.call.n : Int)) (t := .int .i64 3) (v := .agg (repL { zRep with cl := X.call.cl, inc := X.call.inc, n := X.call.n, res := 3 } (.slice none 0 0)).toArray) rfl rfl rfl rfl rfl (build_tout X.call.cl X.call.inc X.call.n _)) ?_
      try simp only [Act.put, pz0, pz1, pz2]
      refine PF.pf_exec 23 (by kernel_rfl) rfl (by kernel_rfl) (fun K hK => ?_)
      refine wp_store_blk rfl rfl rfl HR4.out rfl (info_client rfl) (cliL_one HOB.out.1 HOB.out.2) ?_
      rintro w91 hB91 hm91
      have hsg : w91.heap[g]? = w6.drew.heap[g]? := hm91.block g HGL.out (by have := HBg.out; have := HBB.out; omega)
      have HM91 := Lib.hid hm91
      have HB91 := Lib.hid hB91
      clear hB91 hm91
      refine hK _ _ (by repeat (first | exact PF.owes_nil | refine PF.owes_left ?_ | refine PF.owes_no (by decide +kernel) ?_ | refine PF.owes_yes (by exact hsg) ?_)) ?_
      clear hK K
      try simp only [Act.put, pz0, pz1, pz2]
      refine PF.pf_take0 24 (by kernel_rfl) rfl (fun _ _ _ _ _ h => h) (by kernel_rfl) (fun u => by go_simp; try rfl) ?_
      try simp only [Act.put, pz0, pz1, pz2]
      refine PF.pf_exec 25 (by kernel_rfl) rfl (by kernel_rfl) (fun K hK => ?_)
      refine wp_store_blk rfl rfl rfl (HR6.out.mod (((Mod.refl _ _).drew).trans HM91.out) (by have := HBB.out; omega)) rfl (info_reply rfl) (repL_one rfl) ?_
      rintro w92 hB92 hm92
      refine hK _ _ (by repeat (first | exact PF.owes_nil | refine PF.owes_left ?_ | refine PF.owes_no (by decide +kernel) ?_ | refine PF.owes_yes (by first | rfl | assumption | go_simp) ?_)) ?_
      clear hK K
      try simp only [Act.put, pz0, pz1, pz2]
      refine PF.pf_take0 26 (by kernel_rfl) rfl (fun _ _ _ _ _ h => h) (by kernel_rfl) (fun u => by go_simp; try rfl) ?_
      try simp only [Act.put, pz0, pz1, pz2]
      refine PF.pf_done (by kernel_rfl) ?_
      go_wp2_with fail
      have hB4 := HB91.out.mod hm92 (by have := HBB.out; omega)
      refine bodyPost_ret (results_ctct Try.results12 _ hB4 rfl Try.underlying29 rfl (info_client rfl) hB92 rfl Try.underlying36 rfl (info_reply rfl)) rfl ?_
      have h1 : Mod (fun b => b = w.heap.size + 1 ∨ b = g2) w6 w92 := (((Mod.refl _ _).drew).trans (HM91.out.mono fun b _ e => .inl e)).trans (hm92.mono fun b _ e => .inr e)
      have hbb := HBB.out
      have hbg := HBg.out
      have hk : ∀ b, (B ≤ b ∧ b ≠ g) → ¬ (b = w.heap.size + 1 ∨ b = g2) := fun b h e => by omega
      have hw : ∀ b, (B ≤ b ∧ b ≠ g) → w.heap.size ≤ b := fun b h => by omega
      obtain rfl : sv = .slice none 0 0 := HSV.out
      rw [HTX.out, if_pos H240.out]
      exact ⟨⟨vb, vc, _, _, rfl, (HVB.out.mod h1 hk).weak fun b _ h => hw b h, (HVC.out.mod h1 hk).weak fun b _ h => hw b h, (HSV.out.mod h1 hk).weak fun b _ h => hw b h, SlB.nil _ _⟩, HT.out.trans (h1.to_below HT.out.size fun b hb e => by omega)⟩
    · have d0 : decide ((240 : Int) ≤ (n1 : Int)) = false := decide_eq_false (by omega)
      have d1 : decide (240 ≤ n1) = false := decide_eq_false h240
      have H240 := Lib.hid h240
      clear h240
      go_wp2_with fail
      refine (HA2.out _ HWk.out).mono ?_
      rintro e w6 ⟨rfl, h6⟩
      subst h6
      clear d0 d1
      by_cases h3 : 3 ≤ n2
      · have d0 : decide ((3 : Int) ≤ (n2 : Int)) = true := decide_eq_true (by omega)
        have d1 : decide (3 ≤ n2) = true := decide_eq_true h3
        have H3 := Lib.hid h3
        clear h3
        go_wp2_with fail
        refine (HA1.out _ HWk.out).mono ?_
        rintro e w7 ⟨rfl, h7⟩
        subst h7
        clear d0 d1 HA1 HA2
        by_cases h9 : 9 ≤ n1
        · have d0 : decide ((9 : Int) ≤ (n1 : Int)) = true := decide_eq_true (by omega)
          have d1 : decide (9 ≤ n1) = true := decide_eq_true h9
          have H9 := Lib.hid h9
          clear h9
          go_wp2_with fail
          refine (next_any HWk.out HG.out).mono ?_
          rintro e w8 ⟨rfl, hwk8, hm8⟩
          have HR4 := Lib.hid (HR4.out.mod hm8 (by have := HWk.out.1; have := HBB.out; omega))
          have HR6 := Lib.hid (HR6.out.mod hm8 (by have := HWk.out.1; have := HBB.out; omega))
          have HT : Hid (Below w.heap.size w w8) := HT.out.trans (hm8.to_below HT.out.size fun b hb e => by have := HWk.out.1; have := HBB.out; omega)
          have HWk := Lib.hid hwk8
          clear hwk8 hm8 d0 d1 c4 c15 c16 f4 e0 e1
          go_wp2_with fail
          refine (ask_any HWk.out (nextX_good HG.out) HN.out).mono ?_
          rintro e w9 ⟨rfl, hwk9, hm9⟩
          have HR4 := Lib.hid (HR4.out.mod hm9 (by have := HWk.out.1; have := HBB.out; omega))
          have HR6 := Lib.hid (HR6.out.mod hm9 (by have := HWk.out.1; have := HBB.out; omega))
          have HT : Hid (Below w.heap.size w w9) := HT.out.trans (hm9.to_below HT.out.size fun b hb e => by have := HWk.out.1; have := HBB.out; omega)
          have HWk := Lib.hid hwk9
          clear hwk9 hm9
          go_wp2_with fail
          obtain ⟨hBg, vb, vc, sv, hb, hvb, hvc, hsv⟩ := HWk.out
          have HB := Lib.hid hb
          have HVB := Lib.hid hvb
          have HVC := Lib.hid hvc
          have HSV := Lib.hid hsv
          have HBg := Lib.hid hBg
          have c18 : w9.cell? ⟨g, 18, none⟩ = some sv := (hb.cell 18).trans rfl
          have c5 : w9.cell? ⟨g, 5, none⟩ = some (.int .i64 X.call.cl) := (hb.cell 5).trans rfl
          have c6 : w9.cell? ⟨g, 6, none⟩ = some (.int .u64 (X.call.inc : Int)) := (hb.cell 6).trans rfl
          have c7 : w9.cell? ⟨g, 7, none⟩ = some (.int .u64 (X.call.n : Int)) := (hb.cell 7).trans rfl
          have HOB : Hid (vb.oneCell' = true ∧ vc.oneCell' = true) := ⟨hvb.one, hvc.one⟩
          have HGL := Lib.hid hb.lt
          clear hb hvb hvc hsv hBg
          refine PF.pf_begin (by kernel_rfl) ?_
          refine PF.pf_take0 0 (by kernel_rfl) rfl (fun _ _ _ _ _ h => h) (by kernel_rfl) (fun u => by go_simp; try rfl) ?_
          try simp only [Act.put, pz0, pz1, pz2]
          refine PF.pf_take0 1 (by kernel_rfl) rfl (fun _ _ _ _ _ h => h) (by kernel_rfl) (fun u => by go_simp; try rfl) ?_
          try simp only [Act.put, pz0, pz1, pz2]
          refine PF.pf_take0 2 (by kernel_rfl) rfl (fun _ _ _ _ _ h => h) (by kernel_rfl) (fun u => by go_simp; try rfl) ?_
          try simp only [Act.put, pz0, pz1, pz2]
          refine PF.pf_take1 3 (fun u => Blk u g 66 (wkL { nextX X with since := now } vb vc now sv).toArray) (by kernel_rfl) rfl (fun _ _ _ _ _ h => h) (by kernel_rfl) (HB.out) (fun u hu => by (exact exec_load_rg rfl rfl (show u.rangeAt g 0 (cliL { nextX X with since := now } vb vc) from hu.range 0 17) Try.underlying29 rfl (info_client17 rfl))) ?_
          try simp only [Act.put, pz0, pz1, pz2]
          refine PF.pf_take0 4 (by kernel_rfl) rfl (fun _ _ _ _ _ h => h) (by kernel_rfl) (fun u => by go_simp; try rfl) ?_
          try simp only [Act.put, pz0, pz1, pz2]
          refine PF.pf_take0 5 (by kernel_rfl) rfl (fun _ _ _ _ _ h => h) (by kernel_rfl) (fun u => by go_simp; try rfl) ?_
          try simp only [Act.put, pz0, pz1, pz2]
          refine PF.pf_take0 6 (by kernel_rfl) rfl (fun _ _ _ _ _ h => h) (by kernel_rfl) (fun u => by go_simp; try rfl) ?_
          try simp only [Act.put, pz0, pz1, pz2]
          refine PF.pf_take1 7 (PF.Same (g) _) (by kernel_rfl) rfl (fun _ _ _ _ _ h => h) (by kernel_rfl) (PF.Same.refl _ _) (fun u hu => by have hcu := hu.cell; go_simp; try rfl) ?_
          try simp only [Act.put, pz0, pz1, pz2]
          refine PF.pf_take0 8 (by kernel_rfl) rfl (fun _ _ _ _ _ h => h) (by kernel_rfl) (fun u => by exact exec_build0 (v := .agg (repL zRep (.slice none 0 0)).toArray) rfl (build_reply0 _)) ?_
          try simp only [Act.put, pz0, pz1, pz2]
          refine PF.pf_exec 9 (by kernel_rfl) rfl (by kernel_rfl) (fun K hK => ?_)
          refine wp_store_blk rfl rfl rfl HR4.out rfl (info_client rfl) (cliL_one HOB.out.1 HOB.out.2) ?_
          rintro w91 hB91 hm91
          have hsg : w91.heap[g]? = w9.drew.heap[g]? := hm91.block g HGL.out (by have := HBg.out; have := HBB.out; omega)
          have HM91 := Lib.hid hm91
          have HB91 := Lib.hid hB91
          clear hB91 hm91
          refine hK _ _ (by repeat (first | exact PF.owes_nil | refine PF.owes_left ?_ | refine PF.owes_no (by decide +kernel) ?_ | refine PF.owes_yes (by exact hsg) ?_)) ?_
          clear hK K
          try simp only [Act.put, pz0, pz1, pz2]
          refine PF.pf_take0 10 (by kernel_rfl) rfl (fun _ _ _ _ _ h => h) (by kernel_rfl) (fun u => by go_simp; try rfl) ?_
          try simp only [Act.put, pz0, pz1, pz2]
          refine PF.pf_exec 11 (by kernel_rfl) rfl (by kernel_rfl) (fun K hK => ?_)
          refine wp_store_blk rfl rfl rfl (HR6.out.mod (((Mod.refl _ _).drew).trans HM91.out) (by have := HBB.out; omega)) rfl (info_reply rfl) (repL_one rfl) ?_
          rintro w92 hB92 hm92
          refine hK _ _ (by repeat (first | exact PF.owes_nil | refine PF.owes_left ?_ | refine PF.owes_no (by decide +kernel) ?_ | refine PF.owes_yes (by first | rfl | assumption | go_simp) ?_)) ?_
          clear hK K
          try simp only [Act.put, pz0, pz1, pz2]
          refine PF.pf_take0 12 (by kernel_rfl) rfl (fun _ _ _ _ _ h => h) (by kernel_rfl) (fun u => by go_simp; try rfl) ?_
          try simp only [Act.put, pz0, pz1, pz2]
          refine PF.pf_done (by kernel_rfl) ?_
          go_wp2_with fail
          have hB4 := HB91.out.mod hm92 (by have := HBB.out; omega)
          refine bodyPost_ret (results_ctct Try.results12 _ hB4 rfl Try.underlying29 rfl (info_client rfl) hB92 rfl Try.underlying36 rfl (info_reply rfl)) rfl ?_
          have h1 : Mod (fun b => b = w.heap.size + 1 ∨ b = g2) w9 w92 := (((Mod.refl _ _).drew).trans (HM91.out.mono fun b _ e => .inl e)).trans (hm92.mono fun b _ e => .inr e)
          have hbb := HBB.out
          have hbg := HBg.out
          have hk : ∀ b, (B ≤ b ∧ b ≠ g) → ¬ (b = w.heap.size + 1 ∨ b = g2) := fun b h e => by omega
          have hw : ∀ b, (B ≤ b ∧ b ≠ g) → w.heap.size ≤ b := fun b h => by omega
          rw [HTX.out, if_neg H240.out, if_pos H3.out, if_pos H9.out]
          exact ⟨⟨vb, vc, _, _, rfl, (HVB.out.mod h1 hk).weak fun b _ h => hw b h, (HVC.out.mod h1 hk).weak fun b _ h => hw b h, (HSV.out.mod h1 hk).weak fun b _ h => hw b h, SlB.nil _ _⟩, HT.out.trans (h1.to_below HT.out.size fun b hb e => by omega)⟩
        · have d0 : decide ((9 : Int) ≤ (n1 : Int)) = false := decide_eq_false (by omega)
          have d1 : decide (9 ≤ n1) = false := decide_eq_false h9
          have H9 := Lib.hid h9
          clear h9
          go_wp2_with fail
          clear d0 d1 c4 c15 c16 f4 e0 e1
          refine (ask_any HWk.out HG.out HN.out).mono ?_
          rintro e w9 ⟨rfl, hwk9, hm9⟩
          have HR4 := Lib.hid (HR4.out.mod hm9 (by have := HWk.out.1; have := HBB.out; omega))
          have HR6 := Lib.hid (HR6.out.mod hm9 (by have := HWk.out.1; have := HBB.out; omega))
          have HT : Hid (Below w.heap.size w w9) := HT.out.trans (hm9.to_below HT.out.size fun b hb e => by have := HWk.out.1; have := HBB.out; omega)
          have HWk := Lib.hid hwk9
          clear hwk9 hm9
          go_wp2_with fail
          obtain ⟨hBg, vb, vc, sv, hb, hvb, hvc, hsv⟩ := HWk.out
          have HB := Lib.hid hb
          have HVB := Lib.hid hvb
          have HVC := Lib.hid hvc
          have HSV := Lib.hid hsv
          have HBg := Lib.hid hBg
          have c18 : w9.cell? ⟨g, 18, none⟩ = some sv := (hb.cell 18).trans rfl
          have c5 : w9.cell? ⟨g, 5, none⟩ = some (.int .i64 X.call.cl) := (hb.cell 5).trans rfl
          have c6 : w9.cell? ⟨g, 6, none⟩ = some (.int .u64 (X.call.inc : Int)) := (hb.cell 6).trans rfl
          have c7 : w9.cell? ⟨g, 7, none⟩ = some (.int .u64 (X.call.n : Int)) := (hb.cell 7).trans rfl
          have HOB : Hid (vb.oneCell' = true ∧ vc.oneCell' = true) := ⟨hvb.one, hvc.one⟩
          have HGL := Lib.hid hb.lt
          clear hb hvb hvc hsv hBg
          refine PF.pf_begin (by kernel_rfl) ?_
          refine PF.pf_take0 0 (by kernel_rfl) rfl (fun _ _ _ _ _ h => h) (by kernel_rfl) (fun u => by go_simp; try rfl) ?_
          try simp only [Act.put, pz0, pz1, pz2]
          refine PF.pf_take0 1 (by kernel_rfl) rfl (fun _ _ _ _ _ h => h) (by kernel_rfl) (fun u => by go_simp; try rfl) ?_
          try simp only [Act.put, pz0, pz1, pz2]
          refine PF.pf_take0 2 (by kernel_rfl) rfl (fun _ _ _ _ _ h => h) (by kernel_rfl) (fun u => by go_simp; try rfl) ?_
          try simp only [Act.put, pz0, pz1, pz2]
          refine PF.pf_take1 3 (fun u => Blk u g 66 (wkL { X with since := now } vb vc now sv).toArray) (by kernel_rfl) rfl (fun _ _ _ _ _ h => h) (by kernel_rfl) (HB.out) (fun u hu => by (exact exec_load_rg rfl rfl (show u.rangeAt g 0 (cliL { X with since := now } vb vc) from hu.range 0 17) Try.underlying29 rfl (info_client17 rfl))) ?_
          try simp only [Act.put, pz0, pz1, pz2]
          refine PF.pf_take0 4 (by kernel_rfl) rfl (fun _ _ _ _ _ h => h) (by kernel_rfl) (fun u => by go_simp; try rfl) ?_
          try simp only [Act.put, pz0, pz1, pz2]
          refine PF.pf_take0 5 (by kernel_rfl) rfl (fun _ _ _ _ _ h => h) (by kernel_rfl) (fun u => by go_simp; try rfl) ?_
          try simp only [Act.put, pz0, pz1, pz2]
          refine PF.pf_take0 6 (by kernel_rfl) rfl (fun _ _ _ _ _ h => h) (by kernel_rfl) (fun u => by go_simp; try rfl) ?_
          try simp only [Act.put, pz0, pz1, pz2]
          refine PF.pf_take1 7 (PF.Same (g) _) (by kernel_rfl) rfl (fun _ _ _ _ _ h => h) (by kernel_rfl) (PF.Same.refl _ _) (fun u hu => by have hcu := hu.cell; go_simp; try rfl) ?_
          try simp only [Act.put, pz0, pz1, pz2]
          refine PF.pf_take0 8 (by kernel_rfl) rfl (fun _ _ _ _ _ h => h) (by kernel_rfl) (fun u => by exact exec_build0 (v := .agg (repL zRep (.slice none 0 0)).toArray) rfl (build_reply0 _)) ?_
          try simp only [Act.put, pz0, pz1, pz2]
          refine PF.pf_exec 9 (by kernel_rfl) rfl (by kernel_rfl) (fun K hK => ?_)
          refine wp_store_blk rfl rfl rfl HR4.out rfl (info_client rfl) (cliL_one HOB.out.1 HOB.out.2) ?_
          rintro w91 hB91 hm91
          have hsg : w91.heap[g]? = w9.drew.heap[g]? := hm91.block g HGL.out (by have := HBg.out; have := HBB.out; omega)
          have HM91 := Lib.hid hm91
          have HB91 := Lib.hid hB91
          clear hB91 hm91
          refine hK _ _ (by repeat (first | exact PF.owes_nil | refine PF.owes_left ?_ | refine PF.owes_no (by decide +kernel) ?_ | refine PF.owes_yes (by exact hsg) ?_)) ?_
          clear hK K
          try simp only [Act.put, pz0, pz1, pz2]
          refine PF.pf_take0 10 (by kernel_rfl) rfl (fun _ _ _ _ _ h => h) (by kernel_rfl) (fun u => by go_simp; try rfl) ?_
          try simp only [Act.put, pz0, pz1, pz2]
          refine PF.pf_exec 11 (by kernel_rfl) rfl (by kernel_rfl) (fun K hK => ?_)
          refine wp_store_blk rfl rfl rfl (HR6.out.mod (((Mod.refl _ _).drew).trans HM91.out) (by have := HBB.out; omega)) rfl (info_reply rfl) (repL_one rfl) ?_
          rintro w92 hB92 hm92
          refine hK _ _ (by repeat (first | exact PF.owes_nil | refine PF.owes_left ?_ | refine PF.owes_no (by decide +kernel) ?_ | refine PF.owes_yes (by first | rfl | assumption | go_simp) ?_)) ?_
          clear hK K
          try simp only [Act.put, pz0, pz1, pz2]
          refine PF.pf_take0 12 (by kernel_rfl) rfl (fun _ _ _ _ _ h => h) (by kernel_rfl) (fun u => by go_simp; try rfl) ?_
          try simp only [Act.put, pz0, pz1, pz2]
          refine PF.pf_done (by kernel_rfl) ?_
          go_wp2_with fail
          have hB4 := HB91.out.mod hm92 (by have := HBB.out; omega)
          refine bodyPost_ret (results_ctct Try.results12 _ hB4 rfl Try.underlying29 rfl (info_client rfl) hB92 rfl Try.underlying36 rfl (info_reply rfl)) rfl ?_
          have h1 : Mod (fun b => b = w.heap.size + 1 ∨ b = g2) w9 w92 := (((Mod.refl _ _).drew).trans (HM91.out.mono fun b _ e => .inl e)).trans (hm92.mono fun b _ e => .inr e)
          have hbb := HBB.out
          have hbg := HBg.out
          have hk : ∀ b, (B ≤ b ∧ b ≠ g) → ¬ (b = w.heap.size + 1 ∨ b = g2) := fun b h e => by omega
          have hw : ∀ b, (B ≤ b ∧ b ≠ g) → w.heap.size ≤ b := fun b h => by omega
          rw [HTX.out, if_neg H240.out, if_pos H3.out, if_neg H9.out]
          exact ⟨⟨vb, vc, _, _, rfl, (HVB.out.mod h1 hk).weak fun b _ h => hw b h, (HVC.out.mod h1 hk).weak fun b _ h => hw b h, (HSV.out.mod h1 hk).weak fun b _ h => hw b h, SlB.nil _ _⟩, HT.out.trans (h1.to_below HT.out.size fun b hb e => by omega)⟩
      · have d0 : decide ((3 : Int) ≤ (n2 : Int)) = false := decide_eq_false (by omega)
        have d1 : decide (3 ≤ n2) = false := decide_eq_false h3
        have H3 := Lib.hid h3
        clear h3 HA1 HA2
        go_wp2_with fail
        clear d0 d1 c4 c15 c16 f4 e0 e1
        obtain ⟨hBg, vb, vc, sv, hb, hvb, hvc, hsv⟩ := HWk.out
        have HB := Lib.hid hb
        have HVB := Lib.hid hvb
        have HVC := Lib.hid hvc
        have HSV := Lib.hid hsv
        have HBg := Lib.hid hBg
        have c18 : w6.cell? ⟨g, 18, none⟩ = some sv := (hb.cell 18).trans rfl
        have c5 : w6.cell? ⟨g, 5, none⟩ = some (.int .i64 X.call.cl) := (hb.cell 5).trans rfl
        have c6 : w6.cell? ⟨g, 6, none⟩ = some (.int .u64 (X.call.inc : Int)) := (hb.cell 6).trans rfl
        have c7 : w6.cell? ⟨g, 7, none⟩ = some (.int .u64 (X.call.n : Int)) := (hb.cell 7).trans rfl
        have HOB : Hid (vb.oneCell' = true ∧ vc.oneCell' = true) := ⟨hvb.one, hvc.one⟩
        have HGL := Lib.hid hb.lt
        clear hb hvb hvc hsv hBg
        refine PF.pf_begin (by kernel_rfl) ?_
        refine PF.pf_take0 0 (by kernel_rfl) rfl (fun _ _ _ _ _ h => h) (by kernel_rfl) (fun u => by go_simp; try rfl) ?_
        try simp only [Act.put, pz0, pz1, pz2]
        refine PF.pf_take0 1 (by kernel_rfl) rfl (fun _ _ _ _ _ h => h) (by kernel_rfl) (fun u => by go_simp; try rfl) ?_
        try simp only [Act.put, pz0, pz1, pz2]
        refine PF.pf_take0 2 (by kernel_rfl) rfl (fun _ _ _ _ _ h => h) (by kernel_rfl) (fun u => by go_simp; try rfl) ?_
        try simp only [Act.put, pz0, pz1, pz2]
        refine PF.pf_take1 3 (fun u => Blk u g 66 (wkL X vb vc now sv).toArray) (by kernel_rfl) rfl (fun _ _ _ _ _ h => h) (by kernel_rfl) (HB.out) (fun u hu => by (exact exec_load_rg rfl rfl (show u.rangeAt g 0 (cliL X vb vc) from hu.range 0 17) Try.underlying29 rfl (info_client17 rfl))) ?_
        try simp only [Act.put, pz0, pz1, pz2]
        refine PF.pf_take0 4 (by kernel_rfl) rfl (fun _ _ _ _ _ h => h) (by kernel_rfl) (fun u => by go_simp; try rfl) ?_
        try simp only [Act.put, pz0, pz1, pz2]
        refine PF.pf_take0 5 (by kernel_rfl) rfl (fun _ _ _ _ _ h => h) (by kernel_rfl) (fun u => by go_simp; try rfl) ?_
        try simp only [Act.put, pz0, pz1, pz2]
        refine PF.pf_take0 6 (by kernel_rfl) rfl (fun _ _ _ _ _ h => h) (by kernel_rfl) (fun u => by go_simp; try rfl) ?_
        try simp only [Act.put, pz0, pz1, pz2]
        refine PF.pf_take1 7 (PF.Same (g) _) (by kernel_rfl) rfl (fun _ _ _ _ _ h => h) (by kernel_rfl) (PF.Same.refl _ _) (fun u hu => by have hcu := hu.cell; go_simp; try rfl) ?_
        try simp only [Act.put, pz0, pz1, pz2]
        refine PF.pf_take0 8 (by kernel_rfl) rfl (fun _ _ _ _ _ h => h) (by kernel_rfl) (fun u => by exact exec_build0 (v := .agg (repL zRep (.slice none 0 0)).toArray) rfl (build_reply0 _)) ?_
        try simp only [Act.put, pz0, pz1, pz2]
        refine PF.pf_exec 9 (by kernel_rfl) rfl (by kernel_rfl) (fun K hK => ?_)
        refine wp_store_blk rfl rfl rfl HR4.out rfl (info_client rfl) (cliL_one HOB.out.1 HOB.out.2) ?_
        rintro w91 hB91 hm91
        have hsg : w91.heap[g]? = w6.drew.heap[g]? := hm91.block g HGL.out (by have := HBg.out; have := HBB.out; omega)
        have HM91 := Lib.hid hm91
        have HB91 := Lib.hid hB91
        clear hB91 hm91
        refine hK _ _ (by repeat (first | exact PF.owes_nil | refine PF.owes_left ?_ | refine PF.owes_no (by decide +kernel) ?_ | refine PF.owes_yes (by exact hsg) ?_)) ?_
        clear hK K
        try simp only [Act.put, pz0, pz1, pz2]
        refine PF.pf_take0 10 (by kernel_rfl) rfl (fun _ _ _ _ _ h => h) (by kernel_rfl) (fun u => by go_simp; try rfl) ?_
        try simp only [Act.put, pz0, pz1, pz2]
        refine PF.pf_exec 11 (by kernel_rfl) rfl (by kernel_rfl) (fun K hK => ?_)
        refine wp_store_blk rfl rfl rfl (HR6.out.mod (((Mod.refl _ _).drew).trans HM91.out) (by have := HBB.out; omega)) rfl (info_reply rfl) (repL_one rfl) ?_
        rintro w92 hB92 hm92
        refine hK _ _ (by repeat (first | exact PF.owes_nil | refine PF.owes_left ?_ | refine PF.owes_no (by decide +kernel) ?_ | refine PF.owes_yes (by first | rfl | assumption | go_simp) ?_)) ?_
        clear hK K
        try simp only [Act.put, pz0, pz1, pz2]
        refine PF.pf_take0 12 (by kernel_rfl) rfl (fun _ _ _ _ _ h => h) (by kernel_rfl) (fun u => by go_simp; try rfl) ?_
        try simp only [Act.put, pz0, pz1, pz2]
        refine PF.pf_done (by kernel_rfl) ?_
        go_wp2_with fail
        have hB4 := HB91.out.mod hm92 (by have := HBB.out; omega)
        refine bodyPost_ret (results_ctct Try.results12 _ hB4 rfl Try.underlying29 rfl (info_client rfl) hB92 rfl Try.underlying36 rfl (info_reply rfl)) rfl ?_
        have h1 : Mod (fun b => b = w.heap.size + 1 ∨ b = g2) w6 w92 := (((Mod.refl _ _).drew).trans (HM91.out.mono fun b _ e => .inl e)).trans (hm92.mono fun b _ e => .inr e)
        have hbb := HBB.out
        have hbg := HBg.out
        have hk : ∀ b, (B ≤ b ∧ b ≠ g) → ¬ (b = w.heap.size + 1 ∨ b = g2) := fun b h e => by omega
        have hw : ∀ b, (B ≤ b ∧ b ≠ g) → w.heap.size ≤ b := fun b h => by omega
        rw [HTX.out, if_neg H240.out, if_neg H3.out]
        exact ⟨⟨vb, vc, _, _, rfl, (HVB.out.mod h1 hk).weak fun b _ h => hw b h, (HVC.out.mod h1 hk).weak fun b _ h => hw b h, (HSV.out.mod h1 hk).weak fun b _ h => hw b h, SlB.nil _ _⟩, HT.out.trans (h1.to_below HT.out.size fun b hb e => by omega)⟩
  · have e0 : (X.busy != 1) = true := by simp [hbz]
    have e1 : decide (X.busy = 1) = false := decide_eq_false hbz
    have HTX : Hid (tickX X now = { cli := X, sent := none, rep := none }) := by
      show _ = _
      unfold tickX
      rw [if_pos hbz]
    clear hbz
    go_wp2_with fail
    clear c4 c15 c16 f4 e0 e1
    obtain ⟨hBg, vb, vc, sv, hb, hvb, hvc, hsv⟩ := HWk.out
    have HB := Lib.hid hb
    have HVB := Lib.hid hvb
    have HVC := Lib.hid hvc
    have HSV := Lib.hid hsv
    have HBg := Lib.hid hBg
    have c18 : w4.cell? ⟨g, 18, none⟩ = some sv := (hb.cell 18).trans rfl
    have c5 : w4.cell? ⟨g, 5, none⟩ = some (.int .i64 X.call.cl) := (hb.cell 5).trans rfl
    have c6 : w4.cell? ⟨g, 6, none⟩ = some (.int .u64 (X.call.inc : Int)) := (hb.cell 6).trans rfl
    have c7 : w4.cell? ⟨g, 7, none⟩ = some (.int .u64 (X.call.n : Int)) := (hb.cell 7).trans rfl
    have HOB : Hid (vb.oneCell' = true ∧ vc.oneCell' = true) := ⟨hvb.one, hvc.one⟩
    have HGL := Lib.hid hb.lt
    clear hb hvb hvc hsv hBg
    refine PF.pf_begin (by kernel_rfl) ?_
    refine PF.pf_take0 0 (by kernel_rfl) rfl (fun _ _ _ _ _ h => h) (by kernel_rfl) (fun u => by go_simp; try rfl) ?_
    try simp only [Act.put, pz0, pz1, pz2]
    refine PF.pf_take0 1 (by kernel_rfl) rfl (fun _ _ _ _ _ h => h) (by kernel_rfl) (fun u => by go_simp; try rfl) ?_
    try simp only [Act.put, pz0, pz1, pz2]
    refine PF.pf_take0 2 (by kernel_rfl) rfl (fun _ _ _ _ _ h => h) (by kernel_rfl) (fun u => by go_simp; try rfl) ?_
    try simp only [Act.put, pz0, pz1, pz2]
    refine PF.pf_take1 3 (fun u => Blk u g 66 (wkL X vb vc now sv).toArray) (by kernel_rfl) rfl (fun _ _ _ _ _ h => h) (by kernel_rfl) (HB.out) (fun u hu => by (exact exec_load_rg rfl rfl (show u.rangeAt g 0 (cliL X vb vc) from hu.range 0 17) Try.underlying29 rfl (info_client17 rfl))) ?_
    try simp only [Act.put, pz0, pz1, pz2]
    refine PF.pf_take0 4 (by kernel_rfl) rfl (fun _ _ _ _ _ h => h) (by kernel_rfl) (fun u => by go_simp; try rfl) ?_
    try simp only [Act.put, pz0, pz1, pz2]
    refine PF.pf_take0 5 (by kernel_rfl) rfl (fun _ _ _ _ _ h => h) (by kernel_rfl) (fun u => by go_simp; try rfl) ?_
    try simp only [Act.put, pz0, pz1, pz2]
    refine PF.pf_take0 6 (by kernel_rfl) rfl (fun _ _ _ _ _ h => h) (by kernel_rfl) (fun u => by go_simp; try rfl) ?_
    try simp only [Act.put, pz0, pz1, pz2]
    refine PF.pf_take1 7 (PF.Same (g) _) (by kernel_rfl) rfl (fun _ _ _ _ _ h => h) (by kernel_rfl) (PF.Same.refl _ _) (fun u hu => by have hcu := hu.cell; go_simp; try rfl) ?_
    try simp only [Act.put, pz0, pz1, pz2]
    refine PF.pf_take0 8 (by kernel_rfl) rfl (fun _ _ _ _ _ h => h) (by kernel_rfl) (fun u => by exact exec_build0 (v := .agg (repL zRep (.slice none 0 0)).toArray) rfl (build_reply0 _)) ?_
    try simp only [Act.put, pz0, pz1, pz2]
    refine PF.pf_exec 9 (by kernel_rfl) rfl (by kernel_rfl) (fun K hK => ?_)
    refine wp_store_blk rfl rfl rfl HR4.out rfl (info_client rfl) (cliL_one HOB.out.1 HOB.out.2) ?_
    rintro w91 hB91 hm91
    have hsg : w91.heap[g]? = w4.drew.heap[g]? := hm91.block g HGL.out (by have := HBg.out; have := HBB.out; omega)
    have HM91 := Lib.hid hm91
    have HB91 := Lib.hid hB91
    clear hB91 hm91
    refine hK _ _ (by repeat (first | exact PF.owes_nil | refine PF.owes_left ?_ | refine PF.owes_no (by decide +kernel) ?_ | refine PF.owes_yes (by exact hsg) ?_)) ?_
    clear hK K
    try simp only [Act.put, pz0, pz1, pz2]
    refine PF.pf_take0 10 (by kernel_rfl) rfl (fun _ _ _ _ _ h => h) (by kernel_rfl) (fun u => by go_simp; try rfl) ?_
    try simp only [Act.put, pz0, pz1, pz2]
    refine PF.pf_exec 11 (by kernel_rfl) rfl (by kernel_rfl) (fun K hK => ?_)
    refine wp_store_blk rfl rfl rfl (HR6.out.mod (((Mod.refl _ _).drew).trans HM91.out) (by have := HBB.out; omega)) rfl (info_reply rfl) (repL_one rfl) ?_
    rintro w92 hB92 hm92
    refine hK _ _ (by repeat (first | exact PF.owes_nil | refine PF.owes_left ?_ | refine PF.owes_no (by decide +kernel) ?_ | refine PF.owes_yes (by first | rfl | assumption | go_simp) ?_)) ?_
    clear hK K
    try simp only [Act.put, pz0, pz1, pz2]
    refine PF.pf_take0 12 (by kernel_rfl) rfl (fun _ _ _ _ _ h => h) (by kernel_rfl) (fun u => by go_simp; try rfl) ?_
    try simp only [Act.put, pz0, pz1, pz2]
    refine PF.pf_done (by kernel_rfl) ?_
    go_wp2_with fail
    have hB4 := HB91.out.mod hm92 (by have := HBB.out; omega)
    refine bodyPost_ret (results_ctct Try.results12 _ hB4 rfl Try.underlying29 rfl (info_client rfl) hB92 rfl Try.underlying36 rfl (info_reply rfl)) rfl ?_
    have h1 : Mod (fun b => b = w.heap.size + 1 ∨ b = g2) w4 w92 := (((Mod.refl _ _).drew).trans (HM91.out.mono fun b _ e => .inl e)).trans (hm92.mono fun b _ e => .inr e)
    have hbb := HBB.out
    have hbg := HBg.out
    have hk : ∀ b, (B ≤ b ∧ b ≠ g) → ¬ (b = w.heap.size + 1 ∨ b = g2) := fun b h e => by omega
    have hw : ∀ b, (B ≤ b ∧ b ≠ g) → w.heap.size ≤ b := fun b h => by omega
    rw [HTX.out]
    exact ⟨⟨vb, vc, _, _, rfl, (HVB.out.mod h1 hk).weak fun b _ h => hw b h, (HVC.out.mod h1 hk).weak fun b _ h => hw b h, (HSV.out.mod h1 hk).weak fun b _ h => hw b h, SlB.nil _ _⟩, HT.out.trans (h1.to_below HT.out.size fun b hb e => by omega)⟩
end Go.Proofs.Ytpbaofabflgpkaa
