/- A client's calls: Take. -/
import Derived.Test.YtpbaofabflgpkaaCliG
import Derived.Test.YtpbaofabflgpkaaCliH
namespace Go.Proofs.Ytpbaofabflgpkaa
set_option linter.unusedVariables false
set_option linter.unusedSimpArgs false
open Go.RowKit

theorem wpList_build0 {P : Program} {ops : Array Oper} {rest : List Oper} {op : Oper} {a : Act} {w : World} {Q : Exit → Act → World → Prop} (hgd : op.guard = none) {ty : TypeId} {v : Value} (ho : op.op = .build ty #[])
    (hb : (Instr.build ty #[]).run P w = .ok v w) (h : wpList P ops Q rest (a.put op.dst v) w) : wpList P ops Q (op :: rest) a w :=
  wpList_plain hgd fun _ hK => by
    unfold Oper.wp execOp
    simp only [ho, Sem.run_bind, List.map_toArray, List.map_nil, hb, Result.andThen_ok, Sem.run_pure]
    exact hK _ _ h
theorem Wk.below {B : Nat} {w w' : World} {g : Nat} {X : Cli} {now : Nat} {S : Option (Int × Cal)} (h : Wk B w g X now S) (hb : Below w.heap.size w w') : Wk B w' g X now S := by
  obtain ⟨h1, vb, vc, sv, h2, h3, h4, h5⟩ := h
  exact ⟨h1, vb, vc, sv, h2.below hb h2.lt, h3.below hb, h4.below hb, h5.below hb⟩
set_option maxRecDepth 100000 in
set_option maxHeartbeats 16000000 in
theorem take_no {K K2 : Nat → Prop} {w : World} {X : Cli} {vb vc : Value} {now : Nat} {R : Rep} {vr : Value} (hvb : SlI K w vb X.bs) (hvc : SlB K w vc X.call.body) (hvr : SlB K2 w vr R.body) (hg : Good X) (hn : X.call.body.length ≤ 1000000) (hnr : R.body.length ≤ 1000000) (hm : ¬ mineX X R) :
    Calls Try.prog 10 #[.agg (cliL X vb vc).toArray, .int .u64 (now : Int), .agg (repL R vr).toArray] w fun e w' => TurnPost (fun b => w.heap.size ≤ b) e w' (takeX X now R) ∧ Below w.heap.size w w' := by
  have hB0 : Blk ((w.alloc (.cells (cliL X vb vc).toArray 29)).alloc (.cells (repL R vr).toArray 36)) w.heap.size 29 (cliL X vb vc).toArray := (Blk.new _ _ _).alloc _
  have hB1 : Blk ((w.alloc (.cells (cliL X vb vc).toArray 29)).alloc (.cells (repL R vr).toArray 36)) (w.heap.size + 1) 36 (repL R vr).toArray := by simpa using Blk.new (w.alloc (.cells (cliL X vb vc).toArray 29)) 36 (repL R vr).toArray
  have hb1 : Below w.heap.size w ((w.alloc (.cells (cliL X vb vc).toArray 29)).alloc (.cells (repL R vr).toArray 36)) := (below_new w _).alloc (by simp) _
  have HB1 := Lib.hid hB0
  have HRR := Lib.hid hB1
  have HT1 := Lib.hid hb1
  have HS1 : Hid (((w.alloc (.cells (cliL X vb vc).toArray 29)).alloc (.cells (repL R vr).toArray 36)).heap.size = w.heap.size + 2) := by show _ = _; simp
  have HVB0 := Lib.hid hvb
  have HVC0 := Lib.hid hvc
  have HVR := Lib.hid hvr
  have HG := Lib.hid hg
  have HN : Hid (X.call.body.length ≤ 1000000 ∧ R.body.length ≤ 1000000) := ⟨hn, hnr⟩
  clear hB0 hB1 hb1 hvb hvc hvr hg hn hnr
  go_enter Try.func10, Try.ntmps10
  go_wp2_with (refine wpList_alloc_blk rfl rfl zero_client ?_; rintro g1 w2 hg1 hB2 hb2; refine Hid.out ?_)
  refine Lib.hid ?_
  have HG1 : Hid (w.heap.size + 2 ≤ g1) := by show _ ≤ _; rw [← hg1, HS1.out]; exact Nat.le_refl _
  have HB2 := Lib.hid (HB1.out.below hb2 HB1.out.lt)
  have HRR := Lib.hid (HRR.out.below hb2 HRR.out.lt)
  have HT2 := Lib.hid (below_call HT1.out HT1.out.size hb2)
  have HR2 := Lib.hid hB2
  clear hB2 hb2 hg1 HB1 HT1 HS1
  go_wp2_with (refine wpList_alloc_blk rfl rfl zero_reply ?_; rintro g2 w3 hg2 hB3 hb3; refine Hid.out ?_)
  refine Lib.hid ?_
  have HR6 := Lib.hid hB3
  have HG2 : Hid (g1 < g2) := by show _ < _; rw [← hg2]; exact HR2.out.lt
  have HB3 := Lib.hid (HB2.out.below hb3 HB2.out.lt)
  have HRR := Lib.hid (HRR.out.below hb3 HRR.out.lt)
  have HT := Lib.hid (below_call HT2.out HT2.out.size hb3)
  have HR4 := Lib.hid (HR2.out.below hb3 HR2.out.lt)
  clear hB3 hb3 hg2 HB2 HT2 HR2
  go_wp2_with (refine wpList_load_blk rfl (ty := 29) rfl rfl HB3.out Try.underlying29 rfl (info_client rfl) ?_; refine Hid.out ?_)
  refine Lib.hid ?_
  go_wp2_with fail
  refine (with_any (HVB0.out.below HT.out) (HVC0.out.below HT.out) (by have := HG.out.2.1; omega) HN.out.1).mono ?_
  rintro e w4 ⟨⟨g, rfl, hwk⟩, hb4⟩
  have HBB : Hid (w.heap.size + 2 ≤ g1 ∧ g1 < g2 ∧ g2 < w3.heap.size) := ⟨HG1.out, HG2.out, HR6.out.lt⟩
  have HR6 := Lib.hid (HR6.out.below hb4 HR6.out.lt)
  have HR4 := Lib.hid (HR4.out.below hb4 HR4.out.lt)
  have HRR := Lib.hid (HRR.out.below hb4 HRR.out.lt)
  have HT := Lib.hid (below_call HT.out HT.out.size hb4)
  have HWk := Lib.hid hwk
  generalize w3.heap.size = B at *
  clear hwk hb4 HB3 HG1 HG2
  go_wp2_with (refine wpList_load_blk rfl (ty := 36) rfl rfl HRR.out Try.underlying36 rfl (info_reply rfl) ?_; refine Hid.out ?_)
  refine Lib.hid ?_
  go_wp2_with fail
  refine (mine_any HWk.out).mono ?_
  rintro e w5 ⟨rfl, hb5⟩
  have HR6 := Lib.hid (HR6.out.below hb5 HR6.out.lt)
  have HR4 := Lib.hid (HR4.out.below hb5 HR4.out.lt)
  have HRR := Lib.hid (HRR.out.below hb5 HRR.out.lt)
  have HT := Lib.hid (below_call HT.out HT.out.size hb5)
  have HWk := Lib.hid (HWk.out.below hb5)
  clear hb5
  rw [decide_eq_false hm]
  have HTX := Lib.hid (take_stale (now := now) hm)
  clear hm
  obtain ⟨hBg, vb, vc, sv, hb, hvb, hvc, hsv⟩ := HWk.out
  have HB := Lib.hid hb
  have HVB := Lib.hid hvb
  have HVC := Lib.hid hvc
  have HBg := Lib.hid hBg
  have HOB : Hid (vb.oneCell' = true ∧ vc.oneCell' = true) := ⟨hvb.one, hvc.one⟩
  have HRG : Hid (w5.rangeAt g 0 (cliL X vb vc)) := hb.range 0 17
  clear hb hvb hvc hsv hBg
  go_wp2_with (refine wpList_load_rg rfl (ty := 29) rfl rfl HRG.out Try.underlying29 rfl (info_client17 rfl) ?_; refine Hid.out ?_)
  refine Lib.hid ?_
  go_wp2_with (refine wpList_build0 (v := .agg (repL zRep (.slice none 0 0)).toArray) rfl rfl (build_reply0 _) ?_; refine Hid.out ?_)
  refine Lib.hid ?_
  go_wp2_with (refine wpList_store_blk rfl rfl rfl rfl HR4.out rfl (info_client rfl) (cliL_one HOB.out.1 HOB.out.2) ?_; rintro w91 hB91 hm91; refine Hid.out ?_)
  refine Lib.hid ?_
  go_wp2_with (refine wpList_store_blk rfl rfl rfl rfl (HR6.out.mod hm91 (by have := HBB.out; omega)) rfl (info_reply rfl) (repL_one rfl) ?_; rintro w92 hB92 hm92; refine Hid.out ?_)
  refine Lib.hid ?_
  go_wp2_with fail
  have hB4 := hB91.mod hm92 (by have := HBB.out; omega)
  refine bodyPost_ret (results_ctct Try.results10 _ hB4 rfl Try.underlying29 rfl (info_client rfl) hB92 rfl Try.underlying36 rfl (info_reply rfl)) rfl ?_
  have h1 : Mod (fun b => b = g1 ∨ b = g2) w5 w92 := (hm91.mono fun b _ e => .inl e).trans (hm92.mono fun b _ e => .inr e)
  have hbb := HBB.out
  have hbg := HBg.out
  have hk : ∀ b, (B ≤ b ∧ b ≠ g) → ¬ (b = g1 ∨ b = g2) := fun b h e => by omega
  have hw : ∀ b, (B ≤ b ∧ b ≠ g) → w.heap.size ≤ b := fun b h => by omega
  rw [HTX.out]
  exact ⟨⟨vb, vc, _, _, rfl, (HVB.out.mod h1 hk).weak fun b _ h => hw b h, (HVC.out.mod h1 hk).weak fun b _ h => hw b h, rfl, SlB.nil _ _⟩, HT.out.trans (h1.to_below HT.out.size fun b hb e => by omega)⟩
set_option maxRecDepth 100000 in
set_option maxHeartbeats 16000000 in
theorem take_to1 {K K2 : Nat → Prop} {w : World} {X : Cli} {vb vc : Value} {now : Nat} {R : Rep} {vr : Value} (hvb : SlI K w vb X.bs) (hvc : SlB K w vc X.call.body) (hvr : SlB K2 w vr R.body) (hg : Good X) (hn : X.call.body.length ≤ 1000000) (hnr : R.body.length ≤ 1000000) (hm : mineX X R) (hr : R.res = 1) {k : Nat} (hk : X.bs.findIdx? (fun b => decide (b = R.own)) = some k) (hka : k ≠ X.at_) :
    Calls Try.prog 10 #[.agg (cliL X vb vc).toArray, .int .u64 (now : Int), .agg (repL R vr).toArray] w fun e w' => TurnPost (fun b => w.heap.size ≤ b) e w' (takeX X now R) ∧ Below w.heap.size w w' := by
  have hB0 : Blk ((w.alloc (.cells (cliL X vb vc).toArray 29)).alloc (.cells (repL R vr).toArray 36)) w.heap.size 29 (cliL X vb vc).toArray := (Blk.new _ _ _).alloc _
  have hB1 : Blk ((w.alloc (.cells (cliL X vb vc).toArray 29)).alloc (.cells (repL R vr).toArray 36)) (w.heap.size + 1) 36 (repL R vr).toArray := by simpa using Blk.new (w.alloc (.cells (cliL X vb vc).toArray 29)) 36 (repL R vr).toArray
  have hb1 : Below w.heap.size w ((w.alloc (.cells (cliL X vb vc).toArray 29)).alloc (.cells (repL R vr).toArray 36)) := (below_new w _).alloc (by simp) _
  have HB1 := Lib.hid hB0
  have HRR := Lib.hid hB1
  have HT1 := Lib.hid hb1
  have HS1 : Hid (((w.alloc (.cells (cliL X vb vc).toArray 29)).alloc (.cells (repL R vr).toArray 36)).heap.size = w.heap.size + 2) := by show _ = _; simp
  have HVB0 := Lib.hid hvb
  have HVC0 := Lib.hid hvc
  have HVR := Lib.hid hvr
  have HG := Lib.hid hg
  have HN : Hid (X.call.body.length ≤ 1000000 ∧ R.body.length ≤ 1000000) := ⟨hn, hnr⟩
  clear hB0 hB1 hb1 hvb hvc hvr hg hn hnr
  go_enter Try.func10, Try.ntmps10
  go_wp2_with (refine wpList_alloc_blk rfl rfl zero_client ?_; rintro g1 w2 hg1 hB2 hb2; refine Hid.out ?_)
  refine Lib.hid ?_
  have HG1 : Hid (w.heap.size + 2 ≤ g1) := by show _ ≤ _; rw [← hg1, HS1.out]; exact Nat.le_refl _
  have HB2 := Lib.hid (HB1.out.below hb2 HB1.out.lt)
  have HRR := Lib.hid (HRR.out.below hb2 HRR.out.lt)
  have HT2 := Lib.hid (below_call HT1.out HT1.out.size hb2)
  have HR2 := Lib.hid hB2
  clear hB2 hb2 hg1 HB1 HT1 HS1
  go_wp2_with (refine wpList_alloc_blk rfl rfl zero_reply ?_; rintro g2 w3 hg2 hB3 hb3; refine Hid.out ?_)
  refine Lib.hid ?_
  have HR6 := Lib.hid hB3
  have HG2 : Hid (g1 < g2) := by show _ < _; rw [← hg2]; exact HR2.out.lt
  have HB3 := Lib.hid (HB2.out.below hb3 HB2.out.lt)
  have HRR := Lib.hid (HRR.out.below hb3 HRR.out.lt)
  have HT := Lib.hid (below_call HT2.out HT2.out.size hb3)
  have HR4 := Lib.hid (HR2.out.below hb3 HR2.out.lt)
  clear hB3 hb3 hg2 HB2 HT2 HR2
  go_wp2_with (refine wpList_load_blk rfl (ty := 29) rfl rfl HB3.out Try.underlying29 rfl (info_client rfl) ?_; refine Hid.out ?_)
  refine Lib.hid ?_
  go_wp2_with fail
  refine (with_any (HVB0.out.below HT.out) (HVC0.out.below HT.out) (by have := HG.out.2.1; omega) HN.out.1).mono ?_
  rintro e w4 ⟨⟨g, rfl, hwk⟩, hb4⟩
  have HBB : Hid (w.heap.size + 2 ≤ g1 ∧ g1 < g2 ∧ g2 < w3.heap.size) := ⟨HG1.out, HG2.out, HR6.out.lt⟩
  have HR6 := Lib.hid (HR6.out.below hb4 HR6.out.lt)
  have HR4 := Lib.hid (HR4.out.below hb4 HR4.out.lt)
  have HRR := Lib.hid (HRR.out.below hb4 HRR.out.lt)
  have HT := Lib.hid (below_call HT.out HT.out.size hb4)
  have HWk := Lib.hid hwk
  generalize w3.heap.size = B at *
  clear hwk hb4 HB3 HG1 HG2
  go_wp2_with (refine wpList_load_blk rfl (ty := 36) rfl rfl HRR.out Try.underlying36 rfl (info_reply rfl) ?_; refine Hid.out ?_)
  refine Lib.hid ?_
  go_wp2_with fail
  refine (mine_any HWk.out).mono ?_
  rintro e w5 ⟨rfl, hb5⟩
  have HR6 := Lib.hid (HR6.out.below hb5 HR6.out.lt)
  have HR4 := Lib.hid (HR4.out.below hb5 HR4.out.lt)
  have HRR := Lib.hid (HRR.out.below hb5 HRR.out.lt)
  have HT := Lib.hid (below_call HT.out HT.out.size hb5)
  have HWk := Lib.hid (HWk.out.below hb5)
  clear hb5
  rw [decide_eq_true hm]
  have HM := Lib.hid hm
  clear hm
  have r3 : w5.cell? ⟨w.heap.size + 1, 3, none⟩ = some (.int .i64 R.res) := (HRR.out.cell 3).trans rfl
  have r5 : w5.cell? ⟨w.heap.size + 1, 5, none⟩ = some (.int .i64 R.own) := (HRR.out.cell 5).trans rfl
  obtain ⟨hBg, vb1, vc1, sv1, hb, hvb, hvc, hsv⟩ := HWk.out
  have HVB := Lib.hid hvb
  have c3 : w5.cell? ⟨g, 3, none⟩ = some vb1 := (hb.cell 3).trans rfl
  have c4 : w5.cell? ⟨g, 4, none⟩ = some (.int .i64 X.busy) := (hb.cell 4).trans rfl
  have c14 : w5.cell? ⟨g, 14, none⟩ = some (.int .i64 (X.at_ : Int)) := (hb.cell 14).trans rfl
  have f4 := hb.free 4
  have f14 := hb.free 14
  have HBG := Lib.hid hBg
  have HGL5 := Lib.hid hb.lt
  clear hb hvb hvc hsv hBg
  have q1 : decide (R.res = 1) = true := by rw [hr]; decide
  have q2 : (R.res == 1) = true := by rw [hr]; decide
  have q3 : decide (R.res = 2) = false := by rw [hr]; decide
  have q4 : (R.res == 2) = false := by rw [hr]; decide
  have HTX : Hid (takeX X now R = { cli := { X with at_ := k, since := now }, sent := sentX { X with at_ := k }, rep := none }) := by
    show _ = _
    unfold takeX
    rw [if_neg (by simp [HM.out]), if_pos (by rw [hr]; exact .inl rfl), hk]
    simp only
    rw [if_neg hka]
  have HI : Hid (idxI X.bs R.own = (k : Int)) := by
    show _ = _
    unfold idxI
    rw [hk]
  have HGK : Hid (Good { X with at_ := k }) := by
    obtain ⟨h1, _⟩ := List.findIdx?_eq_some_iff_getElem.1 hk
    exact ⟨h1, HG.out.2⟩
  have e0 : decide ((0 : Int) ≤ (k : Int)) = true := decide_eq_true (by omega)
  have e1 : ((k : Int) != (X.at_ : Int)) = true := by simp; omega
  have e2 : decide ((k : Int) = (X.at_ : Int)) = false := decide_eq_false (by omega)
  have e3 : decide (k = X.at_) = false := decide_eq_false hka
  clear hr hk hka
  go_wp2_with fail
  refine PF.pf_begin (by kernel_rfl) ?_
  refine PF.pf_take0 0 (by kernel_rfl) rfl (fun _ _ _ _ _ h => h) (by kernel_rfl) (fun u => by go_simp; try rfl) ?_
  try simp only [Act.put, pz0, pz1, pz2]
  refine PF.pf_take0 1 (by kernel_rfl) rfl (fun _ _ _ _ _ h => h) (by kernel_rfl) (fun u => by go_simp; try rfl) ?_
  try simp only [Act.put, pz0, pz1, pz2]
  refine PF.pf_take0 2 (by kernel_rfl) rfl (fun _ _ _ _ _ h => h) (by kernel_rfl) (fun u => by go_simp; try rfl) ?_
  try simp only [Act.put, pz0, pz1, pz2]
  refine PF.pf_take0 3 (by kernel_rfl) rfl (fun _ _ _ _ _ h => h) (by kernel_rfl) (fun u => by go_simp; try rfl) ?_
  try simp only [Act.put, pz0, pz1, pz2]
  refine PF.pf_take1 4 (PF.Same (g) _) (by kernel_rfl) rfl (fun _ _ _ _ _ h => h) (by kernel_rfl) (PF.Same.refl _ _) (fun u hu => by have hcu := hu.cell; go_simp; try rfl) ?_
  try simp only [Act.put, pz0, pz1, pz2]
  refine PF.pf_take0 5 (by kernel_rfl) rfl (fun _ _ _ _ _ h => h) (by kernel_rfl) (fun u => by go_simp; try rfl) ?_
  try simp only [Act.put, pz0, pz1, pz2]
  refine PF.pf_take1 6 (PF.Same ((w.heap.size+1)) _) (by kernel_rfl) rfl (fun _ _ _ _ _ h => h) (by kernel_rfl) (PF.Same.refl _ _) (fun u hu => by have hcu := hu.cell; go_simp; try rfl) ?_
  try simp only [Act.put, pz0, pz1, pz2]
  refine PF.pf_exec 7 (by kernel_rfl) rfl (by kernel_rfl) (fun K hK => ?_)
  go_simp
  refine (index_any (HVB.out.below ((Below.refl _ _).drew)) R.own (by have := HG.out.2.1; omega)).mono ?_
  rintro e w6 ⟨rfl, h6⟩
  subst h6
  rw [HI.out]
  refine hK _ _ (by repeat (first | exact PF.owes_nil | refine PF.owes_left ?_ | refine PF.owes_no (by decide +kernel) ?_ | refine PF.owes_yes (by first | rfl | assumption | go_simp) ?_)) ?_
  clear hK K
  try simp only [Act.put, pz0, pz1, pz2]
  refine PF.pf_take0 8 (by kernel_rfl) rfl (fun _ _ _ _ _ h => h) (by kernel_rfl) (fun u => by go_simp; try rfl) ?_
  try simp only [Act.put, pz0, pz1, pz2]
  refine PF.pf_done (by kernel_rfl) ?_
  go_wp2_with fail
  have HP := Lib.hid (HWk.out.put (i := 14) (u := .int .i64 (k : Int)) (Y := { X with at_ := k }) (fun vb vc sv => by simp only [wkL, cliL, List.cons_append, List.nil_append, pz0, pz1, pz2]) rfl rfl)
  have hm6 : Mod (fun b => b = g) w5 (w5.setCell ⟨g, 14, none⟩ (.int .i64 (k : Int))).drew := HP.out.2.trans ((Mod.refl _ _).drew)
  have HWk : Hid (Wk B (w5.setCell ⟨g, 14, none⟩ (.int .i64 (k : Int))).drew g { X with at_ := k } now none) := HP.out.1.drew
  have HR4 := Lib.hid (HR4.out.mod hm6 (by have := HBG.out; have := HBB.out; omega))
  have HR6 := Lib.hid (HR6.out.mod hm6 (by have := HBG.out; have := HBB.out; omega))
  have HT := Lib.hid (HT.out.trans (Mod.to_below (S := fun b => b = g) hm6 HT.out.size fun b hb e => by have := HBG.out; have := HBB.out; omega))
  clear hm6 HP c3 c4 c14 f4 f14 r3 r5 e0 e1 e2 e3 q1 q2 q3 q4
  generalize (w5.setCell ⟨g, 14, none⟩ (.int .i64 (k : Int))).drew = w7 at *
  refine (ask_any HWk.out HGK.out HN.out.1).mono ?_
  rintro e w9 ⟨rfl, hwk9, hm9⟩
  have HR4 := Lib.hid (HR4.out.mod hm9 (by have := HBG.out; have := HBB.out; omega))
  have HR6 := Lib.hid (HR6.out.mod hm9 (by have := HBG.out; have := HBB.out; omega))
  have HT := Lib.hid (HT.out.trans (Mod.to_below (S := fun b => b = g) hm9 HT.out.size fun b hb e => by have := HBG.out; have := HBB.out; omega))
  have HWk := Lib.hid hwk9
  clear hwk9 hm9
  go_wp2_with fail
  obtain ⟨hBg, vb, vc, sv, hb, hvb, hvc, hsv⟩ := HWk.out
  have HB := Lib.hid hb
  have HVB := Lib.hid hvb
  have HVC := Lib.hid hvc
  have HSV := Lib.hid hsv
  have HBg := Lib.hid hBg
  have c18 : w9.cell? ⟨g, 18, none⟩ = some sv := (hb.cell 18).trans rfl
  have c5 : w9.cell? ⟨g, 5, none⟩ = some (.int .i64 X.call.cl) := (hb.cell 5).trans rfl
  have c6 : w9.cell? ⟨g, 6, none⟩ = some (.int .u64 (X.call.inc : Int)) := (hb.cell 6).trans rfl
  have c7 : w9.cell? ⟨g, 7, none⟩ = some (.int .u64 (X.call.n : Int)) := (hb.cell 7).trans rfl
  have HOB : Hid (vb.oneCell' = true ∧ vc.oneCell' = true) := ⟨hvb.one, hvc.one⟩
  have HGL := Lib.hid hb.lt
  clear hb hvb hvc hsv hBg
  refine PF.pf_begin (by kernel_rfl) ?_
  refine PF.pf_take0 0 (by kernel_rfl) rfl (fun _ _ _ _ _ h => h) (by kernel_rfl) (fun u => by go_simp; try rfl) ?_
  try simp only [Act.put, pz0, pz1, pz2]
  refine PF.pf_take0 1 (by kernel_rfl) rfl (fun _ _ _ _ _ h => h) (by kernel_rfl) (fun u => by go_simp; try rfl) ?_
  try simp only [Act.put, pz0, pz1, pz2]
  refine PF.pf_take0 2 (by kernel_rfl) rfl (fun _ _ _ _ _ h => h) (by kernel_rfl) (fun u => by go_simp; try rfl) ?_
  try simp only [Act.put, pz0, pz1, pz2]
  refine PF.pf_take1 3 (fun u => Blk u g 66 (wkL { X with at_ := k, since := now } vb vc now sv).toArray) (by kernel_rfl) rfl (fun _ _ _ _ _ h => h) (by kernel_rfl) (HB.out) (fun u hu => by (exact exec_load_rg rfl rfl (show u.rangeAt g 0 (cliL { X with at_ := k, since := now } vb vc) from hu.range 0 17) Try.underlying29 rfl (info_client17 rfl))) ?_
  try simp only [Act.put, pz0, pz1, pz2]
  refine PF.pf_take0 4 (by kernel_rfl) rfl (fun _ _ _ _ _ h => h) (by kernel_rfl) (fun u => by go_simp; try rfl) ?_
  try simp only [Act.put, pz0, pz1, pz2]
  refine PF.pf_take0 5 (by kernel_rfl) rfl (fun _ _ _ _ _ h => h) (by kernel_rfl) (fun u => by go_simp; try rfl) ?_
  try simp only [Act.put, pz0, pz1, pz2]
  refine PF.pf_take0 6 (by kernel_rfl) rfl (fun _ _ _ _ _ h => h) (by kernel_rfl) (fun u => by go_simp; try rfl) ?_
  try simp only [Act.put, pz0, pz1, pz2]
  refine PF.pf_take1 7 (PF.Same (g) _) (by kernel_rfl) rfl (fun _ _ _ _ _ h => h) (by kernel_rfl) (PF.Same.refl _ _) (fun u hu => by have hcu := hu.cell; go_simp; try rfl) ?_
  try simp only [Act.put, pz0, pz1, pz2]
  refine PF.pf_take0 8 (by kernel_rfl) rfl (fun _ _ _ _ _ h => h) (by kernel_rfl) (fun u => by exact exec_build0 (v := .agg (repL zRep (.slice none 0 0)).toArray) rfl (build_reply0 _)) ?_
  try simp only [Act.put, pz0, pz1, pz2]
  refine PF.pf_exec 9 (by kernel_rfl) rfl (by kernel_rfl) (fun K hK => ?_)
  refine wp_store_blk rfl rfl rfl HR4.out rfl (info_client rfl) (cliL_one HOB.out.1 HOB.out.2) ?_
  rintro w91 hB91 hm91
  have hsg : w91.heap[g]? = w9.drew.heap[g]? := hm91.block g HGL.out (by have := HBg.out; have := HBB.out; omega)
  have HM91 := Lib.hid hm91
  have HB91 := Lib.hid hB91
  clear hB91 hm91
  refine hK _ _ (by repeat (first | exact PF.owes_nil | refine PF.owes_left ?_ | refine PF.owes_no (by decide +kernel) ?_ | refine PF.owes_yes (by exact hsg) ?_)) ?_
  clear hK K
  try simp only [Act.put, pz0, pz1, pz2]
  refine PF.pf_take0 10 (by kernel_rfl) rfl (fun _ _ _ _ _ h => h) (by kernel_rfl) (fun u => by go_simp; try rfl) ?_
  try simp only [Act.put, pz0, pz1, pz2]
  refine PF.pf_exec 11 (by kernel_rfl) rfl (by kernel_rfl) (fun K hK => ?_)
  refine wp_store_blk rfl rfl rfl (HR6.out.mod (((Mod.refl _ _).drew).trans HM91.out) (by have := HBB.out; omega)) rfl (info_reply rfl) (repL_one rfl) ?_
  rintro w92 hB92 hm92
  refine hK _ _ (by repeat (first | exact PF.owes_nil | refine PF.owes_left ?_ | refine PF.owes_no (by decide +kernel) ?_ | refine PF.owes_yes (by first | rfl | assumption | go_simp) ?_)) ?_
  clear hK K
  try simp only [Act.put, pz0, pz1, pz2]
  refine PF.pf_take0 12 (by kernel_rfl) rfl (fun _ _ _ _ _ h => h) (by kernel_rfl) (fun u => by go_simp; try rfl) ?_
  try simp only [Act.put, pz0, pz1, pz2]
  refine PF.pf_done (by kernel_rfl) ?_
  go_wp2_with fail
  have hB4 := HB91.out.mod hm92 (by have := HBB.out; omega)
  refine bodyPost_ret (results_ctct Try.results10 _ hB4 rfl Try.underlying29 rfl (info_client rfl) hB92 rfl Try.underlying36 rfl (info_reply rfl)) rfl ?_
  have h1 : Mod (fun b => b = g1 ∨ b = g2) w9 w92 := (((Mod.refl _ _).drew).trans (HM91.out.mono fun b _ e => .inl e)).trans (hm92.mono fun b _ e => .inr e)
  have hbb := HBB.out
  have hbg := HBg.out
  have hk : ∀ b, (B ≤ b ∧ b ≠ g) → ¬ (b = g1 ∨ b = g2) := fun b h e => by omega
  have hw : ∀ b, (B ≤ b ∧ b ≠ g) → w.heap.size ≤ b := fun b h => by omega
  rw [HTX.out]
  exact ⟨⟨vb, vc, _, _, rfl, (HVB.out.mod h1 hk).weak fun b _ h => hw b h, (HVC.out.mod h1 hk).weak fun b _ h => hw b h, (HSV.out.mod h1 hk).weak fun b _ h => hw b h, SlB.nil _ _⟩, HT.out.trans (h1.to_below HT.out.size fun b hb e => by omega)⟩
set_option maxRecDepth 100000 in
set_option maxHeartbeats 16000000 in
theorem take_same1 {K K2 : Nat → Prop} {w : World} {X : Cli} {vb vc : Value} {now : Nat} {R : Rep} {vr : Value} (hvb : SlI K w vb X.bs) (hvc : SlB K w vc X.call.body) (hvr : SlB K2 w vr R.body) (hg : Good X) (hn : X.call.body.length ≤ 1000000) (hnr : R.body.length ≤ 1000000) (hm : mineX X R) (hr : R.res = 1) {k : Nat} (hk : X.bs.findIdx? (fun b => decide (b = R.own)) = some k) (hka : k = X.at_) :
    Calls Try.prog 10 #[.agg (cliL X vb vc).toArray, .int .u64 (now : Int), .agg (repL R vr).toArray] w fun e w' => TurnPost (fun b => w.heap.size ≤ b) e w' (takeX X now R) ∧ Below w.heap.size w w' := by
  have hB0 : Blk ((w.alloc (.cells (cliL X vb vc).toArray 29)).alloc (.cells (repL R vr).toArray 36)) w.heap.size 29 (cliL X vb vc).toArray := (Blk.new _ _ _).alloc _
  have hB1 : Blk ((w.alloc (.cells (cliL X vb vc).toArray 29)).alloc (.cells (repL R vr).toArray 36)) (w.heap.size + 1) 36 (repL R vr).toArray := by simpa using Blk.new (w.alloc (.cells (cliL X vb vc).toArray 29)) 36 (repL R vr).toArray
  have hb1 : Below w.heap.size w ((w.alloc (.cells (cliL X vb vc).toArray 29)).alloc (.cells (repL R vr).toArray 36)) := (below_new w _).alloc (by simp) _
  have HB1 := Lib.hid hB0
  have HRR := Lib.hid hB1
  have HT1 := Lib.hid hb1
  have HS1 : Hid (((w.alloc (.cells (cliL X vb vc).toArray 29)).alloc (.cells (repL R vr).toArray 36)).heap.size = w.heap.size + 2) := by show _ = _; simp
  have HVB0 := Lib.hid hvb
  have HVC0 := Lib.hid hvc
  have HVR := Lib.hid hvr
  have HG := Lib.hid hg
  have HN : Hid (X.call.body.length ≤ 1000000 ∧ R.body.length ≤ 1000000) := ⟨hn, hnr⟩
  clear hB0 hB1 hb1 hvb hvc hvr hg hn hnr
  go_enter Try.func10, Try.ntmps10
  go_wp2_with (refine wpList_alloc_blk rfl rfl zero_client ?_; rintro g1 w2 hg1 hB2 hb2; refine Hid.out ?_)
  refine Lib.hid ?_
  have HG1 : Hid (w.heap.size + 2 ≤ g1) := by show _ ≤ _; rw [← hg1, HS1.out]; exact Nat.le_refl _
  have HB2 := Lib.hid (HB1.out.below hb2 HB1.out.lt)
  have HRR := Lib.hid (HRR.out.below hb2 HRR.out.lt)
  have HT2 := Lib.hid (below_call HT1.out HT1.out.size hb2)
  have HR2 := Lib.hid hB2
  clear hB2 hb2 hg1 HB1 HT1 HS1
  go_wp2_with (refine wpList_alloc_blk rfl rfl zero_reply ?_; rintro g2 w3 hg2 hB3 hb3; refine Hid.out ?_)
  refine Lib.hid ?_
  have HR6 := Lib.hid hB3
  have HG2 : Hid (g1 < g2) := by show _ < _; rw [← hg2]; exact HR2.out.lt
  have HB3 := Lib.hid (HB2.out.below hb3 HB2.out.lt)
  have HRR := Lib.hid (HRR.out.below hb3 HRR.out.lt)
  have HT := Lib.hid (below_call HT2.out HT2.out.size hb3)
  have HR4 := Lib.hid (HR2.out.below hb3 HR2.out.lt)
  clear hB3 hb3 hg2 HB2 HT2 HR2
  go_wp2_with (refine wpList_load_blk rfl (ty := 29) rfl rfl HB3.out Try.underlying29 rfl (info_client rfl) ?_; refine Hid.out ?_)
  refine Lib.hid ?_
  go_wp2_with fail
  refine (with_any (HVB0.out.below HT.out) (HVC0.out.below HT.out) (by have := HG.out.2.1; omega) HN.out.1).mono ?_
  rintro e w4 ⟨⟨g, rfl, hwk⟩, hb4⟩
  have HBB : Hid (w.heap.size + 2 ≤ g1 ∧ g1 < g2 ∧ g2 < w3.heap.size) := ⟨HG1.out, HG2.out, HR6.out.lt⟩
  have HR6 := Lib.hid (HR6.out.below hb4 HR6.out.lt)
  have HR4 := Lib.hid (HR4.out.below hb4 HR4.out.lt)
  have HRR := Lib.hid (HRR.out.below hb4 HRR.out.lt)
  have HT := Lib.hid (below_call HT.out HT.out.size hb4)
  have HWk := Lib.hid hwk
  generalize w3.heap.size = B at *
  clear hwk hb4 HB3 HG1 HG2
  go_wp2_with (refine wpList_load_blk rfl (ty := 36) rfl rfl HRR.out Try.underlying36 rfl (info_reply rfl) ?_; refine Hid.out ?_)
  refine Lib.hid ?_
  go_wp2_with fail
  refine (mine_any HWk.out).mono ?_
  rintro e w5 ⟨rfl, hb5⟩
  have HR6 := Lib.hid (HR6.out.below hb5 HR6.out.lt)
  have HR4 := Lib.hid (HR4.out.below hb5 HR4.out.lt)
  have HRR := Lib.hid (HRR.out.below hb5 HRR.out.lt)
  have HT := Lib.hid (below_call HT.out HT.out.size hb5)
  have HWk := Lib.hid (HWk.out.below hb5)
  clear hb5
  rw [decide_eq_true hm]
  have HM := Lib.hid hm
  clear hm
  have r3 : w5.cell? ⟨w.heap.size + 1, 3, none⟩ = some (.int .i64 R.res) := (HRR.out.cell 3).trans rfl
  have r5 : w5.cell? ⟨w.heap.size + 1, 5, none⟩ = some (.int .i64 R.own) := (HRR.out.cell 5).trans rfl
  obtain ⟨hBg, vb1, vc1, sv1, hb, hvb, hvc, hsv⟩ := HWk.out
  have HVB := Lib.hid hvb
  have c3 : w5.cell? ⟨g, 3, none⟩ = some vb1 := (hb.cell 3).trans rfl
  have c4 : w5.cell? ⟨g, 4, none⟩ = some (.int .i64 X.busy) := (hb.cell 4).trans rfl
  have c14 : w5.cell? ⟨g, 14, none⟩ = some (.int .i64 (X.at_ : Int)) := (hb.cell 14).trans rfl
  have f4 := hb.free 4
  have f14 := hb.free 14
  have HBG := Lib.hid hBg
  have HGL5 := Lib.hid hb.lt
  clear hb hvb hvc hsv hBg
  have q1 : decide (R.res = 1) = true := by rw [hr]; decide
  have q2 : (R.res == 1) = true := by rw [hr]; decide
  have q3 : decide (R.res = 2) = false := by rw [hr]; decide
  have q4 : (R.res == 2) = false := by rw [hr]; decide
  have HTX : Hid (takeX X now R = { cli := nextX X, sent := none, rep := none }) := by
    show _ = _
    unfold takeX
    rw [if_neg (by simp [HM.out]), if_pos (by rw [hr]; exact .inl rfl), hk]
    simp only
    rw [if_pos hka]
  have HI : Hid (idxI X.bs R.own = (k : Int)) := by
    show _ = _
    unfold idxI
    rw [hk]
  have e0 : decide ((0 : Int) ≤ (k : Int)) = true := decide_eq_true (by omega)
  have e1 : ((k : Int) != (X.at_ : Int)) = false := by simp; omega
  have e2 : decide ((k : Int) = (X.at_ : Int)) = true := decide_eq_true (by omega)
  have e3 : decide (k = X.at_) = true := decide_eq_true hka
  clear hr hk hka
  go_wp2_with fail
  refine PF.pf_begin (by kernel_rfl) ?_
  refine PF.pf_take0 0 (by kernel_rfl) rfl (fun _ _ _ _ _ h => h) (by kernel_rfl) (fun u => by go_simp; try rfl) ?_
  try simp only [Act.put, pz0, pz1, pz2]
  refine PF.pf_take0 1 (by kernel_rfl) rfl (fun _ _ _ _ _ h => h) (by kernel_rfl) (fun u => by go_simp; try rfl) ?_
  try simp only [Act.put, pz0, pz1, pz2]
  refine PF.pf_take0 2 (by kernel_rfl) rfl (fun _ _ _ _ _ h => h) (by kernel_rfl) (fun u => by go_simp; try rfl) ?_
  try simp only [Act.put, pz0, pz1, pz2]
  refine PF.pf_take0 3 (by kernel_rfl) rfl (fun _ _ _ _ _ h => h) (by kernel_rfl) (fun u => by go_simp; try rfl) ?_
  try simp only [Act.put, pz0, pz1, pz2]
  refine PF.pf_take1 4 (PF.Same (g) _) (by kernel_rfl) rfl (fun _ _ _ _ _ h => h) (by kernel_rfl) (PF.Same.refl _ _) (fun u hu => by have hcu := hu.cell; go_simp; try rfl) ?_
  try simp only [Act.put, pz0, pz1, pz2]
  refine PF.pf_take0 5 (by kernel_rfl) rfl (fun _ _ _ _ _ h => h) (by kernel_rfl) (fun u => by go_simp; try rfl) ?_
  try simp only [Act.put, pz0, pz1, pz2]
  refine PF.pf_take1 6 (PF.Same ((w.heap.size+1)) _) (by kernel_rfl) rfl (fun _ _ _ _ _ h => h) (by kernel_rfl) (PF.Same.refl _ _) (fun u hu => by have hcu := hu.cell; go_simp; try rfl) ?_
  try simp only [Act.put, pz0, pz1, pz2]
  refine PF.pf_exec 7 (by kernel_rfl) rfl (by kernel_rfl) (fun K hK => ?_)
  go_simp
  refine (index_any (HVB.out.below ((Below.refl _ _).drew)) R.own (by have := HG.out.2.1; omega)).mono ?_
  rintro e w6 ⟨rfl, h6⟩
  subst h6
  rw [HI.out]
  refine hK _ _ (by repeat (first | exact PF.owes_nil | refine PF.owes_left ?_ | refine PF.owes_no (by decide +kernel) ?_ | refine PF.owes_yes (by first | rfl | assumption | go_simp) ?_)) ?_
  clear hK K
  try simp only [Act.put, pz0, pz1, pz2]
  refine PF.pf_take0 8 (by kernel_rfl) rfl (fun _ _ _ _ _ h => h) (by kernel_rfl) (fun u => by go_simp; try rfl) ?_
  try simp only [Act.put, pz0, pz1, pz2]
  refine PF.pf_done (by kernel_rfl) ?_
  go_wp2_with fail
  refine (next_any HWk.out.drew HG.out).mono ?_
  rintro e w9 ⟨rfl, hwk9, hm9'⟩
  have hm9 : Mod (fun b => b = g) w5 w9 := ((Mod.refl _ _).drew).trans hm9'
  have HR4 := Lib.hid (HR4.out.mod hm9 (by have := HBG.out; have := HBB.out; omega))
  have HR6 := Lib.hid (HR6.out.mod hm9 (by have := HBG.out; have := HBB.out; omega))
  have HT := Lib.hid (HT.out.trans (Mod.to_below (S := fun b => b = g) hm9 HT.out.size fun b hb e => by have := HBG.out; have := HBB.out; omega))
  have HWk := Lib.hid hwk9
  clear hwk9 hm9 hm9' c3 c4 c14 f4 f14 r3 r5 q1 q2 q3 q4
  go_wp2_with fail
  obtain ⟨hBg, vb, vc, sv, hb, hvb, hvc, hsv⟩ := HWk.out
  have HB := Lib.hid hb
  have HVB := Lib.hid hvb
  have HVC := Lib.hid hvc
  have HSV := Lib.hid hsv
  have HBg := Lib.hid hBg
  have c18 : w9.cell? ⟨g, 18, none⟩ = some sv := (hb.cell 18).trans rfl
  have c5 : w9.cell? ⟨g, 5, none⟩ = some (.int .i64 X.call.cl) := (hb.cell 5).trans rfl
  have c6 : w9.cell? ⟨g, 6, none⟩ = some (.int .u64 (X.call.inc : Int)) := (hb.cell 6).trans rfl
  have c7 : w9.cell? ⟨g, 7, none⟩ = some (.int .u64 (X.call.n : Int)) := (hb.cell 7).trans rfl
  have HOB : Hid (vb.oneCell' = true ∧ vc.oneCell' = true) := ⟨hvb.one, hvc.one⟩
  have HGL := Lib.hid hb.lt
  clear hb hvb hvc hsv hBg
  refine PF.pf_begin (by kernel_rfl) ?_
  refine PF.pf_take0 0 (by kernel_rfl) rfl (fun _ _ _ _ _ h => h) (by kernel_rfl) (fun u => by go_simp; try rfl) ?_
  try simp only [Act.put, pz0, pz1, pz2]
  refine PF.pf_take0 1 (by kernel_rfl) rfl (fun _ _ _ _ _ h => h) (by kernel_rfl) (fun u => by go_simp; try rfl) ?_
  try simp only [Act.put, pz0, pz1, pz2]
  refine PF.pf_take0 2 (by kernel_rfl) rfl (fun _ _ _ _ _ h => h) (by kernel_rfl) (fun u => by go_simp; try rfl) ?_
  try simp only [Act.put, pz0, pz1, pz2]
  refine PF.pf_take1 3 (fun u => Blk u g 66 (wkL (nextX X) vb vc now sv).toArray) (by kernel_rfl) rfl (fun _ _ _ _ _ h => h) (by kernel_rfl) (HB.out) (fun u hu => by (exact exec_load_rg rfl rfl (show u.rangeAt g 0 (cliL (nextX X) vb vc) from hu.range 0 17) Try.underlying29 rfl (info_client17 rfl))) ?_
  try simp only [Act.put, pz0, pz1, pz2]
  refine PF.pf_take0 4 (by kernel_rfl) rfl (fun _ _ _ _ _ h => h) (by kernel_rfl) (fun u => by go_simp; try rfl) ?_
  try simp only [Act.put, pz0, pz1, pz2]
  refine PF.pf_take0 5 (by kernel_rfl) rfl (fun _ _ _ _ _ h => h) (by kernel_rfl) (fun u => by go_simp; try rfl) ?_
  try simp only [Act.put, pz0, pz1, pz2]
  refine PF.pf_take0 6 (by kernel_rfl) rfl (fun _ _ _ _ _ h => h) (by kernel_rfl) (fun u => by go_simp; try rfl) ?_
  try simp only [Act.put, pz0, pz1, pz2]
  refine PF.pf_take1 7 (PF.Same (g) _) (by kernel_rfl) rfl (fun _ _ _ _ _ h => h) (by kernel_rfl) (PF.Same.refl _ _) (fun u hu => by have hcu := hu.cell; go_simp; try rfl) ?_
  try simp only [Act.put, pz0, pz1, pz2]
  refine PF.pf_take0 8 (by kernel_rfl) rfl (fun _ _ _ _ _ h => h) (by kernel_rfl) (fun u => by exact exec_build0 (v := .agg (repL zRep (.slice none 0 0)).toArray) rfl (build_reply0 _)) ?_
  try simp only [Act.put, pz0, pz1, pz2]
  refine PF.pf_exec 9 (by kernel_rfl) rfl (by kernel_rfl) (fun K hK => ?_)
  refine wp_store_blk rfl rfl rfl HR4.out rfl (info_client rfl) (cliL_one HOB.out.1 HOB.out.2) ?_
  rintro w91 hB91 hm91
  have hsg : w91.heap[g]? = w9.drew.heap[g]? := hm91.block g HGL.out (by have := HBg.out; have := HBB.out; omega)
  have HM91 := Lib.hid hm91
  have HB91 := Lib.hid hB91
  clear hB91 hm91
  refine hK _ _ (by repeat (first | exact PF.owes_nil | refine PF.owes_left ?_ | refine PF.owes_no (by decide +kernel) ?_ | refine PF.owes_yes (by exact hsg) ?_)) ?_
  clear hK K
  try simp only [Act.put, pz0, pz1, pz2]
  refine PF.pf_take0 10 (by kernel_rfl) rfl (fun _ _ _ _ _ h => h) (by kernel_rfl) (fun u => by go_simp; try rfl) ?_
  try simp only [Act.put, pz0, pz1, pz2]
  refine PF.pf_exec 11 (by kernel_rfl) rfl (by kernel_rfl) (fun K hK => ?_)
  refine wp_store_blk rfl rfl rfl (HR6.out.mod (((Mod.refl _ _).drew).trans HM91.out) (by have := HBB.out; omega)) rfl (info_reply rfl) (repL_one rfl) ?_
  rintro w92 hB92 hm92
  refine hK _ _ (by repeat (first | exact PF.owes_nil | refine PF.owes_left ?_ | refine PF.owes_no (by decide +kernel) ?_ | refine PF.owes_yes (by first | rfl | assumption | go_simp) ?_)) ?_
  clear hK K
  try simp only [Act.put, pz0, pz1, pz2]
  refine PF.pf_take0 12 (by kernel_rfl) rfl (fun _ _ _ _ _ h => h) (by kernel_rfl) (fun u => by go_simp; try rfl) ?_
  try simp only [Act.put, pz0, pz1, pz2]
  refine PF.pf_done (by kernel_rfl) ?_
  go_wp2_with fail
  have hB4 := HB91.out.mod hm92 (by have := HBB.out; omega)
  refine bodyPost_ret (results_ctct Try.results10 _ hB4 rfl Try.underlying29 rfl (info_client rfl) hB92 rfl Try.underlying36 rfl (info_reply rfl)) rfl ?_
  have h1 : Mod (fun b => b = g1 ∨ b = g2) w9 w92 := (((Mod.refl _ _).drew).trans (HM91.out.mono fun b _ e => .inl e)).trans (hm92.mono fun b _ e => .inr e)
  have hbb := HBB.out
  have hbg := HBg.out
  have hk : ∀ b, (B ≤ b ∧ b ≠ g) → ¬ (b = g1 ∨ b = g2) := fun b h e => by omega
  have hw : ∀ b, (B ≤ b ∧ b ≠ g) → w.heap.size ≤ b := fun b h => by omega
  rw [HTX.out]
  exact ⟨⟨vb, vc, _, _, rfl, (HVB.out.mod h1 hk).weak fun b _ h => hw b h, (HVC.out.mod h1 hk).weak fun b _ h => hw b h, (HSV.out.mod h1 hk).weak fun b _ h => hw b h, SlB.nil _ _⟩, HT.out.trans (h1.to_below HT.out.size fun b hb e => by omega)⟩
set_option maxRecDepth 100000 in
set_option maxHeartbeats 16000000 in
theorem take_miss1 {K K2 : Nat → Prop} {w : World} {X : Cli} {vb vc : Value} {now : Nat} {R : Rep} {vr : Value} (hvb : SlI K w vb X.bs) (hvc : SlB K w vc X.call.body) (hvr : SlB K2 w vr R.body) (hg : Good X) (hn : X.call.body.length ≤ 1000000) (hnr : R.body.length ≤ 1000000) (hm : mineX X R) (hr : R.res = 1) (hk : X.bs.findIdx? (fun b => decide (b = R.own)) = none) :
    Calls Try.prog 10 #[.agg (cliL X vb vc).toArray, .int .u64 (now : Int), .agg (repL R vr).toArray] w fun e w' => TurnPost (fun b => w.heap.size ≤ b) e w' (takeX X now R) ∧ Below w.heap.size w w' := by
  have hB0 : Blk ((w.alloc (.cells (cliL X vb vc).toArray 29)).alloc (.cells (repL R vr).toArray 36)) w.heap.size 29 (cliL X vb vc).toArray := (Blk.new _ _ _).alloc _
  have hB1 : Blk ((w.alloc (.cells (cliL X vb vc).toArray 29)).alloc (.cells (repL R vr).toArray 36)) (w.heap.size + 1) 36 (repL R vr).toArray := by simpa using Blk.new (w.alloc (.cells (cliL X vb vc).toArray 29)) 36 (repL R vr).toArray
  have hb1 : Below w.heap.size w ((w.alloc (.cells (cliL X vb vc).toArray 29)).alloc (.cells (repL R vr).toArray 36)) := (below_new w _).alloc (by simp) _
  have HB1 := Lib.hid hB0
  have HRR := Lib.hid hB1
  have HT1 := Lib.hid hb1
  have HS1 : Hid (((w.alloc (.cells (cliL X vb vc).toArray 29)).alloc (.cells (repL R vr).toArray 36)).heap.size = w.heap.size + 2) := by show _ = _; simp
  have HVB0 := Lib.hid hvb
  have HVC0 := Lib.hid hvc
  have HVR := Lib.hid hvr
  have HG := Lib.hid hg
  have HN : Hid (X.call.body.length ≤ 1000000 ∧ R.body.length ≤ 1000000) := ⟨hn, hnr⟩
  clear hB0 hB1 hb1 hvb hvc hvr hg hn hnr
  go_enter Try.func10, Try.ntmps10
  go_wp2_with (refine wpList_alloc_blk rfl rfl zero_client ?_; rintro g1 w2 hg1 hB2 hb2; refine Hid.out ?_)
  refine Lib.hid ?_
  have HG1 : Hid (w.heap.size + 2 ≤ g1) := by show _ ≤ _; rw [← hg1, HS1.out]; exact Nat.le_refl _
  have HB2 := Lib.hid (HB1.out.below hb2 HB1.out.lt)
  have HRR := Lib.hid (HRR.out.below hb2 HRR.out.lt)
  have HT2 := Lib.hid (below_call HT1.out HT1.out.size hb2)
  have HR2 := Lib.hid hB2
  clear hB2 hb2 hg1 HB1 HT1 HS1
  go_wp2_with (refine wpList_alloc_blk rfl rfl zero_reply ?_; rintro g2 w3 hg2 hB3 hb3; refine Hid.out ?_)
  refine Lib.hid ?_
  have HR6 := Lib.hid hB3
  have HG2 : Hid (g1 < g2) := by show _ < _; rw [← hg2]; exact HR2.out.lt
  have HB3 := Lib.hid (HB2.out.below hb3 HB2.out.lt)
  have HRR := Lib.hid (HRR.out.below hb3 HRR.out.lt)
  have HT := Lib.hid (below_call HT2.out HT2.out.size hb3)
  have HR4 := Lib.hid (HR2.out.below hb3 HR2.out.lt)
  clear hB3 hb3 hg2 HB2 HT2 HR2
  go_wp2_with (refine wpList_load_blk rfl (ty := 29) rfl rfl HB3.out Try.underlying29 rfl (info_client rfl) ?_; refine Hid.out ?_)
  refine Lib.hid ?_
  go_wp2_with fail
  refine (with_any (HVB0.out.below HT.out) (HVC0.out.below HT.out) (by have := HG.out.2.1; omega) HN.out.1).mono ?_
  rintro e w4 ⟨⟨g, rfl, hwk⟩, hb4⟩
  have HBB : Hid (w.heap.size + 2 ≤ g1 ∧ g1 < g2 ∧ g2 < w3.heap.size) := ⟨HG1.out, HG2.out, HR6.out.lt⟩
  have HR6 := Lib.hid (HR6.out.below hb4 HR6.out.lt)
  have HR4 := Lib.hid (HR4.out.below hb4 HR4.out.lt)
  have HRR := Lib.hid (HRR.out.below hb4 HRR.out.lt)
  have HT := Lib.hid (below_call HT.out HT.out.size hb4)
  have HWk := Lib.hid hwk
  generalize w3.heap.size = B at *
  clear hwk hb4 HB3 HG1 HG2
  go_wp2_with (refine wpList_load_blk rfl (ty := 36) rfl rfl HRR.out Try.underlying36 rfl (info_reply rfl) ?_; refine Hid.out ?_)
  refine Lib.hid ?_
  go_wp2_with fail
  refine (mine_any HWk.out).mono ?_
  rintro e w5 ⟨rfl, hb5⟩
  have HR6 := Lib.hid (HR6.out.below hb5 HR6.out.lt)
  have HR4 := Lib.hid (HR4.out.below hb5 HR4.out.lt)
  have HRR := Lib.hid (HRR.out.below hb5 HRR.out.lt)
  have HT := Lib.hid (below_call HT.out HT.out.size hb5)
  have HWk := Lib.hid (HWk.out.below hb5)
  clear hb5
  rw [decide_eq_true hm]
  have HM := Lib.hid hm
  clear hm
  have r3 : w5.cell? ⟨w.heap.size + 1, 3, none⟩ = some (.int .i64 R.res) := (HRR.out.cell 3).trans rfl
  have r5 : w5.cell? ⟨w.heap.size + 1, 5, none⟩ = some (.int .i64 R.own) := (HRR.out.cell 5).trans rfl
  obtain ⟨hBg, vb1, vc1, sv1, hb, hvb, hvc, hsv⟩ := HWk.out
  have HVB := Lib.hid hvb
  have c3 : w5.cell? ⟨g, 3, none⟩ = some vb1 := (hb.cell 3).trans rfl
  have c4 : w5.cell? ⟨g, 4, none⟩ = some (.int .i64 X.busy) := (hb.cell 4).trans rfl
  have c14 : w5.cell? ⟨g, 14, none⟩ = some (.int .i64 (X.at_ : Int)) := (hb.cell 14).trans rfl
  have f4 := hb.free 4
  have f14 := hb.free 14
  have HBG := Lib.hid hBg
  have HGL5 := Lib.hid hb.lt
  clear hb hvb hvc hsv hBg
  have q1 : decide (R.res = 1) = true := by rw [hr]; decide
  have q2 : (R.res == 1) = true := by rw [hr]; decide
  have q3 : decide (R.res = 2) = false := by rw [hr]; decide
  have q4 : (R.res == 2) = false := by rw [hr]; decide
  have HTX : Hid (takeX X now R = { cli := nextX X, sent := none, rep := none }) := by
    show _ = _
    unfold takeX
    rw [if_neg (by simp [HM.out]), if_pos (by rw [hr]; exact .inl rfl), hk]
  have HI : Hid (idxI X.bs R.own = -1) := by
    show _ = _
    unfold idxI
    rw [hk]
  clear hr hk
  go_wp2_with fail
  refine PF.pf_begin (by kernel_rfl) ?_
  refine PF.pf_take0 0 (by kernel_rfl) rfl (fun _ _ _ _ _ h => h) (by kernel_rfl) (fun u => by go_simp; try rfl) ?_
  try simp only [Act.put, pz0, pz1, pz2]
  refine PF.pf_take0 1 (by kernel_rfl) rfl (fun _ _ _ _ _ h => h) (by kernel_rfl) (fun u => by go_simp; try rfl) ?_
  try simp only [Act.put, pz0, pz1, pz2]
  refine PF.pf_take0 2 (by kernel_rfl) rfl (fun _ _ _ _ _ h => h) (by kernel_rfl) (fun u => by go_simp; try rfl) ?_
  try simp only [Act.put, pz0, pz1, pz2]
  refine PF.pf_take0 3 (by kernel_rfl) rfl (fun _ _ _ _ _ h => h) (by kernel_rfl) (fun u => by go_simp; try rfl) ?_
  try simp only [Act.put, pz0, pz1, pz2]
  refine PF.pf_take1 4 (PF.Same (g) _) (by kernel_rfl) rfl (fun _ _ _ _ _ h => h) (by kernel_rfl) (PF.Same.refl _ _) (fun u hu => by have hcu := hu.cell; go_simp; try rfl) ?_
  try simp only [Act.put, pz0, pz1, pz2]
  refine PF.pf_take0 5 (by kernel_rfl) rfl (fun _ _ _ _ _ h => h) (by kernel_rfl) (fun u => by go_simp; try rfl) ?_
  try simp only [Act.put, pz0, pz1, pz2]
  refine PF.pf_take1 6 (PF.Same ((w.heap.size+1)) _) (by kernel_rfl) rfl (fun _ _ _ _ _ h => h) (by kernel_rfl) (PF.Same.refl _ _) (fun u hu => by have hcu := hu.cell; go_simp; try rfl) ?_
  try simp only [Act.put, pz0, pz1, pz2]
  refine PF.pf_exec 7 (by kernel_rfl) rfl (by kernel_rfl) (fun K hK => ?_)
  go_simp
  refine (index_any (HVB.out.below ((Below.refl _ _).drew)) R.own (by have := HG.out.2.1; omega)).mono ?_
  rintro e w6 ⟨rfl, h6⟩
  subst h6
  rw [HI.out]
  refine hK _ _ (by repeat (first | exact PF.owes_nil | refine PF.owes_left ?_ | refine PF.owes_no (by decide +kernel) ?_ | refine PF.owes_yes (by first | rfl | assumption | go_simp) ?_)) ?_
  clear hK K
  try simp only [Act.put, pz0, pz1, pz2]
  refine PF.pf_take0 8 (by kernel_rfl) rfl (fun _ _ _ _ _ h => h) (by kernel_rfl) (fun u => by go_simp; try rfl) ?_
  try simp only [Act.put, pz0, pz1, pz2]
  refine PF.pf_done (by kernel_rfl) ?_
  go_wp2_with fail
  refine (next_any HWk.out.drew HG.out).mono ?_
  rintro e w9 ⟨rfl, hwk9, hm9'⟩
  have hm9 : Mod (fun b => b = g) w5 w9 := ((Mod.refl _ _).drew).trans hm9'
  have HR4 := Lib.hid (HR4.out.mod hm9 (by have := HBG.out; have := HBB.out; omega))
  have HR6 := Lib.hid (HR6.out.mod hm9 (by have := HBG.out; have := HBB.out; omega))
  have HT := Lib.hid (HT.out.trans (Mod.to_below (S := fun b => b = g) hm9 HT.out.size fun b hb e => by have := HBG.out; have := HBB.out; omega))
  have HWk := Lib.hid hwk9
  clear hwk9 hm9 hm9' c3 c4 c14 f4 f14 r3 r5 q1 q2 q3 q4
  go_wp2_with fail
  obtain ⟨hBg, vb, vc, sv, hb, hvb, hvc, hsv⟩ := HWk.out
  have HB := Lib.hid hb
  have HVB := Lib.hid hvb
  have HVC := Lib.hid hvc
  have HSV := Lib.hid hsv
  have HBg := Lib.hid hBg
  have c18 : w9.cell? ⟨g, 18, none⟩ = some sv := (hb.cell 18).trans rfl
  have c5 : w9.cell? ⟨g, 5, none⟩ = some (.int .i64 X.call.cl) := (hb.cell 5).trans rfl
  have c6 : w9.cell? ⟨g, 6, none⟩ = some (.int .u64 (X.call.inc : Int)) := (hb.cell 6).trans rfl
  have c7 : w9.cell? ⟨g, 7, none⟩ = some (.int .u64 (X.call.n : Int)) := (hb.cell 7).trans rfl
  have HOB : Hid (vb.oneCell' = true ∧ vc.oneCell' = true) := ⟨hvb.one, hvc.one⟩
  have HGL := Lib.hid hb.lt
  clear hb hvb hvc hsv hBg
  refine PF.pf_begin (by kernel_rfl) ?_
  refine PF.pf_take0 0 (by kernel_rfl) rfl (fun _ _ _ _ _ h => h) (by kernel_rfl) (fun u => by go_simp; try rfl) ?_
  try simp only [Act.put, pz0, pz1, pz2]
  refine PF.pf_take0 1 (by kernel_rfl) rfl (fun _ _ _ _ _ h => h) (by kernel_rfl) (fun u => by go_simp; try rfl) ?_
  try simp only [Act.put, pz0, pz1, pz2]
  refine PF.pf_take0 2 (by kernel_rfl) rfl (fun _ _ _ _ _ h => h) (by kernel_rfl) (fun u => by go_simp; try rfl) ?_
  try simp only [Act.put, pz0, pz1, pz2]
  refine PF.pf_take1 3 (fun u => Blk u g 66 (wkL (nextX X) vb vc now sv).toArray) (by kernel_rfl) rfl (fun _ _ _ _ _ h => h) (by kernel_rfl) (HB.out) (fun u hu => by (exact exec_load_rg rfl rfl (show u.rangeAt g 0 (cliL (nextX X) vb vc) from hu.range 0 17) Try.underlying29 rfl (info_client17 rfl))) ?_
  try simp only [Act.put, pz0, pz1, pz2]
  refine PF.pf_take0 4 (by kernel_rfl) rfl (fun _ _ _ _ _ h => h) (by kernel_rfl) (fun u => by go_simp; try rfl) ?_
  try simp only [Act.put, pz0, pz1, pz2]
  refine PF.pf_take0 5 (by kernel_rfl) rfl (fun _ _ _ _ _ h => h) (by kernel_rfl) (fun u => by go_simp; try rfl) ?_
  try simp only [Act.put, pz0, pz1, pz2]
  refine PF.pf_take0 6 (by kernel_rfl) rfl (fun _ _ _ _ _ h => h) (by kernel_rfl) (fun u => by go_simp; try rfl) ?_
  try simp only [Act.put, pz0, pz1, pz2]
  refine PF.pf_take1 7 (PF.Same (g) _) (by kernel_rfl) rfl (fun _ _ _ _ _ h => h) (by kernel_rfl) (PF.Same.refl _ _) (fun u hu => by have hcu := hu.cell; go_simp; try rfl) ?_
  try simp only [Act.put, pz0, pz1, pz2]
  refine PF.pf_take0 8 (by kernel_rfl) rfl (fun _ _ _ _ _ h => h) (by kernel_rfl) (fun u => by exact exec_build0 (v := .agg (repL zRep (.slice none 0 0)).toArray) rfl (build_reply0 _)) ?_
  try simp only [Act.put, pz0, pz1, pz2]
  refine PF.pf_exec 9 (by kernel_rfl) rfl (by kernel_rfl) (fun K hK => ?_)
  refine wp_store_blk rfl rfl rfl HR4.out rfl (info_client rfl) (cliL_one HOB.out.1 HOB.out.2) ?_
  rintro w91 hB91 hm91
  have hsg : w91.heap[g]? = w9.drew.heap[g]? := hm91.block g HGL.out (by have := HBg.out; have := HBB.out; omega)
  have HM91 := Lib.hid hm91
  have HB91 := Lib.hid hB91
  clear hB91 hm91
  refine hK _ _ (by repeat (first | exact PF.owes_nil | refine PF.owes_left ?_ | refine PF.owes_no (by decide +kernel) ?_ | refine PF.owes_yes (by exact hsg) ?_)) ?_
  clear hK K
  try simp only [Act.put, pz0, pz1, pz2]
  refine PF.pf_take0 10 (by kernel_rfl) rfl (fun _ _ _ _ _ h => h) (by kernel_rfl) (fun u => by go_simp; try rfl) ?_
  try simp only [Act.put, pz0, pz1, pz2]
  refine PF.pf_exec 11 (by kernel_rfl) rfl (by kernel_rfl) (fun K hK => ?_)
  refine wp_store_blk rfl rfl rfl (HR6.out.mod (((Mod.refl _ _).drew).trans HM91.out) (by have := HBB.out; omega)) rfl (info_reply rfl) (repL_one rfl) ?_
  rintro w92 hB92 hm92
  refine hK _ _ (by repeat (first | exact PF.owes_nil | refine PF.owes_left ?_ | refine PF.owes_no (by decide +kernel) ?_ | refine PF.owes_yes (by first | rfl | assumption | go_simp) ?_)) ?_
  clear hK K
  try simp only [Act.put, pz0, pz1, pz2]
  refine PF.pf_take0 12 (by kernel_rfl) rfl (fun _ _ _ _ _ h => h) (by kernel_rfl) (fun u => by go_simp; try rfl) ?_
  try simp only [Act.put, pz0, pz1, pz2]
  refine PF.pf_done (by kernel_rfl) ?_
  go_wp2_with fail
  have hB4 := HB91.out.mod hm92 (by have := HBB.out; omega)
  refine bodyPost_ret (results_ctct Try.results10 _ hB4 rfl Try.underlying29 rfl (info_client rfl) hB92 rfl Try.underlying36 rfl (info_reply rfl)) rfl ?_
  have h1 : Mod (fun b => b = g1 ∨ b = g2) w9 w92 := (((Mod.refl _ _).drew).trans (HM91.out.mono fun b _ e => .inl e)).trans (hm92.mono fun b _ e => .inr e)
  have hbb := HBB.out
  have hbg := HBg.out
  have hk : ∀ b, (B ≤ b ∧ b ≠ g) → ¬ (b = g1 ∨ b = g2) := fun b h e => by omega
  have hw : ∀ b, (B ≤ b ∧ b ≠ g) → w.heap.size ≤ b := fun b h => by omega
  rw [HTX.out]
  exact ⟨⟨vb, vc, _, _, rfl, (HVB.out.mod h1 hk).weak fun b _ h => hw b h, (HVC.out.mod h1 hk).weak fun b _ h => hw b h, (HSV.out.mod h1 hk).weak fun b _ h => hw b h, SlB.nil _ _⟩, HT.out.trans (h1.to_below HT.out.size fun b hb e => by omega)⟩
set_option maxRecDepth 100000 in
set_option maxHeartbeats 16000000 in
theorem take_to2 {K K2 : Nat → Prop} {w : World} {X : Cli} {vb vc : Value} {now : Nat} {R : Rep} {vr : Value} (hvb : SlI K w vb X.bs) (hvc : SlB K w vc X.call.body) (hvr : SlB K2 w vr R.body) (hg : Good X) (hn : X.call.body.length ≤ 1000000) (hnr : R.body.length ≤ 1000000) (hm : mineX X R) (hr : R.res = 2) {k : Nat} (hk : X.bs.findIdx? (fun b => decide (b = R.own)) = some k) (hka : k ≠ X.at_) :
    Calls Try.prog 10 #[.agg (cliL X vb vc).toArray, .int .u64 (now : Int), .agg (repL R vr).toArray] w fun e w' => TurnPost (fun b => w.heap.size ≤ b) e w' (takeX X now R) ∧ Below w.heap.size w w' := by
  have hB0 : Blk ((w.alloc (.cells (cliL X vb vc).toArray 29)).alloc (.cells (repL R vr).toArray 36)) w.heap.size 29 (cliL X vb vc).toArray := (Blk.new _ _ _).alloc _
  have hB1 : Blk ((w.alloc (.cells (cliL X vb vc).toArray 29)).alloc (.cells (repL R vr).toArray 36)) (w.heap.size + 1) 36 (repL R vr).toArray := by simpa using Blk.new (w.alloc (.cells (cliL X vb vc).toArray 29)) 36 (repL R vr).toArray
  have hb1 : Below w.heap.size w ((w.alloc (.cells (cliL X vb vc).toArray 29)).alloc (.cells (repL R vr).toArray 36)) := (below_new w _).alloc (by simp) _
  have HB1 := Lib.hid hB0
  have HRR := Lib.hid hB1
  have HT1 := Lib.hid hb1
  have HS1 : Hid (((w.alloc (.cells (cliL X vb vc).toArray 29)).alloc (.cells (repL R vr).toArray 36)).heap.size = w.heap.size + 2) := by show _ = _; simp
  have HVB0 := Lib.hid hvb
  have HVC0 := Lib.hid hvc
  have HVR := Lib.hid hvr
  have HG := Lib.hid hg
  have HN : Hid (X.call.body.length ≤ 1000000 ∧ R.body.length ≤ 1000000) := ⟨hn, hnr⟩
  clear hB0 hB1 hb1 hvb hvc hvr hg hn hnr
  go_enter Try.func10, Try.ntmps10
  go_wp2_with (refine wpList_alloc_blk rfl rfl zero_client ?_; rintro g1 w2 hg1 hB2 hb2; refine Hid.out ?_)
  refine Lib.hid ?_
  have HG1 : Hid (w.heap.size + 2 ≤ g1) := by show _ ≤ _; rw [← hg1, HS1.out]; exact Nat.le_refl _
  have HB2 := Lib.hid (HB1.out.below hb2 HB1.out.lt)
  have HRR := Lib.hid (HRR.out.below hb2 HRR.out.lt)
  have HT2 := Lib.hid (below_call HT1.out HT1.out.size hb2)
  have HR2 := Lib.hid hB2
  clear hB2 hb2 hg1 HB1 HT1 HS1
  go_wp2_with (refine wpList_alloc_blk rfl rfl zero_reply ?_; rintro g2 w3 hg2 hB3 hb3; refine Hid.out ?_)
  refine Lib.hid ?_
  have HR6 := Lib.hid hB3
  have HG2 : Hid (g1 < g2) := by show _ < _; rw [← hg2]; exact HR2.out.lt
  have HB3 := Lib.hid (HB2.out.below hb3 HB2.out.lt)
  have HRR := Lib.hid (HRR.out.below hb3 HRR.out.lt)
  have HT := Lib.hid (below_call HT2.out HT2.out.size hb3)
  have HR4 := Lib.hid (HR2.out.below hb3 HR2.out.lt)
  clear hB3 hb3 hg2 HB2 HT2 HR2
  go_wp2_with (refine wpList_load_blk rfl (ty := 29) rfl rfl HB3.out Try.underlying29 rfl (info_client rfl) ?_; refine Hid.out ?_)
  refine Lib.hid ?_
  go_wp2_with fail
  refine (with_any (HVB0.out.below HT.out) (HVC0.out.below HT.out) (by have := HG.out.2.1; omega) HN.out.1).mono ?_
  rintro e w4 ⟨⟨g, rfl, hwk⟩, hb4⟩
  have HBB : Hid (w.heap.size + 2 ≤ g1 ∧ g1 < g2 ∧ g2 < w3.heap.size) := ⟨HG1.out, HG2.out, HR6.out.lt⟩
  have HR6 := Lib.hid (HR6.out.below hb4 HR6.out.lt)
  have HR4 := Lib.hid (HR4.out.below hb4 HR4.out.lt)
  have HRR := Lib.hid (HRR.out.below hb4 HRR.out.lt)
  have HT := Lib.hid (below_call HT.out HT.out.size hb4)
  have HWk := Lib.hid hwk
  generalize w3.heap.size = B at *
  clear hwk hb4 HB3 HG1 HG2
  go_wp2_with (refine wpList_load_blk rfl (ty := 36) rfl rfl HRR.out Try.underlying36 rfl (info_reply rfl) ?_; refine Hid.out ?_)
  refine Lib.hid ?_
  go_wp2_with fail
  refine (mine_any HWk.out).mono ?_
  rintro e w5 ⟨rfl, hb5⟩
  have HR6 := Lib.hid (HR6.out.below hb5 HR6.out.lt)
  have HR4 := Lib.hid (HR4.out.below hb5 HR4.out.lt)
  have HRR := Lib.hid (HRR.out.below hb5 HRR.out.lt)
  have HT := Lib.hid (below_call HT.out HT.out.size hb5)
  have HWk := Lib.hid (HWk.out.below hb5)
  clear hb5
  rw [decide_eq_true hm]
  have HM := Lib.hid hm
  clear hm
  have r3 : w5.cell? ⟨w.heap.size + 1, 3, none⟩ = some (.int .i64 R.res) := (HRR.out.cell 3).trans rfl
  have r5 : w5.cell? ⟨w.heap.size + 1, 5, none⟩ = some (.int .i64 R.own) := (HRR.out.cell 5).trans rfl
  obtain ⟨hBg, vb1, vc1, sv1, hb, hvb, hvc, hsv⟩ := HWk.out
  have HVB := Lib.hid hvb
  have c3 : w5.cell? ⟨g, 3, none⟩ = some vb1 := (hb.cell 3).trans rfl
  have c4 : w5.cell? ⟨g, 4, none⟩ = some (.int .i64 X.busy) := (hb.cell 4).trans rfl
  have c14 : w5.cell? ⟨g, 14, none⟩ = some (.int .i64 (X.at_ : Int)) := (hb.cell 14).trans rfl
  have f4 := hb.free 4
  have f14 := hb.free 14
  have HBG := Lib.hid hBg
  have HGL5 := Lib.hid hb.lt
  clear hb hvb hvc hsv hBg
  have q1 : decide (R.res = 1) = false := by rw [hr]; decide
  have q2 : (R.res == 1) = false := by rw [hr]; decide
  have q3 : decide (R.res = 2) = true := by rw [hr]; decide
  have q4 : (R.res == 2) = true := by rw [hr]; decide
  have HTX : Hid (takeX X now R = { cli := { X with at_ := k, since := now }, sent := sentX { X with at_ := k }, rep := none }) := by
    show _ = _
    unfold takeX
    rw [if_neg (by simp [HM.out]), if_pos (by rw [hr]; exact .inr rfl), hk]
    simp only
    rw [if_neg hka]
  have HI : Hid (idxI X.bs R.own = (k : Int)) := by
    show _ = _
    unfold idxI
    rw [hk]
  have HGK : Hid (Good { X with at_ := k }) := by
    obtain ⟨h1, _⟩ := List.findIdx?_eq_some_iff_getElem.1 hk
    exact ⟨h1, HG.out.2⟩
  have e0 : decide ((0 : Int) ≤ (k : Int)) = true := decide_eq_true (by omega)
  have e1 : ((k : Int) != (X.at_ : Int)) = true := by simp; omega
  have e2 : decide ((k : Int) = (X.at_ : Int)) = false := decide_eq_false (by omega)
  have e3 : decide (k = X.at_) = false := decide_eq_false hka
  clear hr hk hka
  go_wp2_with fail
  refine PF.pf_begin (by kernel_rfl) ?_
  refine PF.pf_take0 0 (by kernel_rfl) rfl (fun _ _ _ _ _ h => h) (by kernel_rfl) (fun u => by go_simp; try rfl) ?_
  try simp only [Act.put, pz0, pz1, pz2]
  refine PF.pf_take0 1 (by kernel_rfl) rfl (fun _ _ _ _ _ h => h) (by kernel_rfl) (fun u => by go_simp; try rfl) ?_
  try simp only [Act.put, pz0, pz1, pz2]
  refine PF.pf_take0 2 (by kernel_rfl) rfl (fun _ _ _ _ _ h => h) (by kernel_rfl) (fun u => by go_simp; try rfl) ?_
  try simp only [Act.put, pz0, pz1, pz2]
  refine PF.pf_take0 3 (by kernel_rfl) rfl (fun _ _ _ _ _ h => h) (by kernel_rfl) (fun u => by go_simp; try rfl) ?_
  try simp only [Act.put, pz0, pz1, pz2]
  refine PF.pf_take1 4 (PF.Same (g) _) (by kernel_rfl) rfl (fun _ _ _ _ _ h => h) (by kernel_rfl) (PF.Same.refl _ _) (fun u hu => by have hcu := hu.cell; go_simp; try rfl) ?_
  try simp only [Act.put, pz0, pz1, pz2]
  refine PF.pf_take0 5 (by kernel_rfl) rfl (fun _ _ _ _ _ h => h) (by kernel_rfl) (fun u => by go_simp; try rfl) ?_
  try simp only [Act.put, pz0, pz1, pz2]
  refine PF.pf_take1 6 (PF.Same ((w.heap.size+1)) _) (by kernel_rfl) rfl (fun _ _ _ _ _ h => h) (by kernel_rfl) (PF.Same.refl _ _) (fun u hu => by have hcu := hu.cell; go_simp; try rfl) ?_
  try simp only [Act.put, pz0, pz1, pz2]
  refine PF.pf_exec 7 (by kernel_rfl) rfl (by kernel_rfl) (fun K hK => ?_)
  go_simp
  refine (index_any (HVB.out.below ((Below.refl _ _).drew)) R.own (by have := HG.out.2.1; omega)).mono ?_
  rintro e w6 ⟨rfl, h6⟩
  subst h6
  rw [HI.out]
  refine hK _ _ (by repeat (first | exact PF.owes_nil | refine PF.owes_left ?_ | refine PF.owes_no (by decide +kernel) ?_ | refine PF.owes_yes (by first | rfl | assumption | go_simp) ?_)) ?_
  clear hK K
  try simp only [Act.put, pz0, pz1, pz2]
  refine PF.pf_take0 8 (by kernel_rfl) rfl (fun _ _ _ _ _ h => h) (by kernel_rfl) (fun u => by go_simp; try rfl) ?_
  try simp only [Act.put, pz0, pz1, pz2]
  refine PF.pf_done (by kernel_rfl) ?_
  go_wp2_with fail
  have HP := Lib.hid (HWk.out.put (i := 14) (u := .int .i64 (k : Int)) (Y := { X with at_ := k }) (fun vb vc sv => by simp only [wkL, cliL, List.cons_append, List.nil_append, pz0, pz1, pz2]) rfl rfl)
  have hm6 : Mod (fun b => b = g) w5 (w5.setCell ⟨g, 14, none⟩ (.int .i64 (k : Int))).drew := HP.out.2.trans ((Mod.refl _ _).drew)
  have HWk : Hid (Wk B (w5.setCell ⟨g, 14, none⟩ (.int .i64 (k : Int))).drew g { X with at_ := k } now none) := HP.out.1.drew
  have HR4 := Lib.hid (HR4.out.mod hm6 (by have := HBG.out; have := HBB.out; omega))
  have HR6 := Lib.hid (HR6.out.mod hm6 (by have := HBG.out; have := HBB.out; omega))
  have HT := Lib.hid (HT.out.trans (Mod.to_below (S := fun b => b = g) hm6 HT.out.size fun b hb e => by have := HBG.out; have := HBB.out; omega))
  clear hm6 HP c3 c4 c14 f4 f14 r3 r5 e0 e1 e2 e3 q1 q2 q3 q4
  generalize (w5.setCell ⟨g, 14, none⟩ (.int .i64 (k : Int))).drew = w7 at *
  refine (ask_any HWk.out HGK.out HN.out.1).mono ?_
  rintro e w9 ⟨rfl, hwk9, hm9⟩
  have HR4 := Lib.hid (HR4.out.mod hm9 (by have := HBG.out; have := HBB.out; omega))
  have HR6 := Lib.hid (HR6.out.mod hm9 (by have := HBG.out; have := HBB.out; omega))
  have HT := Lib.hid (HT.out.trans (Mod.to_below (S := fun b => b = g) hm9 HT.out.size fun b hb e => by have := HBG.out; have := HBB.out; omega))
  have HWk := Lib.hid hwk9
  clear hwk9 hm9
  go_wp2_with fail
  obtain ⟨hBg, vb, vc, sv, hb, hvb, hvc, hsv⟩ := HWk.out
  have HB := Lib.hid hb
  have HVB := Lib.hid hvb
  have HVC := Lib.hid hvc
  have HSV := Lib.hid hsv
  have HBg := Lib.hid hBg
  have c18 : w9.cell? ⟨g, 18, none⟩ = some sv := (hb.cell 18).trans rfl
  have c5 : w9.cell? ⟨g, 5, none⟩ = some (.int .i64 X.call.cl) := (hb.cell 5).trans rfl
  have c6 : w9.cell? ⟨g, 6, none⟩ = some (.int .u64 (X.call.inc : Int)) := (hb.cell 6).trans rfl
  have c7 : w9.cell? ⟨g, 7, none⟩ = some (.int .u64 (X.call.n : Int)) := (hb.cell 7).trans rfl
  have HOB : Hid (vb.oneCell' = true ∧ vc.oneCell' = true) := ⟨hvb.one, hvc.one⟩
  have HGL := Lib.hid hb.lt
  clear hb hvb hvc hsv hBg
  refine PF.pf_begin (by kernel_rfl) ?_
  refine PF.pf_take0 0 (by kernel_rfl) rfl (fun _ _ _ _ _ h => h) (by kernel_rfl) (fun u => by go_simp; try rfl) ?_
  try simp only [Act.put, pz0, pz1, pz2]
  refine PF.pf_take0 1 (by kernel_rfl) rfl (fun _ _ _ _ _ h => h) (by kernel_rfl) (fun u => by go_simp; try rfl) ?_
  try simp only [Act.put, pz0, pz1, pz2]
  refine PF.pf_take0 2 (by kernel_rfl) rfl (fun _ _ _ _ _ h => h) (by kernel_rfl) (fun u => by go_simp; try rfl) ?_
  try simp only [Act.put, pz0, pz1, pz2]
  refine PF.pf_take1 3 (fun u => Blk u g 66 (wkL { X with at_ := k, since := now } vb vc now sv).toArray) (by kernel_rfl) rfl (fun _ _ _ _ _ h => h) (by kernel_rfl) (HB.out) (fun u hu => by (exact exec_load_rg rfl rfl (show u.rangeAt g 0 (cliL { X with at_ := k, since := now } vb vc) from hu.range 0 17) Try.underlying29 rfl (info_client17 rfl))) ?_
  try simp only [Act.put, pz0, pz1, pz2]
  refine PF.pf_take0 4 (by kernel_rfl) rfl (fun _ _ _ _ _ h => h) (by kernel_rfl) (fun u => by go_simp; try rfl) ?_
  try simp only [Act.put, pz0, pz1, pz2]
  refine PF.pf_take0 5 (by kernel_rfl) rfl (fun _ _ _ _ _ h => h) (by kernel_rfl) (fun u => by go_simp; try rfl) ?_
  try simp only [Act.put, pz0, pz1, pz2]
  refine PF.pf_take0 6 (by kernel_rfl) rfl (fun _ _ _ _ _ h => h) (by kernel_rfl) (fun u => by go_simp; try rfl) ?_
  try simp only [Act.put, pz0, pz1, pz2]
  refine PF.pf_take1 7 (PF.Same (g) _) (by kernel_rfl) rfl (fun _ _ _ _ _ h => h) (by kernel_rfl) (PF.Same.refl _ _) (fun u hu => by have hcu := hu.cell; go_simp; try rfl) ?_
  try simp only [Act.put, pz0, pz1, pz2]
  refine PF.pf_take0 8 (by kernel_rfl) rfl (fun _ _ _ _ _ h => h) (by kernel_rfl) (fun u => by exact exec_build0 (v := .agg (repL zRep (.slice none 0 0)).toArray) rfl (build_reply0 _)) ?_
  try simp only [Act.put, pz0, pz1, pz2]
  refine PF.pf_exec 9 (by kernel_rfl) rfl (by kernel_rfl) (fun K hK => ?_)
  refine wp_store_blk rfl rfl rfl HR4.out rfl (info_client rfl) (cliL_one HOB.out.1 HOB.out.2) ?_
  rintro w91 hB91 hm91
  have hsg : w91.heap[g]? = w9.drew.heap[g]? := hm91.block g HGL.out (by have := HBg.out; have := HBB.out; omega)
  have HM91 := Lib.hid hm91
  have HB91 := Lib.hid hB91
  clear hB91 hm91
  refine hK _ _ (by repeat (first | exact PF.owes_nil | refine PF.owes_left ?_ | refine PF.owes_no (by decide +kernel) ?_ | refine PF.owes_yes (by exact hsg) ?_)) ?_
  clear hK K
  try simp only [Act.put, pz0, pz1, pz2]
  refine PF.pf_take0 10 (by kernel_rfl) rfl (fun _ _ _ _ _ h => h) (by kernel_rfl) (fun u => by go_simp; try rfl) ?_
  try simp only [Act.put, pz0, pz1, pz2]
  refine PF.pf_exec 11 (by kernel_rfl) rfl (by kernel_rfl) (fun K hK => ?_)
  refine wp_store_blk rfl rfl rfl (HR6.out.mod (((Mod.refl _ _).drew).trans HM91.out) (by have := HBB.out; omega)) rfl (info_reply rfl) (repL_one rfl) ?_
  rintro w92 hB92 hm92
  refine hK _ _ (by repeat (first | exact PF.owes_nil | refine PF.owes_left ?_ | refine PF.owes_no (by decide +kernel) ?_ | refine PF.owes_yes (by first | rfl | assumption | go_simp) ?_)) ?_
  clear hK K
  try simp only [Act.put, pz0, pz1, pz2]
  refine PF.pf_take0 12 (by kernel_rfl) rfl (fun _ _ _ _ _ h => h) (by kernel_rfl) (fun u => by go_simp; try rfl) ?_
  try simp only [Act.put, pz0, pz1, pz2]
  refine PF.pf_done (by kernel_rfl) ?_
  go_wp2_with fail
  have hB4 := HB91.out.mod hm92 (by have := HBB.out; omega)
  refine bodyPost_ret (results_ctct Try.results10 _ hB4 rfl Try.underlying29 rfl (info_client rfl) hB92 rfl Try.underlying36 rfl (info_reply rfl)) rfl ?_
  have h1 : Mod (fun b => b = g1 ∨ b = g2) w9 w92 := (((Mod.refl _ _).drew).trans (HM91.out.mono fun b _ e => .inl e)).trans (hm92.mono fun b _ e => .inr e)
  have hbb := HBB.out
  have hbg := HBg.out
  have hk : ∀ b, (B ≤ b ∧ b ≠ g) → ¬ (b = g1 ∨ b = g2) := fun b h e => by omega
  have hw : ∀ b, (B ≤ b ∧ b ≠ g) → w.heap.size ≤ b := fun b h => by omega
  rw [HTX.out]
  exact ⟨⟨vb, vc, _, _, rfl, (HVB.out.mod h1 hk).weak fun b _ h => hw b h, (HVC.out.mod h1 hk).weak fun b _ h => hw b h, (HSV.out.mod h1 hk).weak fun b _ h => hw b h, SlB.nil _ _⟩, HT.out.trans (h1.to_below HT.out.size fun b hb e => by omega)⟩
set_option maxRecDepth 100000 in
set_option maxHeartbeats 16000000 in
theorem take_same2 {K K2 : Nat → Prop} {w : World} {X : Cli} {vb vc : Value} {now : Nat} {R : Rep} {vr : Value} (hvb : SlI K w vb X.bs) (hvc : SlB K w vc X.call.body) (hvr : SlB K2 w vr R.body) (hg : Good X) (hn : X.call.body.length ≤ 1000000) (hnr : R.body.length ≤ 1000000) (hm : mineX X R) (hr : R.res = 2) {k : Nat} (hk : X.bs.findIdx? (fun b => decide (b = R.own)) = some k) (hka : k = X.at_) :
    Calls Try.prog 10 #[.agg (cliL X vb vc).toArray, .int .u64 (now : Int), .agg (repL R vr).toArray] w fun e w' => TurnPost (fun b => w.heap.size ≤ b) e w' (takeX X now R) ∧ Below w.heap.size w w' := by
  have hB0 : Blk ((w.alloc (.cells (cliL X vb vc).toArray 29)).alloc (.cells (repL R vr).toArray 36)) w.heap.size 29 (cliL X vb vc).toArray := (Blk.new _ _ _).alloc _
  have hB1 : Blk ((w.alloc (.cells (cliL X vb vc).toArray 29)).alloc (.cells (repL R vr).toArray 36)) (w.heap.size + 1) 36 (repL R vr).toArray := by simpa using Blk.new (w.alloc (.cells (cliL X vb vc).toArray 29)) 36 (repL R vr).toArray
  have hb1 : Below w.heap.size w ((w.alloc (.cells (cliL X vb vc).toArray 29)).alloc (.cells (repL R vr).toArray 36)) := (below_new w _).alloc (by simp) _
  have HB1 := Lib.hid hB0
  have HRR := Lib.hid hB1
  have HT1 := Lib.hid hb1
  have HS1 : Hid (((w.alloc (.cells (cliL X vb vc).toArray 29)).alloc (.cells (repL R vr).toArray 36)).heap.size = w.heap.size + 2) := by show _ = _; simp
  have HVB0 := Lib.hid hvb
  have HVC0 := Lib.hid hvc
  have HVR := Lib.hid hvr
  have HG := Lib.hid hg
  have HN : Hid (X.call.body.length ≤ 1000000 ∧ R.body.length ≤ 1000000) := ⟨hn, hnr⟩
  clear hB0 hB1 hb1 hvb hvc hvr hg hn hnr
  go_enter Try.func10, Try.ntmps10
  go_wp2_with (refine wpList_alloc_blk rfl rfl zero_client ?_; rintro g1 w2 hg1 hB2 hb2; refine Hid.out ?_)
  refine Lib.hid ?_
  have HG1 : Hid (w.heap.size + 2 ≤ g1) := by show _ ≤ _; rw [← hg1, HS1.out]; exact Nat.le_refl _
  have HB2 := Lib.hid (HB1.out.below hb2 HB1.out.lt)
  have HRR := Lib.hid (HRR.out.below hb2 HRR.out.lt)
  have HT2 := Lib.hid (below_call HT1.out HT1.out.size hb2)
  have HR2 := Lib.hid hB2
  clear hB2 hb2 hg1 HB1 HT1 HS1
  go_wp2_with (refine wpList_alloc_blk rfl rfl zero_reply ?_; rintro g2 w3 hg2 hB3 hb3; refine Hid.out ?_)
  refine Lib.hid ?_
  have HR6 := Lib.hid hB3
  have HG2 : Hid (g1 < g2) := by show _ < _; rw [← hg2]; exact HR2.out.lt
  have HB3 := Lib.hid (HB2.out.below hb3 HB2.out.lt)
  have HRR := Lib.hid (HRR.out.below hb3 HRR.out.lt)
  have HT := Lib.hid (below_call HT2.out HT2.out.size hb3)
  have HR4 := Lib.hid (HR2.out.below hb3 HR2.out.lt)
  clear hB3 hb3 hg2 HB2 HT2 HR2
  go_wp2_with (refine wpList_load_blk rfl (ty := 29) rfl rfl HB3.out Try.underlying29 rfl (info_client rfl) ?_; refine Hid.out ?_)
  refine Lib.hid ?_
  go_wp2_with fail
  refine (with_any (HVB0.out.below HT.out) (HVC0.out.below HT.out) (by have := HG.out.2.1; omega) HN.out.1).mono ?_
  rintro e w4 ⟨⟨g, rfl, hwk⟩, hb4⟩
  have HBB : Hid (w.heap.size + 2 ≤ g1 ∧ g1 < g2 ∧ g2 < w3.heap.size) := ⟨HG1.out, HG2.out, HR6.out.lt⟩
  have HR6 := Lib.hid (HR6.out.below hb4 HR6.out.lt)
  have HR4 := Lib.hid (HR4.out.below hb4 HR4.out.lt)
  have HRR := Lib.hid (HRR.out.below hb4 HRR.out.lt)
  have HT := Lib.hid (below_call HT.out HT.out.size hb4)
  have HWk := Lib.hid hwk
  generalize w3.heap.size = B at *
  clear hwk hb4 HB3 HG1 HG2
  go_wp2_with (refine wpList_load_blk rfl (ty := 36) rfl rfl HRR.out Try.underlying36 rfl (info_reply rfl) ?_; refine Hid.out ?_)
  refine Lib.hid ?_
  go_wp2_with fail
  refine (mine_any HWk.out).mono ?_
  rintro e w5 ⟨rfl, hb5⟩
  have HR6 := Lib.hid (HR6.out.below hb5 HR6.out.lt)
  have HR4 := Lib.hid (HR4.out.below hb5 HR4.out.lt)
  have HRR := Lib.hid (HRR.out.below hb5 HRR.out.lt)
  have HT := Lib.hid (below_call HT.out HT.out.size hb5)
  have HWk := Lib.hid (HWk.out.below hb5)
  clear hb5
  rw [decide_eq_true hm]
  have HM := Lib.hid hm
  clear hm
  have r3 : w5.cell? ⟨w.heap.size + 1, 3, none⟩ = some (.int .i64 R.res) := (HRR.out.cell 3).trans rfl
  have r5 : w5.cell? ⟨w.heap.size + 1, 5, none⟩ = some (.int .i64 R.own) := (HRR.out.cell 5).trans rfl
  obtain ⟨hBg, vb1, vc1, sv1, hb, hvb, hvc, hsv⟩ := HWk.out
  have HVB := Lib.hid hvb
  have c3 : w5.cell? ⟨g, 3, none⟩ = some vb1 := (hb.cell 3).trans rfl
  have c4 : w5.cell? ⟨g, 4, none⟩ = some (.int .i64 X.busy) := (hb.cell 4).trans rfl
  have c14 : w5.cell? ⟨g, 14, none⟩ = some (.int .i64 (X.at_ : Int)) := (hb.cell 14).trans rfl
  have f4 := hb.free 4
  have f14 := hb.free 14
  have HBG := Lib.hid hBg
  have HGL5 := Lib.hid hb.lt
  clear hb hvb hvc hsv hBg
  have q1 : decide (R.res = 1) = false := by rw [hr]; decide
  have q2 : (R.res == 1) = false := by rw [hr]; decide
  have q3 : decide (R.res = 2) = true := by rw [hr]; decide
  have q4 : (R.res == 2) = true := by rw [hr]; decide
  have HTX : Hid (takeX X now R = { cli := nextX X, sent := none, rep := none }) := by
    show _ = _
    unfold takeX
    rw [if_neg (by simp [HM.out]), if_pos (by rw [hr]; exact .inr rfl), hk]
    simp only
    rw [if_pos hka]
  have HI : Hid (idxI X.bs R.own = (k : Int)) := by
    show _ = _
    unfold idxI
    rw [hk]
  have e0 : decide ((0 : Int) ≤ (k : Int)) = true := decide_eq_true (by omega)
  have e1 : ((k : Int) != (X.at_ : Int)) = false := by simp; omega
  have e2 : decide ((k : Int) = (X.at_ : Int)) = true := decide_eq_true (by omega)
  have e3 : decide (k = X.at_) = true := decide_eq_true hka
  clear hr hk hka
  go_wp2_with fail
  refine PF.pf_begin (by kernel_rfl) ?_
  refine PF.pf_take0 0 (by kernel_rfl) rfl (fun _ _ _ _ _ h => h) (by kernel_rfl) (fun u => by go_simp; try rfl) ?_
  try simp only [Act.put, pz0, pz1, pz2]
  refine PF.pf_take0 1 (by kernel_rfl) rfl (fun _ _ _ _ _ h => h) (by kernel_rfl) (fun u => by go_simp; try rfl) ?_
  try simp only [Act.put, pz0, pz1, pz2]
  refine PF.pf_take0 2 (by kernel_rfl) rfl (fun _ _ _ _ _ h => h) (by kernel_rfl) (fun u => by go_simp; try rfl) ?_
  try simp only [Act.put, pz0, pz1, pz2]
  refine PF.pf_take0 3 (by kernel_rfl) rfl (fun _ _ _ _ _ h => h) (by kernel_rfl) (fun u => by go_simp; try rfl) ?_
  try simp only [Act.put, pz0, pz1, pz2]
  refine PF.pf_take1 4 (PF.Same (g) _) (by kernel_rfl) rfl (fun _ _ _ _ _ h => h) (by kernel_rfl) (PF.Same.refl _ _) (fun u hu => by have hcu := hu.cell; go_simp; try rfl) ?_
  try simp only [Act.put, pz0, pz1, pz2]
  refine PF.pf_take0 5 (by kernel_rfl) rfl (fun _ _ _ _ _ h => h) (by kernel_rfl) (fun u => by go_simp; try rfl) ?_
  try simp only [Act.put, pz0, pz1, pz2]
  refine PF.pf_take1 6 (PF.Same ((w.heap.size+1)) _) (by kernel_rfl) rfl (fun _ _ _ _ _ h => h) (by kernel_rfl) (PF.Same.refl _ _) (fun u hu => by have hcu := hu.cell; go_simp; try rfl) ?_
  try simp only [Act.put, pz0, pz1, pz2]
  refine PF.pf_exec 7 (by kernel_rfl) rfl (by kernel_rfl) (fun K hK => ?_)
  go_simp
  refine (index_any (HVB.out.below ((Below.refl _ _).drew)) R.own (by have := HG.out.2.1; omega)).mono ?_
  rintro e w6 ⟨rfl, h6⟩
  subst h6
  rw [HI.out]
  refine hK _ _ (by repeat (first | exact PF.owes_nil | refine PF.owes_left ?_ | refine PF.owes_no (by decide +kernel) ?_ | refine PF.owes_yes (by first | rfl | assumption | go_simp) ?_)) ?_
  clear hK K
  try simp only [Act.put, pz0, pz1, pz2]
  refine PF.pf_take0 8 (by kernel_rfl) rfl (fun _ _ _ _ _ h => h) (by kernel_rfl) (fun u => by go_simp; try rfl) ?_
  try simp only [Act.put, pz0, pz1, pz2]
  refine PF.pf_done (by kernel_rfl) ?_
  go_wp2_with fail
  refine (next_any HWk.out.drew HG.out).mono ?_
  rintro e w9 ⟨rfl, hwk9, hm9'⟩
  have hm9 : Mod (fun b => b = g) w5 w9 := ((Mod.refl _ _).drew).trans hm9'
  have HR4 := Lib.hid (HR4.out.mod hm9 (by have := HBG.out; have := HBB.out; omega))
  have HR6 := Lib.hid (HR6.out.mod hm9 (by have := HBG.out; have := HBB.out; omega))
  have HT := Lib.hid (HT.out.trans (Mod.to_below (S := fun b => b = g) hm9 HT.out.size fun b hb e => by have := HBG.out; have := HBB.out; omega))
  have HWk := Lib.hid hwk9
  clear hwk9 hm9 hm9' c3 c4 c14 f4 f14 r3 r5 q1 q2 q3 q4
  go_wp2_with fail
  obtain ⟨hBg, vb, vc, sv, hb, hvb, hvc, hsv⟩ := HWk.out
  have HB := Lib.hid hb
  have HVB := Lib.hid hvb
  have HVC := Lib.hid hvc
  have HSV := Lib.hid hsv
  have HBg := Lib.hid hBg
  have c18 : w9.cell? ⟨g, 18, none⟩ = some sv := (hb.cell 18).trans rfl
  have c5 : w9.cell? ⟨g, 5, none⟩ = some (.int .i64 X.call.cl) := (hb.cell 5).trans rfl
  have c6 : w9.cell? ⟨g, 6, none⟩ = some (.int .u64 (X.call.inc : Int)) := (hb.cell 6).trans rfl
  have c7 : w9.cell? ⟨g, 7, none⟩ = some (.int .u64 (X.call.n : Int)) := (hb.cell 7).trans rfl
  have HOB : Hid (vb.oneCell' = true ∧ vc.oneCell' = true) := ⟨hvb.one, hvc.one⟩
  have HGL := Lib.hid hb.lt
  clear hb hvb hvc hsv hBg
  refine PF.pf_begin (by kernel_rfl) ?_
  refine PF.pf_take0 0 (by kernel_rfl) rfl (fun _ _ _ _ _ h => h) (by kernel_rfl) (fun u => by go_simp; try rfl) ?_
  try simp only [Act.put, pz0, pz1, pz2]
  refine PF.pf_take0 1 (by kernel_rfl) rfl (fun _ _ _ _ _ h => h) (by kernel_rfl) (fun u => by go_simp; try rfl) ?_
  try simp only [Act.put, pz0, pz1, pz2]
  refine PF.pf_take0 2 (by kernel_rfl) rfl (fun _ _ _ _ _ h => h) (by kernel_rfl) (fun u => by go_simp; try rfl) ?_
  try simp only [Act.put, pz0, pz1, pz2]
  refine PF.pf_take1 3 (fun u => Blk u g 66 (wkL (nextX X) vb vc now sv).toArray) (by kernel_rfl) rfl (fun _ _ _ _ _ h => h) (by kernel_rfl) (HB.out) (fun u hu => by (exact exec_load_rg rfl rfl (show u.rangeAt g 0 (cliL (nextX X) vb vc) from hu.range 0 17) Try.underlying29 rfl (info_client17 rfl))) ?_
  try simp only [Act.put, pz0, pz1, pz2]
  refine PF.pf_take0 4 (by kernel_rfl) rfl (fun _ _ _ _ _ h => h) (by kernel_rfl) (fun u => by go_simp; try rfl) ?_
  try simp only [Act.put, pz0, pz1, pz2]
  refine PF.pf_take0 5 (by kernel_rfl) rfl (fun _ _ _ _ _ h => h) (by kernel_rfl) (fun u => by go_simp; try rfl) ?_
  try simp only [Act.put, pz0, pz1, pz2]
  refine PF.pf_take0 6 (by kernel_rfl) rfl (fun _ _ _ _ _ h => h) (by kernel_rfl) (fun u => by go_simp; try rfl) ?_
  try simp only [Act.put, pz0, pz1, pz2]
  refine PF.pf_take1 7 (PF.Same (g) _) (by kernel_rfl) rfl (fun _ _ _ _ _ h => h) (by kernel_rfl) (PF.Same.refl _ _) (fun u hu => by have hcu := hu.cell; go_simp; try rfl) ?_
  try simp only [Act.put, pz0, pz1, pz2]
  refine PF.pf_take0 8 (by kernel_rfl) rfl (fun _ _ _ _ _ h => h) (by kernel_rfl) (fun u => by exact exec_build0 (v := .agg (repL zRep (.slice none 0 0)).toArray) rfl (build_reply0 _)) ?_
  try simp only [Act.put, pz0, pz1, pz2]
  refine PF.pf_exec 9 (by kernel_rfl) rfl (by kernel_rfl) (fun K hK => ?_)
  refine wp_store_blk rfl rfl rfl HR4.out rfl (info_client rfl) (cliL_one HOB.out.1 HOB.out.2) ?_
  rintro w91 hB91 hm91
  have hsg : w91.heap[g]? = w9.drew.heap[g]? := hm91.block g HGL.out (by have := HBg.out; have := HBB.out; omega)
  have HM91 := Lib.hid hm91
  have HB91 := Lib.hid hB91
  clear hB91 hm91
  refine hK _ _ (by repeat (first | exact PF.owes_nil | refine PF.owes_left ?_ | refine PF.owes_no (by decide +kernel) ?_ | refine PF.owes_yes (by exact hsg) ?_)) ?_
  clear hK K
  try simp only [Act.put, pz0, pz1, pz2]
  refine PF.pf_take0 10 (by kernel_rfl) rfl (fun _ _ _ _ _ h => h) (by kernel_rfl) (fun u => by go_simp; try rfl) ?_
  try simp only [Act.put, pz0, pz1, pz2]
  refine PF.pf_exec 11 (by kernel_rfl) rfl (by kernel_rfl) (fun K hK => ?_)
  refine wp_store_blk rfl rfl rfl (HR6.out.mod (((Mod.refl _ _).drew).trans HM91.out) (by have := HBB.out; omega)) rfl (info_reply rfl) (repL_one rfl) ?_
  rintro w92 hB92 hm92
  refine hK _ _ (by repeat (first | exact PF.owes_nil | refine PF.owes_left ?_ | refine PF.owes_no (by decide +kernel) ?_ | refine PF.owes_yes (by first | rfl | assumption | go_simp) ?_)) ?_
  clear hK K
  try simp only [Act.put, pz0, pz1, pz2]
  refine PF.pf_take0 12 (by kernel_rfl) rfl (fun _ _ _ _ _ h => h) (by kernel_rfl) (fun u => by go_simp; try rfl) ?_
  try simp only [Act.put, pz0, pz1, pz2]
  refine PF.pf_done (by kernel_rfl) ?_
  go_wp2_with fail
  have hB4 := HB91.out.mod hm92 (by have := HBB.out; omega)
  refine bodyPost_ret (results_ctct Try.results10 _ hB4 rfl Try.underlying29 rfl (info_client rfl) hB92 rfl Try.underlying36 rfl (info_reply rfl)) rfl ?_
  have h1 : Mod (fun b => b = g1 ∨ b = g2) w9 w92 := (((Mod.refl _ _).drew).trans (HM91.out.mono fun b _ e => .inl e)).trans (hm92.mono fun b _ e => .inr e)
  have hbb := HBB.out
  have hbg := HBg.out
  have hk : ∀ b, (B ≤ b ∧ b ≠ g) → ¬ (b = g1 ∨ b = g2) := fun b h e => by omega
  have hw : ∀ b, (B ≤ b ∧ b ≠ g) → w.heap.size ≤ b := fun b h => by omega
  rw [HTX.out]
  exact ⟨⟨vb, vc, _, _, rfl, (HVB.out.mod h1 hk).weak fun b _ h => hw b h, (HVC.out.mod h1 hk).weak fun b _ h => hw b h, (HSV.out.mod h1 hk).weak fun b _ h => hw b h, SlB.nil _ _⟩, HT.out.trans (h1.to_below HT.out.size fun b hb e => by omega)⟩
set_option maxRecDepth 100000 in
set_option maxHeartbeats 16000000 in
theorem take_miss2 {K K2 : Nat → Prop} {w : World} {X : Cli} {vb vc : Value} {now : Nat} {R : Rep} {vr : Value} (hvb : SlI K w vb X.bs) (hvc : SlB K w vc X.call.body) (hvr : SlB K2 w vr R.body) (hg : Good X) (hn : X.call.body.length ≤ 1000000) (hnr : R.body.length ≤ 1000000) (hm : mineX X R) (hr : R.res = 2) (hk : X.bs.findIdx? (fun b => decide (b = R.own)) = none) :
    Calls Try.prog 10 #[.agg (cliL X vb vc).toArray, .int .u64 (now : Int), .agg (repL R vr).toArray] w fun e w' => TurnPost (fun b => w.heap.size ≤ b) e w' (takeX X now R) ∧ Below w.heap.size w w' := by
  have hB0 : Blk ((w.alloc (.cells (cliL X vb vc).toArray 29)).alloc (.cells (repL R vr).toArray 36)) w.heap.size 29 (cliL X vb vc).toArray := (Blk.new _ _ _).alloc _
  have hB1 : Blk ((w.alloc (.cells (cliL X vb vc).toArray 29)).alloc (.cells (repL R vr).toArray 36)) (w.heap.size + 1) 36 (repL R vr).toArray := by simpa using Blk.new (w.alloc (.cells (cliL X vb vc).toArray 29)) 36 (repL R vr).toArray
  have hb1 : Below w.heap.size w ((w.alloc (.cells (cliL X vb vc).toArray 29)).alloc (.cells (repL R vr).toArray 36)) := (below_new w _).alloc (by simp) _
  have HB1 := Lib.hid hB0
  have HRR := Lib.hid hB1
  have HT1 := Lib.hid hb1
  have HS1 : Hid (((w.alloc (.cells (cliL X vb vc).toArray 29)).alloc (.cells (repL R vr).toArray 36)).heap.size = w.heap.size + 2) := by show _ = _; simp
  have HVB0 := Lib.hid hvb
  have HVC0 := Lib.hid hvc
  have HVR := Lib.hid hvr
  have HG := Lib.hid hg
  have HN : Hid (X.call.body.length ≤ 1000000 ∧ R.body.length ≤ 1000000) := ⟨hn, hnr⟩
  clear hB0 hB1 hb1 hvb hvc hvr hg hn hnr
  go_enter Try.func10, Try.ntmps10
  go_wp2_with (refine wpList_alloc_blk rfl rfl zero_client ?_; rintro g1 w2 hg1 hB2 hb2; refine Hid.out ?_)
  refine Lib.hid ?_
  have HG1 : Hid (w.heap.size + 2 ≤ g1) := by show _ ≤ _; rw [← hg1, HS1.out]; exact Nat.le_refl _
  have HB2 := Lib.hid (HB1.out.below hb2 HB1.out.lt)
  have HRR := Lib.hid (HRR.out.below hb2 HRR.out.lt)
  have HT2 := Lib.hid (below_call HT1.out HT1.out.size hb2)
  have HR2 := Lib.hid hB2
  clear hB2 hb2 hg1 HB1 HT1 HS1
  go_wp2_with (refine wpList_alloc_blk rfl rfl zero_reply ?_; rintro g2 w3 hg2 hB3 hb3; refine Hid.out ?_)
  refine Lib.hid ?_
  have HR6 := Lib.hid hB3
  have HG2 : Hid (g1 < g2) := by show _ < _; rw [← hg2]; exact HR2.out.lt
  have HB3 := Lib.hid (HB2.out.below hb3 HB2.out.lt)
  have HRR := Lib.hid (HRR.out.below hb3 HRR.out.lt)
  have HT := Lib.hid (below_call HT2.out HT2.out.size hb3)
  have HR4 := Lib.hid (HR2.out.below hb3 HR2.out.lt)
  clear hB3 hb3 hg2 HB2 HT2 HR2
  go_wp2_with (refine wpList_load_blk rfl (ty := 29) rfl rfl HB3.out Try.underlying29 rfl (info_client rfl) ?_; refine Hid.out ?_)
  refine Lib.hid ?_
  go_wp2_with fail
  refine (with_any (HVB0.out.below HT.out) (HVC0.out.below HT.out) (by have := HG.out.2.1; omega) HN.out.1).mono ?_
  rintro e w4 ⟨⟨g, rfl, hwk⟩, hb4⟩
  have HBB : Hid (w.heap.size + 2 ≤ g1 ∧ g1 < g2 ∧ g2 < w3.heap.size) := ⟨HG1.out, HG2.out, HR6.out.lt⟩
  have HR6 := Lib.hid (HR6.out.below hb4 HR6.out.lt)
  have HR4 := Lib.hid (HR4.out.below hb4 HR4.out.lt)
  have HRR := Lib.hid (HRR.out.below hb4 HRR.out.lt)
  have HT := Lib.hid (below_call HT.out HT.out.size hb4)
  have HWk := Lib.hid hwk
  generalize w3.heap.size = B at *
  clear hwk hb4 HB3 HG1 HG2
  go_wp2_with (refine wpList_load_blk rfl (ty := 36) rfl rfl HRR.out Try.underlying36 rfl (info_reply rfl) ?_; refine Hid.out ?_)
  refine Lib.hid ?_
  go_wp2_with fail
  refine (mine_any HWk.out).mono ?_
  rintro e w5 ⟨rfl, hb5⟩
  have HR6 := Lib.hid (HR6.out.below hb5 HR6.out.lt)
  have HR4 := Lib.hid (HR4.out.below hb5 HR4.out.lt)
  have HRR := Lib.hid (HRR.out.below hb5 HRR.out.lt)
  have HT := Lib.hid (below_call HT.out HT.out.size hb5)
  have HWk := Lib.hid (HWk.out.below hb5)
  clear hb5
  rw [decide_eq_true hm]
  have HM := Lib.hid hm
  clear hm
  have r3 : w5.cell? ⟨w.heap.size + 1, 3, none⟩ = some (.int .i64 R.res) := (HRR.out.cell 3).trans rfl
  have r5 : w5.cell? ⟨w.heap.size + 1, 5, none⟩ = some (.int .i64 R.own) := (HRR.out.cell 5).trans rfl
  obtain ⟨hBg, vb1, vc1, sv1, hb, hvb, hvc, hsv⟩ := HWk.out
  have HVB := Lib.hid hvb
  have c3 : w5.cell? ⟨g, 3, none⟩ = some vb1 := (hb.cell 3).trans rfl
  have c4 : w5.cell? ⟨g, 4, none⟩ = some (.int .i64 X.busy) := (hb.cell 4).trans rfl
  have c14 : w5.cell? ⟨g, 14, none⟩ = some (.int .i64 (X.at_ : Int)) := (hb.cell 14).trans rfl
  have f4 := hb.free 4
  have f14 := hb.free 14
  have HBG := Lib.hid hBg
  have HGL5 := Lib.hid hb.lt
  clear hb hvb hvc hsv hBg
  have q1 : decide (R.res = 1) = false := by rw [hr]; decide
  have q2 : (R.res == 1) = false := by rw [hr]; decide
  have q3 : decide (R.res = 2) = true := by rw [hr]; decide
  have q4 : (R.res == 2) = true := by rw [hr]; decide
  have HTX : Hid (takeX X now R = { cli := nextX X, sent := none, rep := none }) := by
    show _ = _
    unfold takeX
    rw [if_neg (by simp [HM.out]), if_pos (by rw [hr]; exact .inr rfl), hk]
  have HI : Hid (idxI X.bs R.own = -1) := by
    show _ = _
    unfold idxI
    rw [hk]
  clear hr hk
  go_wp2_with fail
  refine PF.pf_begin (by kernel_rfl) ?_
  refine PF.pf_take0 0 (by kernel_rfl) rfl (fun _ _ _ _ _ h => h) (by kernel_rfl) (fun u => by go_simp; try rfl) ?_
  try simp only [Act.put, pz0, pz1, pz2]
  refine PF.pf_take0 1 (by kernel_rfl) rfl (fun _ _ _ _ _ h => h) (by kernel_rfl) (fun u => by go_simp; try rfl) ?_
  try simp only [Act.put, pz0, pz1, pz2]
  refine PF.pf_take0 2 (by kernel_rfl) rfl (fun _ _ _ _ _ h => h) (by kernel_rfl) (fun u => by go_simp; try rfl) ?_
  try simp only [Act.put, pz0, pz1, pz2]
  refine PF.pf_take0 3 (by kernel_rfl) rfl (fun _ _ _ _ _ h => h) (by kernel_rfl) (fun u => by go_simp; try rfl) ?_
  try simp only [Act.put, pz0, pz1, pz2]
  refine PF.pf_take1 4 (PF.Same (g) _) (by kernel_rfl) rfl (fun _ _ _ _ _ h => h) (by kernel_rfl) (PF.Same.refl _ _) (fun u hu => by have hcu := hu.cell; go_simp; try rfl) ?_
  try simp only [Act.put, pz0, pz1, pz2]
  refine PF.pf_take0 5 (by kernel_rfl) rfl (fun _ _ _ _ _ h => h) (by kernel_rfl) (fun u => by go_simp; try rfl) ?_
  try simp only [Act.put, pz0, pz1, pz2]
  refine PF.pf_take1 6 (PF.Same ((w.heap.size+1)) _) (by kernel_rfl) rfl (fun _ _ _ _ _ h => h) (by kernel_rfl) (PF.Same.refl _ _) (fun u hu => by have hcu := hu.cell; go_simp; try rfl) ?_
  try simp only [Act.put, pz0, pz1, pz2]
  refine PF.pf_exec 7 (by kernel_rfl) rfl (by kernel_rfl) (fun K hK => ?_)
  go_simp
  refine (index_any (HVB.out.below ((Below.refl _ _).drew)) R.own (by have := HG.out.2.1; omega)).mono ?_
  rintro e w6 ⟨rfl, h6⟩
  subst h6
  rw [HI.out]
  refine hK _ _ (by repeat (first | exact PF.owes_nil | refine PF.owes_left ?_ | refine PF.owes_no (by decide +kernel) ?_ | refine PF.owes_yes (by first | rfl | assumption | go_simp) ?_)) ?_
  clear hK K
  try simp only [Act.put, pz0, pz1, pz2]
  refine PF.pf_take0 8 (by kernel_rfl) rfl (fun _ _ _ _ _ h => h) (by kernel_rfl) (fun u => by go_simp; try rfl) ?_
  try simp only [Act.put, pz0, pz1, pz2]
  refine PF.pf_done (by kernel_rfl) ?_
  go_wp2_with fail
  refine (next_any HWk.out.drew HG.out).mono ?_
  rintro e w9 ⟨rfl, hwk9, hm9'⟩
  have hm9 : Mod (fun b => b = g) w5 w9 := ((Mod.refl _ _).drew).trans hm9'
  have HR4 := Lib.hid (HR4.out.mod hm9 (by have := HBG.out; have := HBB.out; omega))
  have HR6 := Lib.hid (HR6.out.mod hm9 (by have := HBG.out; have := HBB.out; omega))
  have HT := Lib.hid (HT.out.trans (Mod.to_below (S := fun b => b = g) hm9 HT.out.size fun b hb e => by have := HBG.out; have := HBB.out; omega))
  have HWk := Lib.hid hwk9
  clear hwk9 hm9 hm9' c3 c4 c14 f4 f14 r3 r5 q1 q2 q3 q4
  go_wp2_with fail
  obtain ⟨hBg, vb, vc, sv, hb, hvb, hvc, hsv⟩ := HWk.out
  have HB := Lib.hid hb
  have HVB := Lib.hid hvb
  have HVC := Lib.hid hvc
  have HSV := Lib.hid hsv
  have HBg := Lib.hid hBg
  have c18 : w9.cell? ⟨g, 18, none⟩ = some sv := (hb.cell 18).trans rfl
  have c5 : w9.cell? ⟨g, 5, none⟩ = some (.int .i64 X.call.cl) := (hb.cell 5).trans rfl
  have c6 : w9.cell? ⟨g, 6, none⟩ = some (.int .u64 (X.call.inc : Int)) := (hb.cell 6).trans rfl
  have c7 : w9.cell? ⟨g, 7, none⟩ = some (.int .u64 (X.call.n : Int)) := (hb.cell 7).trans rfl
  have HOB : Hid (vb.oneCell' = true ∧ vc.oneCell' = true) := ⟨hvb.one, hvc.one⟩
  have HGL := Lib.hid hb.lt
  clear hb hvb hvc hsv hBg
  refine PF.pf_begin (by kernel_rfl) ?_
  refine PF.pf_take0 0 (by kernel_rfl) rfl (fun _ _ _ _ _ h => h) (by kernel_rfl) (fun u => by go_simp; try rfl) ?_
  try simp only [Act.put, pz0, pz1, pz2]
  refine PF.pf_take0 1 (by kernel_rfl) rfl (fun _ _ _ _ _ h => h) (by kernel_rfl) (fun u => by go_simp; try rfl) ?_
  try simp only [Act.put, pz0, pz1, pz2]
  refine PF.pf_take0 2 (by kernel_rfl) rfl (fun _ _ _ _ _ h => h) (by kernel_rfl) (fun u => by go_simp; try rfl) ?_
  try simp only [Act.put, pz0, pz1, pz2]
  refine PF.pf_take1 3 (fun u => Blk u g 66 (wkL (nextX X) vb vc now sv).toArray) (by kernel_rfl) rfl (fun _ _ _ _ _ h => h) (by kernel_rfl) (HB.out) (fun u hu => by (exact exec_load_rg rfl rfl (show u.rangeAt g 0 (cliL (nextX X) vb vc) from hu.range 0 17) Try.underlying29 rfl (info_client17 rfl))) ?_
  try simp only [Act.put, pz0, pz1, pz2]
  refine PF.pf_take0 4 (by kernel_rfl) rfl (fun _ _ _ _ _ h => h) (by kernel_rfl) (fun u => by go_simp; try rfl) ?_
  try simp only [Act.put, pz0, pz1, pz2]
  refine PF.pf_take0 5 (by kernel_rfl) rfl (fun _ _ _ _ _ h => h) (by kernel_rfl) (fun u => by go_simp; try rfl) ?_
  try simp only [Act.put, pz0, pz1, pz2]
  refine PF.pf_take0 6 (by kernel_rfl) rfl (fun _ _ _ _ _ h => h) (by kernel_rfl) (fun u => by go_simp; try rfl) ?_
  try simp only [Act.put, pz0, pz1, pz2]
  refine PF.pf_take1 7 (PF.Same (g) _) (by kernel_rfl) rfl (fun _ _ _ _ _ h => h) (by kernel_rfl) (PF.Same.refl _ _) (fun u hu => by have hcu := hu.cell; go_simp; try rfl) ?_
  try simp only [Act.put, pz0, pz1, pz2]
  refine PF.pf_take0 8 (by kernel_rfl) rfl (fun _ _ _ _ _ h => h) (by kernel_rfl) (fun u => by exact exec_build0 (v := .agg (repL zRep (.slice none 0 0)).toArray) rfl (build_reply0 _)) ?_
  try simp only [Act.put, pz0, pz1, pz2]
  refine PF.pf_exec 9 (by kernel_rfl) rfl (by kernel_rfl) (fun K hK => ?_)
  refine wp_store_blk rfl rfl rfl HR4.out rfl (info_client rfl) (cliL_one HOB.out.1 HOB.out.2) ?_
  rintro w91 hB91 hm91
  have hsg : w91.heap[g]? = w9.drew.heap[g]? := hm91.block g HGL.out (by have := HBg.out; have := HBB.out; omega)
  have HM91 := Lib.hid hm91
  have HB91 := Lib.hid hB91
  clear hB91 hm91
  refine hK _ _ (by repeat (first | exact PF.owes_nil | refine PF.owes_left ?_ | refine PF.owes_no (by decide +kernel) ?_ | refine PF.owes_yes (by exact hsg) ?_)) ?_
  clear hK K
  try simp only [Act.put, pz0, pz1, pz2]
  refine PF.pf_take0 10 (by kernel_rfl) rfl (fun _ _ _ _ _ h => h) (by kernel_rfl) (fun u => by go_simp; try rfl) ?_
  try simp only [Act.put, pz0, pz1, pz2]
  refine PF.pf_exec 11 (by kernel_rfl) rfl (by kernel_rfl) (fun K hK => ?_)
  refine wp_store_blk rfl rfl rfl (HR6.out.mod (((Mod.refl _ _).drew).trans HM91.out) (by have := HBB.out; omega)) rfl (info_reply rfl) (repL_one rfl) ?_
  rintro w92 hB92 hm92
  refine hK _ _ (by repeat (first | exact PF.owes_nil | refine PF.owes_left ?_ | refine PF.owes_no (by decide +kernel) ?_ | refine PF.owes_yes (by first | rfl | assumption | go_simp) ?_)) ?_
  clear hK K
  try simp only [Act.put, pz0, pz1, pz2]
  refine PF.pf_take0 12 (by kernel_rfl) rfl (fun _ _ _ _ _ h => h) (by kernel_rfl) (fun u => by go_simp; try rfl) ?_
  try simp only [Act.put, pz0, pz1, pz2]
  refine PF.pf_done (by kernel_rfl) ?_
  go_wp2_with fail
  have hB4 := HB91.out.mod hm92 (by have := HBB.out; omega)
  refine bodyPost_ret (results_ctct Try.results10 _ hB4 rfl Try.underlying29 rfl (info_client rfl) hB92 rfl Try.underlying36 rfl (info_reply rfl)) rfl ?_
  have h1 : Mod (fun b => b = g1 ∨ b = g2) w9 w92 := (((Mod.refl _ _).drew).trans (HM91.out.mono fun b _ e => .inl e)).trans (hm92.mono fun b _ e => .inr e)
  have hbb := HBB.out
  have hbg := HBg.out
  have hk : ∀ b, (B ≤ b ∧ b ≠ g) → ¬ (b = g1 ∨ b = g2) := fun b h e => by omega
  have hw : ∀ b, (B ≤ b ∧ b ≠ g) → w.heap.size ≤ b := fun b h => by omega
  rw [HTX.out]
  exact ⟨⟨vb, vc, _, _, rfl, (HVB.out.mod h1 hk).weak fun b _ h => hw b h, (HVC.out.mod h1 hk).weak fun b _ h => hw b h, (HSV.out.mod h1 hk).weak fun b _ h => hw b h, SlB.nil _ _⟩, HT.out.trans (h1.to_below HT.out.size fun b hb e => by omega)⟩
end Go.Proofs.Ytpbaofabflgpkaa
