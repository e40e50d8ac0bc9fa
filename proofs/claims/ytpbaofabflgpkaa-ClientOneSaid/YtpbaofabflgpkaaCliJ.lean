/- A client's calls: Take of a reply that ends the call; Take. -/
import Derived.Test.YtpbaofabflgpkaaCliI
namespace Go.Proofs.Ytpbaofabflgpkaa
set_option linter.unusedVariables false
set_option linter.unusedSimpArgs false
open Go.RowKit

set_option maxRecDepth 100000 in
set_option maxHeartbeats 16000000 in
theorem take_end {K K2 : Nat → Prop} {w : World} {X : Cli} {vb vc : Value} {now : Nat} {R : Rep} {vr : Value} (hvb : SlI K w vb X.bs) (hvc : SlB K w vc X.call.body) (hvr : SlB K2 w vr R.body) (hg : Good X) (hn : X.call.body.length ≤ 1000000) (hnr : R.body.length ≤ 1000000) (hm : mineX X R) (hr : ¬ (R.res = 1 ∨ R.res = 2)) :
    Calls Try.prog 10 #[.agg (cliL X vb vc).toArray, .int .u64 (now : Int), .agg (repL R vr).toArray] w fun e w' => TurnPost (fun b => w.heap.size ≤ b) e w' (takeX X now R) ∧ Below w.heap.size w w' := by
  have hB0 : Blk ((w.alloc (.cells (cliL X vb vc).toArray 29)).alloc (.cells (repL R vr).toArray 36)) w.heap.size 29 (cliL X vb vc).toArray := (Blk.new _ _ _).alloc _
  have hB1 : Blk ((w.alloc (.cells (cliL X vb vc).toArray 29)).alloc (.cells (repL R vr).toArray 36)) (w.heap.size + 1) 36 (repL R vr).toArray := by simpa using Blk.new (w.alloc (.cells (cliL X vb vc).toArray 29)) 36 (repL R vr).toArray
  have hb1 : Below w.heap.size w ((w.alloc (.cells (cliL X vb vc).toArray 29)).alloc (.cells (repL R vr).toArray 36)) := (below_new w _).alloc (by simp) _
  have HB1 := Lib.hid hB0
  have HRR := Lib.hid hB1
  have HT1 := Lib.hid hb1
  have HS1 : Hid (((w.alloc (.cells (cliL X vb vc).toArray 29)).alloc (.cells (repL R vr).toArray 36)).heap.size = w.heap.size + 2) := by show _ = _; simp
  have HVB0 := Lib.hid hvb
  have HVC0 := Lib.hid hvc
  have HVR := Lib.hid hvr
  have HG := Lib.hid hg
  have HN : Hid (X.call.body.length ≤ 1000000 ∧ R.body.length ≤ 1000000) := ⟨hn, hnr⟩
  clear hB0 hB1 hb1 hvb hvc hvr hg hn hnr
  go_enter Try.func10, Try.ntmps10
  go_wp2_with (refine wpList_alloc_blk rfl rfl zero_client ?_; rintro g1 w2 hg1 hB2 hb2; refine Hid.out ?_)
  refine Lib.hid ?_
  have HG1 : Hid (w.heap.size + 2 ≤ g1) := by show _ ≤ _; rw [← hg1, HS1.out]; exact Nat.le_refl _
  have HB2 := Lib.hid (HB1.out.below hb2 HB1.out.lt)
  have HRR := Lib.hid (HRR.out.below hb2 HRR.out.lt)
  have HT2 := Lib.hid (below_call HT1.out HT1.out.size hb2)
  have HR2 := Lib.hid hB2
  clear hB2 hb2 hg1 HB1 HT1 HS1
  go_wp2_with (refine wpList_alloc_blk rfl rfl zero_reply ?_; rintro g2 w3 hg2 hB3 hb3; refine Hid.out ?_)
  refine Lib.hid ?_
  have HR6 := Lib.hid hB3
  have HG2 : Hid (g1 < g2) := by show _ < _; rw [← hg2]; exact HR2.out.lt
  have HB3 := Lib.hid (HB2.out.below hb3 HB2.out.lt)
  have HRR := Lib.hid (HRR.out.below hb3 HRR.out.lt)
  have HT := Lib.hid (below_call HT2.out HT2.out.size hb3)
  have HR4 := Lib.hid (HR2.out.below hb3 HR2.out.lt)
  clear hB3 hb3 hg2 HB2 HT2 HR2
  go_wp2_with (refine wpList_load_blk rfl (ty := 29) rfl rfl HB3.out Try.underlying29 rfl (info_client rfl) ?_; refine Hid.out ?_)
  refine Lib.hid ?_
  go_wp2_with fail
  refine (with_any (HVB0.out.below HT.out) (HVC0.out.below HT.out) (by have := HG.out.2.1; omega) HN.out.1).mono ?_
  rintro e w4 ⟨⟨g, rfl, hwk⟩, hb4⟩
  have HBB : Hid (w.heap.size + 2 ≤ g1 ∧ g1 < g2 ∧ g2 < w3.heap.size) := ⟨HG1.out, HG2.out, HR6.out.lt⟩
  have HR6 := Lib.hid (HR6.out.below hb4 HR6.out.lt)
  have HR4 := Lib.hid (HR4.out.below hb4 HR4.out.lt)
  have HRR := Lib.hid (HRR.out.below hb4 HRR.out.lt)
  have HT := Lib.hid (below_call HT.out HT.out.size hb4)
  have HWk := Lib.hid hwk
  generalize w3.heap.size = B at *
  clear hwk hb4 HB3 HG1 HG2
  go_wp2_with (refine wpList_load_blk rfl (ty := 36) rfl rfl HRR.out Try.underlying36 rfl (info_reply rfl) ?_; refine Hid.out ?_)
  refine Lib.hid ?_
  go_wp2_with fail
  refine (mine_any HWk.out).mono ?_
  rintro e w5 ⟨rfl, hb5⟩
  have HR6 := Lib.hid (HR6.out.below hb5 HR6.out.lt)
  have HR4 := Lib.hid (HR4.out.below hb5 HR4.out.lt)
  have HRR := Lib.hid (HRR.out.below hb5 HRR.out.lt)
  have HT := Lib.hid (below_call HT.out HT.out.size hb5)
  have HWk := Lib.hid (HWk.out.below hb5)
  clear hb5
  rw [decide_eq_true hm]
  have HM := Lib.hid hm
  clear hm
  have r3 : w5.cell? ⟨w.heap.size + 1, 3, none⟩ = some (.int .i64 R.res) := (HRR.out.cell 3).trans rfl
  have r5 : w5.cell? ⟨w.heap.size + 1, 5, none⟩ = some (.int .i64 R.own) := (HRR.out.cell 5).trans rfl
  obtain ⟨hBg, vb1, vc1, sv1, hb, hvb, hvc, hsv⟩ := HWk.out
  have HVB := Lib.hid hvb
  have c3 : w5.cell? ⟨g, 3, none⟩ = some vb1 := (hb.cell 3).trans rfl
  have c4 : w5.cell? ⟨g, 4, none⟩ = some (.int .i64 X.busy) := (hb.cell 4).trans rfl
  have c14 : w5.cell? ⟨g, 14, none⟩ = some (.int .i64 (X.at_ : Int)) := (hb.cell 14).trans rfl
  have f4 := hb.free 4
  have f14 := hb.free 14
  have HBG := Lib.hid hBg
  have HGL5 := Lib.hid hb.lt
  clear hb hvb hvc hsv hBg
  have q1 : decide (R.res = 1) = false := decide_eq_false fun h => hr (.inl h)
  have q2 : (R.res == 1) = false := beq_eq_false_iff_ne.2 fun h => hr (.inl h)
  have q3 : decide (R.res = 2) = false := decide_eq_false fun h => hr (.inr h)
  have q4 : (R.res == 2) = false := beq_eq_false_iff_ne.2 fun h => hr (.inr h)
  have HTX : Hid (takeX X now R = { cli := { X with busy := 0 }, sent := none, rep := some R }) := by
    show _ = _
    unfold takeX
    rw [if_neg (by simp [HM.out]), if_neg hr]
  have HP := Lib.hid (HWk.out.put (i := 4) (u := .int .i64 0) (Y := { X with busy := 0 }) (fun vb vc sv => by simp only [wkL, cliL, List.cons_append, List.nil_append, pz0, pz1, pz2]) rfl rfl)
  have hm6 : Mod (fun b => b = g) w5 (w5.setCell ⟨g, 4, none⟩ (.int .i64 0)) := HP.out.2
  have HRR : Hid (Blk (w5.setCell ⟨g, 4, none⟩ (.int .i64 0)) (w.heap.size + 1) 36 (repL R vr).toArray) := HRR.out.mod hm6 (by have := HBG.out; have := HBB.out; omega)
  have HVR6 : Hid (SlB (fun b => b < w.heap.size) (w5.setCell ⟨g, 4, none⟩ (.int .i64 0)) vr R.body) := ((HVR.out.weak (K' := fun b => b < w.heap.size) fun b h _ => h).below HT.out).mod hm6 fun b h e => by have h : b < w.heap.size := h; have := HBG.out; have := HBB.out; omega
  have r8 : (w5.setCell ⟨g, 4, none⟩ (.int .i64 0)).cell? ⟨w.heap.size + 1, 8, none⟩ = some vr := (HRR.out.cell 8).trans rfl
  have HR4 := Lib.hid (HR4.out.mod hm6 (by have := HBG.out; have := HBB.out; omega))
  have HR6 := Lib.hid (HR6.out.mod hm6 (by have := HBG.out; have := HBB.out; omega))
  have HT := Lib.hid (HT.out.trans (Mod.to_below (S := fun b => b = g) hm6 HT.out.size fun b hb e => by have := HBG.out; have := HBB.out; omega))
  have HWk := Lib.hid HP.out.1
  clear hm6 HP hr
  go_wp2_with fail
  clear r3 r5 c3 c4 c14 f4 f14 q1 q2 q3 q4
  generalize (w5.setCell ⟨g, 4, none⟩ (.int .i64 0)) = w6 at *
  refine (bclone_any HVR6.out (by have := HN.out.2; omega)).mono ?_
  rintro e w7 ⟨⟨v', rfl, hv'⟩, hb7⟩
  have HRR := Lib.hid (HRR.out.below hb7 HRR.out.lt)
  have HR4 := Lib.hid (HR4.out.below hb7 HR4.out.lt)
  have HR6 := Lib.hid (HR6.out.below hb7 HR6.out.lt)
  have HT := Lib.hid (below_call HT.out HT.out.size hb7)
  have HGW : Hid (g < w6.heap.size) := by
    obtain ⟨_, _, _, _, hb, _⟩ := HWk.out
    exact hb.lt
  have HWk := Lib.hid (HWk.out.below hb7)
  obtain ⟨A', c', e', _⟩ := id hv'
  subst e'
  obtain ⟨n', hn'⟩ : ∃ n', n' = R.body.length := ⟨_, rfl⟩
  rw [← hn'] at hv' ⊢
  clear hn' r8
  have HV7 := Lib.hid hv'
  have r8 : w7.cell? ⟨w.heap.size + 1, 8, none⟩ = some vr := (HRR.out.cell 8).trans rfl
  have f8 := HRR.out.free 8
  have hm8 : Mod (fun b => b = w.heap.size + 1) w7 (w7.setCell ⟨w.heap.size + 1, 8, none⟩ (.slice A' n' c')) := Mod.set (S := fun b => b = w.heap.size + 1) (Mod.refl _ _) (p := ⟨w.heap.size + 1, 8, none⟩) (fun _ => rfl) _
  have hR8 : Blk (w7.setCell ⟨w.heap.size + 1, 8, none⟩ (.slice A' n' c')) (w.heap.size + 1) 36 (repL R (.slice A' n' c')).toArray := HRR.out.put 8 (.slice A' n' c')
  have HRR := Lib.hid hR8
  have HR4 := Lib.hid (HR4.out.mod hm8 (by have := HBB.out; omega))
  have HR6 := Lib.hid (HR6.out.mod hm8 (by have := HBB.out; omega))
  have HT : Hid (Below w.heap.size w (w7.setCell ⟨w.heap.size + 1, 8, none⟩ (.slice A' n' c'))) := HT.out.trans (hm8.to_below HT.out.size fun b hb e => by omega)
  have HV8 : Hid (SlB (fun b => w6.heap.size ≤ b) (w7.setCell ⟨w.heap.size + 1, 8, none⟩ (.slice A' n' c')) (.slice A' n' c') R.body) := HV7.out.mod hm8 fun b h e => by have h : w6.heap.size ≤ b := h; have := HGW.out; have := HBG.out; have := HBB.out; omega
  have HWk : Hid (Wk B (w7.setCell ⟨w.heap.size + 1, 8, none⟩ (.slice A' n' c')) g { X with busy := 0 } now none) := by
    obtain ⟨h1, vb, vc, sv, h2, h3, h4, h5⟩ := HWk.out
    have hk : ∀ b, (B ≤ b ∧ b ≠ g) → ¬ b = w.heap.size + 1 := fun b h e => by have := HBB.out; omega
    exact ⟨h1, vb, vc, sv, h2.mod hm8 (by have := HBB.out; omega), h3.mod hm8 hk, h4.mod hm8 hk, h5.mod hm8 hk⟩
  clear hm8 hR8 hv' hb7
  go_wp2_with fail
  clear r8 f8
  generalize (w7.setCell ⟨w.heap.size + 1, 8, none⟩ (.slice A' n' c')) = w8 at *
  obtain ⟨hBg, vb, vc, sv, hb, hvb, hvc, hsv⟩ := HWk.out
  have HB := Lib.hid hb
  have HVB := Lib.hid hvb
  have HVC := Lib.hid hvc
  have HOB : Hid (vb.oneCell' = true ∧ vc.oneCell' = true) := ⟨hvb.one, hvc.one⟩
  clear hb hvb hvc hsv hBg
  refine PF.pf_begin (by kernel_rfl) ?_
  refine PF.pf_take0 0 (by kernel_rfl) rfl (fun _ _ _ _ _ h => h) (by kernel_rfl) (fun u => by go_simp; try rfl) ?_
  try simp only [Act.put, pz0, pz1, pz2]
  refine PF.pf_take0 1 (by kernel_rfl) rfl (fun _ _ _ _ _ h => h) (by kernel_rfl) (fun u => by go_simp; try rfl) ?_
  try simp only [Act.put, pz0, pz1, pz2]
  refine PF.pf_take0 2 (by kernel_rfl) rfl (fun _ _ _ _ _ h => h) (by kernel_rfl) (fun u => by go_simp; try rfl) ?_
  try simp only [Act.put, pz0, pz1, pz2]
  refine PF.pf_take1 3 (fun u => Blk u g 66 (wkL { X with busy := 0 } vb vc now sv).toArray) (by kernel_rfl) rfl (fun _ _ _ _ _ h => h) (by kernel_rfl) (HB.out) (fun u hu => by (exact exec_load_rg rfl rfl (show u.rangeAt g 0 (cliL { X with busy := 0 } vb vc) from hu.range 0 17) Try.underlying29 rfl (info_client17 rfl))) ?_
  try simp only [Act.put, pz0, pz1, pz2]
  refine PF.pf_take1 4 (fun u => Blk u (w.heap.size + 1) 36 (repL R (.slice A' n' c')).toArray) (by kernel_rfl) rfl (fun _ _ _ _ _ h => h) (by kernel_rfl) (HRR.out) (fun u hu => by (exact exec_load_blk rfl rfl hu Try.underlying36 rfl (info_reply rfl))) ?_
  try simp only [Act.put, pz0, pz1, pz2]
  refine PF.pf_exec 5 (by kernel_rfl) rfl (by kernel_rfl) (fun K hK => ?_)
  refine wp_store_blk rfl rfl rfl HR4.out rfl (info_client rfl) (cliL_one HOB.out.1 HOB.out.2) ?_
  rintro w91 hB91 hm91
  have hR91 := HRR.out.mod (((Mod.refl _ _).drew).trans hm91) (by have := HBB.out; omega)
  have HM91 := Lib.hid hm91
  have HB91 := Lib.hid hB91
  clear hB91 hm91
  refine hK _ _ (by repeat (first | exact PF.owes_nil | refine PF.owes_left ?_ | refine PF.owes_no (by decide +kernel) ?_ | refine PF.owes_yes (by exact hR91) ?_)) ?_
  clear hK K
  try simp only [Act.put, pz0, pz1, pz2]
  refine PF.pf_take0 6 (by kernel_rfl) rfl (fun _ _ _ _ _ h => h) (by kernel_rfl) (fun u => by go_simp; try rfl) ?_
  try simp only [Act.put, pz0, pz1, pz2]
  refine PF.pf_exec 7 (by kernel_rfl) rfl (by kernel_rfl) (fun K hK => ?_)
  refine wp_store_blk rfl rfl rfl (HR6.out.mod (((Mod.refl _ _).drew).trans HM91.out) (by have := HBB.out; omega)) rfl (info_reply rfl) (repL_one rfl) ?_
  rintro w92 hB92 hm92
  refine hK _ _ (by repeat (first | exact PF.owes_nil | refine PF.owes_left ?_ | refine PF.owes_no (by decide +kernel) ?_ | refine PF.owes_yes (by first | rfl | assumption | go_simp) ?_)) ?_
  clear hK K
  try simp only [Act.put, pz0, pz1, pz2]
  refine PF.pf_take0 8 (by kernel_rfl) rfl (fun _ _ _ _ _ h => h) (by kernel_rfl) (fun u => by go_simp; try rfl) ?_
  try simp only [Act.put, pz0, pz1, pz2]
  refine PF.pf_done (by kernel_rfl) ?_
  go_wp2_with fail
  have hB4 := HB91.out.mod hm92 (by have := HBB.out; omega)
  refine bodyPost_ret (results_ctct Try.results10 _ hB4 rfl Try.underlying29 rfl (info_client rfl) hB92 rfl Try.underlying36 rfl (info_reply rfl)) rfl ?_
  have h1 : Mod (fun b => b = g1 ∨ b = g2) w8 w92 := (((Mod.refl _ _).drew).trans (HM91.out.mono fun b _ e => .inl e)).trans (hm92.mono fun b _ e => .inr e)
  have hbb := HBB.out
  have hbg := HBG.out
  have hgw := HGW.out
  have hk : ∀ b, (B ≤ b ∧ b ≠ g) → ¬ (b = g1 ∨ b = g2) := fun b h e => by omega
  have hw : ∀ b, (B ≤ b ∧ b ≠ g) → w.heap.size ≤ b := fun b h => by omega
  rw [HTX.out]
  exact ⟨⟨vb, vc, _, _, rfl, (HVB.out.mod h1 hk).weak fun b _ h => hw b h, (HVC.out.mod h1 hk).weak fun b _ h => hw b h, rfl, (HV8.out.mod h1 fun b h e => by have h : w6.heap.size ≤ b := h; omega).weak fun b _ h => by have h : w6.heap.size ≤ b := h; omega⟩, HT.out.trans (h1.to_below HT.out.size fun b hb e => by omega)⟩
theorem take_any {K K2 : Nat → Prop} {w : World} {X : Cli} {vb vc : Value} {now : Nat} {R : Rep} {vr : Value} (hvb : SlI K w vb X.bs) (hvc : SlB K w vc X.call.body) (hvr : SlB K2 w vr R.body) (hg : Good X) (hn : X.call.body.length ≤ 1000000) (hnr : R.body.length ≤ 1000000) :
    Calls Try.prog 10 #[.agg (cliL X vb vc).toArray, .int .u64 (now : Int), .agg (repL R vr).toArray] w fun e w' => TurnPost (fun b => w.heap.size ≤ b) e w' (takeX X now R) ∧ Below w.heap.size w w' := by
  by_cases hm : mineX X R
  · by_cases h1 : R.res = 1
    · cases hf : X.bs.findIdx? (fun b => decide (b = R.own)) with
      | none => exact take_miss1 hvb hvc hvr hg hn hnr hm h1 hf
      | some k =>
        by_cases hk : k = X.at_
        · exact take_same1 hvb hvc hvr hg hn hnr hm h1 hf hk
        · exact take_to1 hvb hvc hvr hg hn hnr hm h1 hf hk
    · by_cases h2 : R.res = 2
      · cases hf : X.bs.findIdx? (fun b => decide (b = R.own)) with
        | none => exact take_miss2 hvb hvc hvr hg hn hnr hm h2 hf
        | some k =>
          by_cases hk : k = X.at_
          · exact take_same2 hvb hvc hvr hg hn hnr hm h2 hf hk
          · exact take_to2 hvb hvc hvr hg hn hnr hm h2 hf hk
      · exact take_end hvb hvc hvr hg hn hnr hm fun h => h.elim h1 h2
  · exact take_no hvb hvc hvr hg hn hnr hm
end Go.Proofs.Ytpbaofabflgpkaa
