/- The chapter's examples. -/
import Derived.Test.YtpbaofabflgpkaaCliT
namespace Go.Proofs.Ytpbaofabflgpkaa
set_option linter.unusedVariables false
set_option linter.unusedSimpArgs false
open Go.RowKit

section
variable {P : Program} {ops : Array Oper} {rest : List Oper} {op : Oper} {a : Act} {w : World} {Q : Exit → Act → World → Prop}
theorem wpList_build4 (hgd : op.guard = none) {ty : TypeId} {i j k l : Nat} {p q r s : Operand} (ho : op.op = .build ty #[(i, p), (j, q), (k, r), (l, s)]) {x y z u v : Value} (hx : a.eval p = x) (hy : a.eval q = y) (hz : a.eval r = z) (hu : a.eval s = u)
    (hb : (Instr.build ty #[(i, x), (j, y), (k, z), (l, u)]).run P w = .ok v w) (h : wpList P ops Q rest (a.put op.dst v) w) : wpList P ops Q (op :: rest) a w :=
  wpList_plain hgd fun _ hK => by
    unfold Oper.wp execOp
    simp only [ho, Sem.run_bind, List.map_toArray, List.map_cons, List.map_nil, hx, hy, hz, hu, hb, Result.andThen_ok, Sem.run_pure]
    exact hK _ _ h
theorem wpList_build5 (hgd : op.guard = none) {ty : TypeId} {i j k l m : Nat} {p q r s t : Operand} (ho : op.op = .build ty #[(i, p), (j, q), (k, r), (l, s), (m, t)]) {x y z u z2 v : Value} (hx : a.eval p = x) (hy : a.eval q = y) (hz : a.eval r = z) (hu : a.eval s = u) (ht : a.eval t = z2)
    (hb : (Instr.build ty #[(i, x), (j, y), (k, z), (l, u), (m, z2)]).run P w = .ok v w) (h : wpList P ops Q rest (a.put op.dst v) w) : wpList P ops Q (op :: rest) a w :=
  wpList_plain hgd fun _ hK => by
    unfold Oper.wp execOp
    simp only [ho, Sem.run_bind, List.map_toArray, List.map_cons, List.map_nil, hx, hy, hz, hu, ht, hb, Result.andThen_ok, Sem.run_pure]
    exact hK _ _ h
end
theorem build_r1 (w : World) : (Instr.build 36 #[(0, .int .i64 9), (1, .int .u64 1), (2, .int .u64 1), (3, .int .i64 1), (5, .int .i64 5)]).run Try.prog w = .ok (.agg (repL aR1 (.slice none 0 0)).toArray) w := by kernel_rfl
theorem build_r2 (w : World) : (Instr.build 36 #[(0, .int .i64 9), (1, .int .u64 1), (2, .int .u64 1), (3, .int .i64 1)]).run Try.prog w = .ok (.agg (repL aR2 (.slice none 0 0)).toArray) w := by kernel_rfl
theorem build_r3 (w : World) : (Instr.build 36 #[(0, .int .i64 9), (1, .int .u64 1), (2, .int .u64 1), (4, .int .u64 7)]).run Try.prog w = .ok (.agg (repL aR3 (.slice none 0 0)).toArray) w := by kernel_rfl

set_option maxRecDepth 100000 in
set_option maxHeartbeats 16000000 in
theorem cawake_any (w : World) : Calls Try.prog 7 #[] w fun e w' => e = .returned (.bool true) ∧ Below w.heap.size w w' := by
  have HA : Hid (SlI (fun _ => True) (w.alloc (.cells #[.int .i64 4, .int .i64 5] 3)) (.slice (some ⟨w.heap.size, 0, none⟩) 2 2) [4, 5]) := ⟨_, 2, rfl, Reads.block w 3 [.int .i64 4, .int .i64 5], by decide, by decide, fun _ _ _ => trivial⟩
  have HT := Lib.hid (below_new w (.cells #[.int .i64 4, .int .i64 5] 3))
  go_enter Try.func7, Try.ntmps7
  go_wp2_with fail
  generalize (w.alloc (.cells #[.int .i64 4, .int .i64 5] 3)) = w1 at *
  refine (new_any (nid := 9) (inc := 1) (bs := [4, 5]) HA.out (by decide)).mono ?_
  rintro e w2 ⟨hp, hb2⟩
  have HT := Lib.hid (below_call HT.out HT.out.size hb2)
  clear hb2
  obtain ⟨vb, he, hvb⟩ : ∃ vb, e = .returned (.tuple #[.agg (cliL aX0 vb (.slice none 0 0)).toArray, .int .i64 0]) ∧ SlI (fun b => w1.heap.size ≤ b) w2 vb aX0.bs := by
    cases hp with
    | bad h _ => exact absurd a_ok h
    | good _ vb he hvb => exact ⟨vb, he, hvb⟩
  clear hp
  subst he
  have HVB := Lib.hid hvb
  have HOB := Lib.hid hvb.one
  clear hvb HA
  go_wp2_with (refine wpList_alloc_blk rfl rfl zero_client ?_; rintro g w3 hg hB3 hb3; refine Hid.out ?_)
  refine Lib.hid ?_
  have HG : Hid (w.heap.size ≤ g) := by show _ ≤ _; rw [← hg]; exact HT.out.size
  have HN : Hid (∀ b, b < w2.heap.size → b ≠ g) := fun b hb => by omega
  have HT := Lib.hid (below_call HT.out HT.out.size hb3)
  have HVB := Lib.hid ((HVB.out.weak (K' := fun b => b ≠ g) fun b hb _ => HN.out b hb).below hb3)
  have HB := Lib.hid hB3
  clear hb3 hB3 hg HN
  go_wp2_with (refine wpList_store_blk rfl rfl rfl rfl HB.out rfl (info_client rfl) (cliL_one HOB.out rfl) ?_; rintro w4 hB4 hm4; refine Hid.out ?_)
  refine Lib.hid ?_
  have HC : Hid (Cv (fun b => b ≠ g) w4 g aX0) := ⟨vb, _, hB4, HVB.out.mod hm4 fun b h => h, SlB.nil _ _⟩
  have HT := Lib.hid (HT.out.trans (hm4.to_below HT.out.size fun b hb e => by have := HG.out; omega))
  clear hB4 hm4 HVB HB HOB
  -- Start
  obtain ⟨vb, vc, hB, hvb, hvc⟩ := HC.out
  have HB := Lib.hid hB
  have HVB := Lib.hid hvb
  have HVC := Lib.hid hvc
  clear hB hvb hvc
  go_wp2_with (refine wpList_load_blk rfl (ty := 29) rfl rfl HB.out Try.underlying29 rfl (info_client rfl) ?_; refine Hid.out ?_)
  refine Lib.hid ?_
  go_wp2_with (refine wpList_build3 (x := .int .i64 1) (y := .int .i64 1) (z := .int .u64 1) (v := .agg (calL aC (.slice none 0 0)).toArray) rfl rfl rfl rfl rfl (build_call3 _) ?_; refine Hid.out ?_)
  refine Lib.hid ?_
  go_wp2_with fail
  refine (start_any (X := aX0) (now := 0) (D := aC) HVB.out HVC.out (SlB.nil (fun _ => True) _) (a_good 0 (by decide) aX0 rfl rfl (by decide)) (by decide) (by decide) (by decide)).mono ?_
  rintro e w5 ⟨hp, hb⟩
  unfold StartPost at hp
  rw [if_pos a_startE, a_start, a_sent] at hp
  obtain ⟨vb', vc', sv, rfl, hvb, hvc, hsv⟩ := hp
  have HT := Lib.hid (below_call HT.out HT.out.size hb)
  have HGL := Lib.hid HB.out.lt
  have HB := Lib.hid (HB.out.below hb HB.out.lt)
  have HC := Lib.hid (HC.out.below hb)
  have HVB := Lib.hid (hvb.weak (K' := fun b => b ≠ g) fun b _ h => by have := HGL.out; have h : w4.heap.size ≤ b := h; show b ≠ g; omega)
  have HVC := Lib.hid (hvc.weak (K' := fun b => b ≠ g) fun b _ h => by have := HGL.out; have h : w4.heap.size ≤ b := h; show b ≠ g; omega)
  have HO : Hid (vb'.oneCell' = true ∧ vc'.oneCell' = true) := ⟨hvb.one, hvc.one⟩
  have HS1 := Lib.hid (hsv.weak (K' := fun b => b ≠ g) fun b _ h => by have := HGL.out; have h : w4.heap.size ≤ b := h; show b ≠ g; omega)
  obtain ⟨sHS1, kHS1, _, eHS1, _⟩ := HS1.out.cells
  subst eHS1
  clear hb hvb hvc hsv
  have HM := Lib.hid (Mod.refl (fun b => b = g) w5)
  have HM0 := Lib.hid (Below.refl w5.heap.size w5)
  go_wp2_with (refine wpList_store_blk rfl rfl rfl rfl HB.out rfl (info_client rfl) (cliL_one HO.out.1 HO.out.2) ?_; rintro w6 hB hm; refine Hid.out ?_)
  refine Lib.hid ?_
  have HB := Lib.hid hB
  have HM := Lib.hid (HM.out.trans hm)
  clear hB hm
  have HT := Lib.hid (HT.out.trans (HM.out.to_below HT.out.size fun b hb e => by have := HG.out; omega))
  have HC : Hid (Cv (fun b => b ≠ g) w6 g aX1) := ⟨vb', vc', HB.out, HVB.out.mod HM.out fun b h => h, HVC.out.mod HM.out fun b h => h⟩
  have HS1 := Lib.hid (HS1.out.mod HM.out fun b h => h)
  clear HB HVB HVC HO HM HM0 HGL
  -- Take
  obtain ⟨vb, vc, hB, hvb, hvc⟩ := HC.out
  have HB := Lib.hid hB
  have HVB := Lib.hid hvb
  have HVC := Lib.hid hvc
  clear hB hvb hvc
  go_wp2_with (refine wpList_load_blk rfl (ty := 29) rfl rfl HB.out Try.underlying29 rfl (info_client rfl) ?_; refine Hid.out ?_)
  refine Lib.hid ?_
  go_wp2_with (refine wpList_build5 (x := .int .i64 9) (y := .int .u64 1) (z := .int .u64 1) (u := .int .i64 1) (z2 := .int .i64 5) (v := .agg (repL aR1 (.slice none 0 0)).toArray) rfl rfl rfl rfl rfl rfl rfl (build_r1 _) ?_; refine Hid.out ?_)
  refine Lib.hid ?_
  go_wp2_with fail
  have hT := take_any (X := aX1) (now := 1) (R := aR1) HVB.out HVC.out (SlB.nil (fun _ => True) _) (a_good 0 (by decide) aX1 rfl rfl (by decide)) (by decide) (by decide)
  rw [a_take1] at hT
  refine hT.mono ?_
  clear hT
  rintro e w7 ⟨⟨vb', vc', sv, vr, rfl, hvb, hvc, hsv, hvr⟩, hb⟩
  have HT := Lib.hid (below_call HT.out HT.out.size hb)
  have HGL := Lib.hid HB.out.lt
  have HB := Lib.hid (HB.out.below hb HB.out.lt)
  have HC := Lib.hid (HC.out.below hb)
  have HS1 := Lib.hid (HS1.out.below hb)
  have HVB := Lib.hid (hvb.weak (K' := fun b => b ≠ g) fun b _ h => by have := HGL.out; have h : w6.heap.size ≤ b := h; show b ≠ g; omega)
  have HVC := Lib.hid (hvc.weak (K' := fun b => b ≠ g) fun b _ h => by have := HGL.out; have h : w6.heap.size ≤ b := h; show b ≠ g; omega)
  have HO : Hid (vb'.oneCell' = true ∧ vc'.oneCell' = true) := ⟨hvb.one, hvc.one⟩
  have HVR := Lib.hid (hvr.weak (K' := fun b => b ≠ g) fun b _ h => by have := HGL.out; have h : w6.heap.size ≤ b := h; show b ≠ g; omega)
  have HOR := Lib.hid hvr.one
  have HS2 := Lib.hid (hsv.weak (K' := fun b => b ≠ g) fun b _ h => by have := HGL.out; have h : w6.heap.size ≤ b := h; show b ≠ g; omega)
  obtain ⟨sHS2, kHS2, _, eHS2, _⟩ := HS2.out.cells
  subst eHS2
  clear hb hvb hvc hsv hvr
  have HM := Lib.hid (Mod.refl (fun b => b = g) w7)
  have HM0 := Lib.hid (Below.refl w7.heap.size w7)
  go_wp2_with (refine wpList_alloc_blk rfl rfl zero_reply ?_; rintro m7 w8 hg hB hb; refine Hid.out ?_)
  refine Lib.hid ?_
  have HNm7 : Hid (m7 ≠ g ∧ w7.heap.size ≤ m7) := by { show _ ∧ _; have := HM0.out.size; have := HB.out.lt; omega }
  have HBm7 := Lib.hid hB
  have HB := Lib.hid (HB.out.below hb HB.out.lt)
  have HM := Lib.hid (HM.out.trans (Mod.below hb (Nat.le_refl _)))
  have HM0 := Lib.hid (below_call HM0.out HM0.out.size hb)
  clear hg hB hb
  go_wp2_with (refine wpList_store_blk rfl rfl rfl rfl HB.out rfl (info_client rfl) (cliL_one HO.out.1 HO.out.2) ?_; rintro w9 hB hm; refine Hid.out ?_)
  refine Lib.hid ?_
  have HB := Lib.hid hB
  have HBm7 := Lib.hid (HBm7.out.mod hm (by have := HNm7.out; omega))
  have HM := Lib.hid (HM.out.trans hm)
  clear hB hm
  go_wp2_with (refine wpList_store_blk rfl rfl rfl rfl HBm7.out rfl (info_reply rfl) (repL_one HOR.out) ?_; rintro w10 hB hm; refine Hid.out ?_)
  refine Lib.hid ?_
  have HB := Lib.hid (HB.out.mod hm (by have := HNm7.out; omega))
  have HBm7 := Lib.hid hB
  have HM := Lib.hid (HM.out.join hm fun b hb e => absurd (show b = m7 from e) (by have := HNm7.out; omega))
  clear hB hm
  have HT := Lib.hid (HT.out.trans (HM.out.to_below HT.out.size fun b hb e => by have := HG.out; omega))
  have HC : Hid (Cv (fun b => b ≠ g) w10 g aX2) := ⟨vb', vc', HB.out, HVB.out.mod HM.out fun b h => h, HVC.out.mod HM.out fun b h => h⟩
  have HS1 := Lib.hid (HS1.out.mod HM.out fun b h => h)
  have HS2 := Lib.hid (HS2.out.mod HM.out fun b h => h)
  clear HB HVB HVC HO HM HM0 HGL HBm7 HNm7 HVR HOR
  -- Take
  obtain ⟨vb, vc, hB, hvb, hvc⟩ := HC.out
  have HB := Lib.hid hB
  have HVB := Lib.hid hvb
  have HVC := Lib.hid hvc
  clear hB hvb hvc
  go_wp2_with (refine wpList_load_blk rfl (ty := 29) rfl rfl HB.out Try.underlying29 rfl (info_client rfl) ?_; refine Hid.out ?_)
  refine Lib.hid ?_
  go_wp2_with (refine wpList_build4 (x := .int .i64 9) (y := .int .u64 1) (z := .int .u64 1) (u := .int .i64 1) (v := .agg (repL aR2 (.slice none 0 0)).toArray) rfl rfl rfl rfl rfl rfl (build_r2 _) ?_; refine Hid.out ?_)
  refine Lib.hid ?_
  go_wp2_with fail
  have hT := take_any (X := aX2) (now := 1) (R := aR2) HVB.out HVC.out (SlB.nil (fun _ => True) _) (a_good 1 (by decide) aX2 rfl rfl (by decide)) (by decide) (by decide)
  rw [a_take2] at hT
  refine hT.mono ?_
  clear hT
  rintro e w11 ⟨⟨vb', vc', sv, vr, rfl, hvb, hvc, hsv, hvr⟩, hb⟩
  have HT := Lib.hid (below_call HT.out HT.out.size hb)
  have HGL := Lib.hid HB.out.lt
  have HB := Lib.hid (HB.out.below hb HB.out.lt)
  have HC := Lib.hid (HC.out.below hb)
  have HS1 := Lib.hid (HS1.out.below hb)
  have HS2 := Lib.hid (HS2.out.below hb)
  have HVB := Lib.hid (hvb.weak (K' := fun b => b ≠ g) fun b _ h => by have := HGL.out; have h : w10.heap.size ≤ b := h; show b ≠ g; omega)
  have HVC := Lib.hid (hvc.weak (K' := fun b => b ≠ g) fun b _ h => by have := HGL.out; have h : w10.heap.size ≤ b := h; show b ≠ g; omega)
  have HO : Hid (vb'.oneCell' = true ∧ vc'.oneCell' = true) := ⟨hvb.one, hvc.one⟩
  have HVR := Lib.hid (hvr.weak (K' := fun b => b ≠ g) fun b _ h => by have := HGL.out; have h : w10.heap.size ≤ b := h; show b ≠ g; omega)
  have HOR := Lib.hid hvr.one
  obtain rfl : sv = .slice none 0 0 := hsv
  clear hb hvb hvc hvr
  have HM := Lib.hid (Mod.refl (fun b => b = g) w11)
  have HM0 := Lib.hid (Below.refl w11.heap.size w11)
  go_wp2_with (refine wpList_alloc_blk rfl rfl zero_reply ?_; rintro m11 w12 hg hB hb; refine Hid.out ?_)
  refine Lib.hid ?_
  have HNm11 : Hid (m11 ≠ g ∧ w11.heap.size ≤ m11) := by { show _ ∧ _; have := HM0.out.size; have := HB.out.lt; omega }
  have HBm11 := Lib.hid hB
  have HB := Lib.hid (HB.out.below hb HB.out.lt)
  have HM := Lib.hid (HM.out.trans (Mod.below hb (Nat.le_refl _)))
  have HM0 := Lib.hid (below_call HM0.out HM0.out.size hb)
  clear hg hB hb
  go_wp2_with (refine wpList_store_blk rfl rfl rfl rfl HB.out rfl (info_client rfl) (cliL_one HO.out.1 HO.out.2) ?_; rintro w13 hB hm; refine Hid.out ?_)
  refine Lib.hid ?_
  have HB := Lib.hid hB
  have HBm11 := Lib.hid (HBm11.out.mod hm (by have := HNm11.out; omega))
  have HM := Lib.hid (HM.out.trans hm)
  clear hB hm
  go_wp2_with (refine wpList_store_blk rfl rfl rfl rfl HBm11.out rfl (info_reply rfl) (repL_one HOR.out) ?_; rintro w14 hB hm; refine Hid.out ?_)
  refine Lib.hid ?_
  have HB := Lib.hid (HB.out.mod hm (by have := HNm11.out; omega))
  have HBm11 := Lib.hid hB
  have HM := Lib.hid (HM.out.join hm fun b hb e => absurd (show b = m11 from e) (by have := HNm11.out; omega))
  clear hB hm
  have HT := Lib.hid (HT.out.trans (HM.out.to_below HT.out.size fun b hb e => by have := HG.out; omega))
  have HC : Hid (Cv (fun b => b ≠ g) w14 g aX3) := ⟨vb', vc', HB.out, HVB.out.mod HM.out fun b h => h, HVC.out.mod HM.out fun b h => h⟩
  have HS1 := Lib.hid (HS1.out.mod HM.out fun b h => h)
  have HS2 := Lib.hid (HS2.out.mod HM.out fun b h => h)
  clear HB HVB HVC HO HM HM0 HGL HBm11 HNm11 HVR HOR
  -- Tick
  obtain ⟨vb, vc, hB, hvb, hvc⟩ := HC.out
  have HB := Lib.hid hB
  have HVB := Lib.hid hvb
  have HVC := Lib.hid hvc
  clear hB hvb hvc
  go_wp2_with (refine wpList_load_blk rfl (ty := 29) rfl rfl HB.out Try.underlying29 rfl (info_client rfl) ?_; refine Hid.out ?_)
  refine Lib.hid ?_
  go_wp2_with fail
  have hT := tick_any (X := aX3) (now := 3) HVB.out HVC.out (a_good 0 (by decide) aX3 rfl rfl (by decide)) (by decide) (by decide)
  rw [a_tick3] at hT
  refine hT.mono ?_
  clear hT
  rintro e w15 ⟨⟨vb', vc', sv, vr, rfl, hvb, hvc, hsv, hvr⟩, hb⟩
  have HT := Lib.hid (below_call HT.out HT.out.size hb)
  have HGL := Lib.hid HB.out.lt
  have HB := Lib.hid (HB.out.below hb HB.out.lt)
  have HC := Lib.hid (HC.out.below hb)
  have HS1 := Lib.hid (HS1.out.below hb)
  have HS2 := Lib.hid (HS2.out.below hb)
  have HVB := Lib.hid (hvb.weak (K' := fun b => b ≠ g) fun b _ h => by have := HGL.out; have h : w14.heap.size ≤ b := h; show b ≠ g; omega)
  have HVC := Lib.hid (hvc.weak (K' := fun b => b ≠ g) fun b _ h => by have := HGL.out; have h : w14.heap.size ≤ b := h; show b ≠ g; omega)
  have HO : Hid (vb'.oneCell' = true ∧ vc'.oneCell' = true) := ⟨hvb.one, hvc.one⟩
  have HVR := Lib.hid (hvr.weak (K' := fun b => b ≠ g) fun b _ h => by have := HGL.out; have h : w14.heap.size ≤ b := h; show b ≠ g; omega)
  have HOR := Lib.hid hvr.one
  obtain rfl : sv = .slice none 0 0 := hsv
  clear hb hvb hvc hvr
  have HM := Lib.hid (Mod.refl (fun b => b = g) w15)
  have HM0 := Lib.hid (Below.refl w15.heap.size w15)
  go_wp2_with (refine wpList_alloc_blk rfl rfl zero_client ?_; rintro n15 w16 hg hB hb; refine Hid.out ?_)
  refine Lib.hid ?_
  have HNn15 : Hid (n15 ≠ g ∧ w15.heap.size ≤ n15) := by { show _ ∧ _; have := HM0.out.size; have := HB.out.lt; omega }
  have HBn15 := Lib.hid hB
  have HB := Lib.hid (HB.out.below hb HB.out.lt)
  have HM := Lib.hid (HM.out.trans (Mod.below hb (Nat.le_refl _)))
  have HM0 := Lib.hid (below_call HM0.out HM0.out.size hb)
  clear hg hB hb
  go_wp2_with (refine wpList_alloc_blk rfl rfl zero_reply ?_; rintro m15 w17 hg hB hb; refine Hid.out ?_)
  refine Lib.hid ?_
  have HNm15 : Hid (m15 ≠ g ∧ w15.heap.size ≤ m15) := by { show _ ∧ _; have := HM0.out.size; have := HB.out.lt; omega }
  have HXn15m15 : Hid (n15 ≠ m15) := by { show _ ≠ _; have := HBn15.out.lt; omega }
  have HBn15 := Lib.hid (HBn15.out.below hb HBn15.out.lt)
  have HBm15 := Lib.hid hB
  have HB := Lib.hid (HB.out.below hb HB.out.lt)
  have HM := Lib.hid (HM.out.trans (Mod.below hb (Nat.le_refl _)))
  have HM0 := Lib.hid (below_call HM0.out HM0.out.size hb)
  clear hg hB hb
  go_wp2_with (refine wpList_store_blk rfl rfl rfl rfl HBn15.out rfl (info_client rfl) (cliL_one HO.out.1 HO.out.2) ?_; rintro w18 hB hm; refine Hid.out ?_)
  refine Lib.hid ?_
  have HB := Lib.hid (HB.out.mod hm (by have := HNn15.out; omega))
  have HBm15 := Lib.hid (HBm15.out.mod hm (by have := HXn15m15.out; omega))
  have HBn15 := Lib.hid hB
  have HM := Lib.hid (HM.out.join hm fun b hb e => absurd (show b = n15 from e) (by have := HNn15.out; omega))
  have HM0 := Lib.hid (HM0.out.trans (hm.to_below HM0.out.size fun b hb e => absurd (show b = n15 from e) (by have := HNn15.out; omega)))
  clear hB hm
  go_wp2_with (refine wpList_store_blk rfl rfl rfl rfl HBm15.out rfl (info_reply rfl) (repL_one HOR.out) ?_; rintro w19 hB hm; refine Hid.out ?_)
  refine Lib.hid ?_
  have HB := Lib.hid (HB.out.mod hm (by have := HNm15.out; omega))
  have HBn15 := Lib.hid (HBn15.out.mod hm (by have := HXn15m15.out; omega))
  have HBm15 := Lib.hid hB
  have HM := Lib.hid (HM.out.join hm fun b hb e => absurd (show b = m15 from e) (by have := HNm15.out; omega))
  have HM0 := Lib.hid (HM0.out.trans (hm.to_below HM0.out.size fun b hb e => absurd (show b = m15 from e) (by have := HNm15.out; omega)))
  clear hB hm
  have HT := Lib.hid (below_call HT.out HT.out.size HM0.out)
  have HC := Lib.hid (HC.out.below HM0.out)
  have HS1 := Lib.hid (HS1.out.below HM0.out)
  have HS2 := Lib.hid (HS2.out.below HM0.out)
  clear HB HVB HVC HO HM HM0 HGL HBn15 HNn15 HBm15 HNm15 HVR HOR HXn15m15
  -- Tick
  obtain ⟨vb, vc, hB, hvb, hvc⟩ := HC.out
  have HB := Lib.hid hB
  have HVB := Lib.hid hvb
  have HVC := Lib.hid hvc
  clear hB hvb hvc
  go_wp2_with (refine wpList_load_blk rfl (ty := 29) rfl rfl HB.out Try.underlying29 rfl (info_client rfl) ?_; refine Hid.out ?_)
  refine Lib.hid ?_
  go_wp2_with fail
  have hT := tick_any (X := aX3) (now := 4) HVB.out HVC.out (a_good 0 (by decide) aX3 rfl rfl (by decide)) (by decide) (by decide)
  rw [a_tick4] at hT
  refine hT.mono ?_
  clear hT
  rintro e w20 ⟨⟨vb', vc', sv, vr, rfl, hvb, hvc, hsv, hvr⟩, hb⟩
  have HT := Lib.hid (below_call HT.out HT.out.size hb)
  have HGL := Lib.hid HB.out.lt
  have HB := Lib.hid (HB.out.below hb HB.out.lt)
  have HC := Lib.hid (HC.out.below hb)
  have HS1 := Lib.hid (HS1.out.below hb)
  have HS2 := Lib.hid (HS2.out.below hb)
  have HVB := Lib.hid (hvb.weak (K' := fun b => b ≠ g) fun b _ h => by have := HGL.out; have h : w19.heap.size ≤ b := h; show b ≠ g; omega)
  have HVC := Lib.hid (hvc.weak (K' := fun b => b ≠ g) fun b _ h => by have := HGL.out; have h : w19.heap.size ≤ b := h; show b ≠ g; omega)
  have HO : Hid (vb'.oneCell' = true ∧ vc'.oneCell' = true) := ⟨hvb.one, hvc.one⟩
  have HVR := Lib.hid (hvr.weak (K' := fun b => b ≠ g) fun b _ h => by have := HGL.out; have h : w19.heap.size ≤ b := h; show b ≠ g; omega)
  have HOR := Lib.hid hvr.one
  have HS3 := Lib.hid (hsv.weak (K' := fun b => b ≠ g) fun b _ h => by have := HGL.out; have h : w19.heap.size ≤ b := h; show b ≠ g; omega)
  obtain ⟨sHS3, kHS3, _, eHS3, _⟩ := HS3.out.cells
  subst eHS3
  clear hb hvb hvc hsv hvr
  have HM := Lib.hid (Mod.refl (fun b => b = g) w20)
  have HM0 := Lib.hid (Below.refl w20.heap.size w20)
  go_wp2_with (refine wpList_alloc_blk rfl rfl zero_reply ?_; rintro m20 w21 hg hB hb; refine Hid.out ?_)
  refine Lib.hid ?_
  have HNm20 : Hid (m20 ≠ g ∧ w20.heap.size ≤ m20) := by { show _ ∧ _; have := HM0.out.size; have := HB.out.lt; omega }
  have HBm20 := Lib.hid hB
  have HB := Lib.hid (HB.out.below hb HB.out.lt)
  have HM := Lib.hid (HM.out.trans (Mod.below hb (Nat.le_refl _)))
  have HM0 := Lib.hid (below_call HM0.out HM0.out.size hb)
  clear hg hB hb
  go_wp2_with (refine wpList_store_blk rfl rfl rfl rfl HB.out rfl (info_client rfl) (cliL_one HO.out.1 HO.out.2) ?_; rintro w22 hB hm; refine Hid.out ?_)
  refine Lib.hid ?_
  have HB := Lib.hid hB
  have HBm20 := Lib.hid (HBm20.out.mod hm (by have := HNm20.out; omega))
  have HM := Lib.hid (HM.out.trans hm)
  clear hB hm
  go_wp2_with (refine wpList_store_blk rfl rfl rfl rfl HBm20.out rfl (info_reply rfl) (repL_one HOR.out) ?_; rintro w23 hB hm; refine Hid.out ?_)
  refine Lib.hid ?_
  have HB := Lib.hid (HB.out.mod hm (by have := HNm20.out; omega))
  have HBm20 := Lib.hid hB
  have HM := Lib.hid (HM.out.join hm fun b hb e => absurd (show b = m20 from e) (by have := HNm20.out; omega))
  clear hB hm
  have HT := Lib.hid (HT.out.trans (HM.out.to_below HT.out.size fun b hb e => by have := HG.out; omega))
  have HC : Hid (Cv (fun b => b ≠ g) w23 g aX4) := ⟨vb', vc', HB.out, HVB.out.mod HM.out fun b h => h, HVC.out.mod HM.out fun b h => h⟩
  have HS1 := Lib.hid (HS1.out.mod HM.out fun b h => h)
  have HS2 := Lib.hid (HS2.out.mod HM.out fun b h => h)
  have HS3 := Lib.hid (HS3.out.mod HM.out fun b h => h)
  clear HB HVB HVC HO HM HM0 HGL HBm20 HNm20 HVR HOR
  -- Take
  obtain ⟨vb, vc, hB, hvb, hvc⟩ := HC.out
  have HB := Lib.hid hB
  have HVB := Lib.hid hvb
  have HVC := Lib.hid hvc
  clear hB hvb hvc
  go_wp2_with (refine wpList_load_blk rfl (ty := 29) rfl rfl HB.out Try.underlying29 rfl (info_client rfl) ?_; refine Hid.out ?_)
  refine Lib.hid ?_
  go_wp2_with (refine wpList_build4 (x := .int .i64 9) (y := .int .u64 1) (z := .int .u64 1) (u := .int .u64 7) (v := .agg (repL aR3 (.slice none 0 0)).toArray) rfl rfl rfl rfl rfl rfl (build_r3 _) ?_; refine Hid.out ?_)
  refine Lib.hid ?_
  go_wp2_with fail
  have hT := take_any (X := aX4) (now := 5) (R := aR3) HVB.out HVC.out (SlB.nil (fun _ => True) _) (a_good 0 (by decide) aX4 rfl rfl (by decide)) (by decide) (by decide)
  rw [a_take3] at hT
  refine hT.mono ?_
  clear hT
  rintro e w24 ⟨⟨vb', vc', sv, vr, rfl, hvb, hvc, hsv, hvr⟩, hb⟩
  have HT := Lib.hid (below_call HT.out HT.out.size hb)
  have HGL := Lib.hid HB.out.lt
  have HB := Lib.hid (HB.out.below hb HB.out.lt)
  have HC := Lib.hid (HC.out.below hb)
  have HS1 := Lib.hid (HS1.out.below hb)
  have HS2 := Lib.hid (HS2.out.below hb)
  have HS3 := Lib.hid (HS3.out.below hb)
  have HVB := Lib.hid (hvb.weak (K' := fun b => b ≠ g) fun b _ h => by have := HGL.out; have h : w23.heap.size ≤ b := h; show b ≠ g; omega)
  have HVC := Lib.hid (hvc.weak (K' := fun b => b ≠ g) fun b _ h => by have := HGL.out; have h : w23.heap.size ≤ b := h; show b ≠ g; omega)
  have HO : Hid (vb'.oneCell' = true ∧ vc'.oneCell' = true) := ⟨hvb.one, hvc.one⟩
  have HVR := Lib.hid (hvr.weak (K' := fun b => b ≠ g) fun b _ h => by have := HGL.out; have h : w23.heap.size ≤ b := h; show b ≠ g; omega)
  have HOR := Lib.hid hvr.one
  obtain rfl : sv = .slice none 0 0 := hsv
  clear hb hvb hvc hvr
  have HM := Lib.hid (Mod.refl (fun b => b = g) w24)
  have HM0 := Lib.hid (Below.refl w24.heap.size w24)
  go_wp2_with (refine wpList_alloc_blk rfl rfl zero_reply ?_; rintro m24 w25 hg hB hb; refine Hid.out ?_)
  refine Lib.hid ?_
  have HNm24 : Hid (m24 ≠ g ∧ w24.heap.size ≤ m24) := by { show _ ∧ _; have := HM0.out.size; have := HB.out.lt; omega }
  have HBm24 := Lib.hid hB
  have HB := Lib.hid (HB.out.below hb HB.out.lt)
  have HM := Lib.hid (HM.out.trans (Mod.below hb (Nat.le_refl _)))
  have HM0 := Lib.hid (below_call HM0.out HM0.out.size hb)
  clear hg hB hb
  go_wp2_with (refine wpList_store_blk rfl rfl rfl rfl HB.out rfl (info_client rfl) (cliL_one HO.out.1 HO.out.2) ?_; rintro w26 hB hm; refine Hid.out ?_)
  refine Lib.hid ?_
  have HB := Lib.hid hB
  have HBm24 := Lib.hid (HBm24.out.mod hm (by have := HNm24.out; omega))
  have HM := Lib.hid (HM.out.trans hm)
  clear hB hm
  go_wp2_with (refine wpList_store_blk rfl rfl rfl rfl HBm24.out rfl (info_reply rfl) (repL_one HOR.out) ?_; rintro w27 hB hm; refine Hid.out ?_)
  refine Lib.hid ?_
  have HB := Lib.hid (HB.out.mod hm (by have := HNm24.out; omega))
  have HBm24 := Lib.hid hB
  have HM := Lib.hid (HM.out.join hm fun b hb e => absurd (show b = m24 from e) (by have := HNm24.out; omega))
  clear hB hm
  have HT := Lib.hid (HT.out.trans (HM.out.to_below HT.out.size fun b hb e => by have := HG.out; omega))
  have HC : Hid (Cv (fun b => b ≠ g) w27 g aX5) := ⟨vb', vc', HB.out, HVB.out.mod HM.out fun b h => h, HVC.out.mod HM.out fun b h => h⟩
  have HS1 := Lib.hid (HS1.out.mod HM.out fun b h => h)
  have HS2 := Lib.hid (HS2.out.mod HM.out fun b h => h)
  have HS3 := Lib.hid (HS3.out.mod HM.out fun b h => h)
  have HR : Hid (Rv (fun b => b ≠ g) w27 m24 aR3) := ⟨vr, HBm24.out, HVR.out.mod HM.out fun b h => h⟩
  have HRN : Hid (m24 ≠ g) := HNm24.out.1
  clear HB HVB HVC HO HM HM0 HGL HBm24 HNm24 HVR HOR
  -- Tick
  obtain ⟨vb, vc, hB, hvb, hvc⟩ := HC.out
  have HB := Lib.hid hB
  have HVB := Lib.hid hvb
  have HVC := Lib.hid hvc
  clear hB hvb hvc
  go_wp2_with (refine wpList_load_blk rfl (ty := 29) rfl rfl HB.out Try.underlying29 rfl (info_client rfl) ?_; refine Hid.out ?_)
  refine Lib.hid ?_
  go_wp2_with fail
  have hT := tick_any (X := aX5) (now := 60) HVB.out HVC.out (a_good 0 (by decide) aX5 rfl rfl (by decide)) (by decide) (by decide)
  rw [a_tick60] at hT
  refine hT.mono ?_
  clear hT
  rintro e w28 ⟨⟨vb', vc', sv, vr, rfl, hvb, hvc, hsv, hvr⟩, hb⟩
  have HT := Lib.hid (below_call HT.out HT.out.size hb)
  have HGL := Lib.hid HB.out.lt
  have HB := Lib.hid (HB.out.below hb HB.out.lt)
  have HC := Lib.hid (HC.out.below hb)
  have HS1 := Lib.hid (HS1.out.below hb)
  have HS2 := Lib.hid (HS2.out.below hb)
  have HS3 := Lib.hid (HS3.out.below hb)
  have HR := Lib.hid (HR.out.below hb)
  have HVB := Lib.hid (hvb.weak (K' := fun b => b ≠ g) fun b _ h => by have := HGL.out; have h : w27.heap.size ≤ b := h; show b ≠ g; omega)
  have HVC := Lib.hid (hvc.weak (K' := fun b => b ≠ g) fun b _ h => by have := HGL.out; have h : w27.heap.size ≤ b := h; show b ≠ g; omega)
  have HO : Hid (vb'.oneCell' = true ∧ vc'.oneCell' = true) := ⟨hvb.one, hvc.one⟩
  have HVR := Lib.hid (hvr.weak (K' := fun b => b ≠ g) fun b _ h => by have := HGL.out; have h : w27.heap.size ≤ b := h; show b ≠ g; omega)
  have HOR := Lib.hid hvr.one
  obtain rfl : sv = .slice none 0 0 := hsv
  clear hb hvb hvc hvr
  have HM := Lib.hid (Mod.refl (fun b => b = g) w28)
  have HM0 := Lib.hid (Below.refl w28.heap.size w28)
  go_wp2_with (refine wpList_alloc_blk rfl rfl zero_client ?_; rintro n28 w29 hg hB hb; refine Hid.out ?_)
  refine Lib.hid ?_
  have HNn28 : Hid (n28 ≠ g ∧ w28.heap.size ≤ n28) := by { show _ ∧ _; have := HM0.out.size; have := HB.out.lt; omega }
  have HBn28 := Lib.hid hB
  have HB := Lib.hid (HB.out.below hb HB.out.lt)
  have HM := Lib.hid (HM.out.trans (Mod.below hb (Nat.le_refl _)))
  have HM0 := Lib.hid (below_call HM0.out HM0.out.size hb)
  clear hg hB hb
  go_wp2_with (refine wpList_alloc_blk rfl rfl zero_reply ?_; rintro m28 w30 hg hB hb; refine Hid.out ?_)
  refine Lib.hid ?_
  have HNm28 : Hid (m28 ≠ g ∧ w28.heap.size ≤ m28) := by { show _ ∧ _; have := HM0.out.size; have := HB.out.lt; omega }
  have HXn28m28 : Hid (n28 ≠ m28) := by { show _ ≠ _; have := HBn28.out.lt; omega }
  have HBn28 := Lib.hid (HBn28.out.below hb HBn28.out.lt)
  have HBm28 := Lib.hid hB
  have HB := Lib.hid (HB.out.below hb HB.out.lt)
  have HM := Lib.hid (HM.out.trans (Mod.below hb (Nat.le_refl _)))
  have HM0 := Lib.hid (below_call HM0.out HM0.out.size hb)
  clear hg hB hb
  go_wp2_with (refine wpList_store_blk rfl rfl rfl rfl HBn28.out rfl (info_client rfl) (cliL_one HO.out.1 HO.out.2) ?_; rintro w31 hB hm; refine Hid.out ?_)
  refine Lib.hid ?_
  have HB := Lib.hid (HB.out.mod hm (by have := HNn28.out; omega))
  have HBm28 := Lib.hid (HBm28.out.mod hm (by have := HXn28m28.out; omega))
  have HBn28 := Lib.hid hB
  have HM := Lib.hid (HM.out.join hm fun b hb e => absurd (show b = n28 from e) (by have := HNn28.out; omega))
  have HM0 := Lib.hid (HM0.out.trans (hm.to_below HM0.out.size fun b hb e => absurd (show b = n28 from e) (by have := HNn28.out; omega)))
  clear hB hm
  go_wp2_with (refine wpList_store_blk rfl rfl rfl rfl HBm28.out rfl (info_reply rfl) (repL_one HOR.out) ?_; rintro w32 hB hm; refine Hid.out ?_)
  refine Lib.hid ?_
  have HB := Lib.hid (HB.out.mod hm (by have := HNm28.out; omega))
  have HBn28 := Lib.hid (HBn28.out.mod hm (by have := HXn28m28.out; omega))
  have HBm28 := Lib.hid hB
  have HM := Lib.hid (HM.out.join hm fun b hb e => absurd (show b = m28 from e) (by have := HNm28.out; omega))
  have HM0 := Lib.hid (HM0.out.trans (hm.to_below HM0.out.size fun b hb e => absurd (show b = m28 from e) (by have := HNm28.out; omega)))
  clear hB hm
  have HT := Lib.hid (below_call HT.out HT.out.size HM0.out)
  have HC := Lib.hid (HC.out.below HM0.out)
  have HS1 := Lib.hid (HS1.out.below HM0.out)
  have HS2 := Lib.hid (HS2.out.below HM0.out)
  have HS3 := Lib.hid (HS3.out.below HM0.out)
  have HR := Lib.hid (HR.out.below HM0.out)
  clear HB HVB HVC HO HM HM0 HGL HBn28 HNn28 HBm28 HNm28 HVR HOR HXn28m28
  obtain ⟨x1, y1⟩ := HS1.out.look
  obtain ⟨x2, y2⟩ := HS2.out.look
  obtain ⟨x3, y3⟩ := HS3.out.look
  obtain ⟨vr, hr, _⟩ := HR.out
  have z4 := (hr.cell 4).trans (show _ = some (.int .u64 7) from rfl)
  obtain ⟨vb, vc, hB, _⟩ := HC.out
  obtain ⟨_, _, _, _, c4, _⟩ := cli_cells hB
  clear hr hB
  go_wp2_with fail
  go_ret
  exact ⟨rfl, HT.out⟩
end Go.Proofs.Ytpbaofabflgpkaa
