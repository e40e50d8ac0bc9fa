/- A client's calls: Start. -/
import Derived.Test.YtpbaofabflgpkaaCliG
import Derived.Test.YtpbaofabflgpkaaCliI
import Derived.Test.YtpbaofabflgpkaaCliM
namespace Go.Proofs.Ytpbaofabflgpkaa
set_option linter.unusedVariables false
set_option linter.unusedSimpArgs false
open Go.RowKit

/-- What is answered when a call is begun. -/
def StartPost (K : Nat → Prop) (X : Cli) (now : Nat) (D : Cal) (e : Ending) (w' : World) : Prop :=
  if startE X D = 0 then ∃ vb vc sv, e = .returned (.tuple #[.agg (cliL (startX X now D) vb vc).toArray, sv, .int .i64 0]) ∧ SlI K w' vb X.bs ∧ SlB K w' vc D.body ∧ SlS K w' sv (sentX (startX X now D))
  else e = .returned (.tuple #[.agg (cliL zCli (.slice none 0 0) (.slice none 0 0)).toArray, .slice none 0 0, .int .i64 (startE X D)])
theorem build_client0 (w : World) : (Instr.build 29 #[]).run Try.prog w = .ok (.agg (cliL zCli (.slice none 0 0) (.slice none 0 0)).toArray) w := by kernel_rfl
theorem put_busy (X : Cli) (vb vc : Value) (now : Nat) (sv : Value) : (wkL X vb vc now sv).toArray.setIfInBounds 4 (.int .i64 1) = (wkL { X with busy := 1 } vb vc now sv).toArray := by
  simp only [wkL, cliL, List.cons_append, List.nil_append, pz0, pz1, pz2]
theorem put_wcall (X : Cli) (vb vc : Value) (now : Nat) (sv : Value) (C : Cal) (v : Value) : putL (wkL X vb vc now sv).toArray 5 (calL C v) = (wkL { X with call := C } vb v now sv).toArray := by
  simp only [wkL, cliL, calL, putL, List.cons_append, List.nil_append, pz0, pz1, pz2]
theorem put_born (X : Cli) (vb vc : Value) (now : Nat) (sv : Value) : ((wkL X vb vc now sv).toArray.setIfInBounds 15 (.int .u64 (now : Int))).setIfInBounds 2 (.int .u64 ((X.n : Int) + 1)) = (wkL { X with born := now, n := X.n + 1 } vb vc now sv).toArray := by
  simp only [wkL, cliL, List.cons_append, List.nil_append, pz0, pz1, pz2]
  rfl
theorem put_callX (X : Cli) (D : Cal) (v : Value) : (((calL D v).toArray.setIfInBounds 0 (.int .i64 X.id)).setIfInBounds 1 (.int .u64 (X.inc : Int))).setIfInBounds 2 (.int .u64 ((X.n : Int) + 1)) = (calL (callX X D) v).toArray := by
  simp only [calL, callX, pz0, pz1, pz2]
  rfl
set_option maxRecDepth 100000 in
set_option maxHeartbeats 16000000 in
theorem start_any {K K2 : Nat → Prop} {w : World} {X : Cli} {vb vc : Value} {now : Nat} {D : Cal} {vd : Value} (hvb : SlI K w vb X.bs) (hvc : SlB K w vc X.call.body) (hvd : SlB K2 w vd D.body) (hg : Good X) (hn : X.call.body.length ≤ 1000000) (hnd : D.body.length ≤ 1000000) (hx : X.n < 100000) :
    Calls Try.prog 8 #[.agg (cliL X vb vc).toArray, .int .u64 (now : Int), .agg (calL D vd).toArray] w fun e w' => StartPost (fun b => w.heap.size ≤ b) X now D e w' ∧ Below w.heap.size w w' := by
  have hB0 : Blk ((w.alloc (.cells (cliL X vb vc).toArray 29)).alloc (.cells (calL D vd).toArray 27)) w.heap.size 29 (cliL X vb vc).toArray := (Blk.new _ _ _).alloc _
  have hB1 : Blk ((w.alloc (.cells (cliL X vb vc).toArray 29)).alloc (.cells (calL D vd).toArray 27)) (w.heap.size + 1) 27 (calL D vd).toArray := by simpa using Blk.new (w.alloc (.cells (cliL X vb vc).toArray 29)) 27 (calL D vd).toArray
  have hb1 : Below w.heap.size w ((w.alloc (.cells (cliL X vb vc).toArray 29)).alloc (.cells (calL D vd).toArray 27)) := (below_new w _).alloc (by simp) _
  have HB0 := Lib.hid hB0
  have HD := Lib.hid hB1
  have HT := Lib.hid hb1
  have HS1 : Hid (((w.alloc (.cells (cliL X vb vc).toArray 29)).alloc (.cells (calL D vd).toArray 27)).heap.size = w.heap.size + 2) := by show _ = _; simp
  have HVB0 := Lib.hid hvb
  have HVC0 := Lib.hid hvc
  have HVD := Lib.hid hvd
  have HG := Lib.hid hg
  have HX := Lib.hid hx
  have HN : Hid (X.call.body.length ≤ 1000000 ∧ D.body.length ≤ 1000000) := ⟨hn, hnd⟩
  clear hB0 hB1 hb1 hvb hvc hvd hg hn hnd hx
  go_enter Try.func8, Try.ntmps8
  go_wp2_with (refine wpList_alloc_blk rfl rfl zero_client ?_; rintro g1 w2 hg1 hB2 hb2; refine Hid.out ?_)
  refine Lib.hid ?_
  have HG1 : Hid (w.heap.size + 2 ≤ g1) := by show _ ≤ _; rw [← hg1, HS1.out]; exact Nat.le_refl _
  have HB0 := Lib.hid (HB0.out.below hb2 HB0.out.lt)
  have HD := Lib.hid (HD.out.below hb2 HD.out.lt)
  have HT := Lib.hid (below_call HT.out HT.out.size hb2)
  have HR4 := Lib.hid hB2
  clear hB2 hb2 hg1 HS1
  go_wp2_with (refine wpList_load_blk rfl (ty := 29) rfl rfl HB0.out Try.underlying29 rfl (info_client rfl) ?_; refine Hid.out ?_)
  refine Lib.hid ?_
  go_wp2_with fail
  refine (with_any (HVB0.out.below HT.out) (HVC0.out.below HT.out) (by have := HG.out.2.1; omega) HN.out.1).mono ?_
  rintro e w4 ⟨⟨g, rfl, hwk⟩, hb4⟩
  have HBB : Hid (w.heap.size + 2 ≤ g1 ∧ g1 < w2.heap.size) := ⟨HG1.out, HR4.out.lt⟩
  have HB0 := Lib.hid (HB0.out.below hb4 HB0.out.lt)
  have HD := Lib.hid (HD.out.below hb4 HD.out.lt)
  have HR4 := Lib.hid (HR4.out.below hb4 HR4.out.lt)
  have HT := Lib.hid (below_call HT.out HT.out.size hb4)
  have HWk := Lib.hid hwk
  generalize w2.heap.size = B at *
  clear hwk hb4 HG1
  go_wp2_with (refine wpList_load_blk rfl (ty := 27) rfl rfl HD.out Try.underlying27 rfl (info_call rfl) ?_; refine Hid.out ?_)
  refine Lib.hid ?_
  go_wp2_with fail
  refine (own_any (HVD.out.below HT.out) HN.out.2).mono ?_
  rintro e w5 ⟨⟨vd', rfl, hvd⟩, hb5⟩
  have HGW : Hid (g < w4.heap.size ∧ B ≤ g) := by
    obtain ⟨h1, _, _, _, hb, _⟩ := HWk.out
    exact ⟨hb.lt, h1⟩
  have HB0 := Lib.hid (HB0.out.below hb5 HB0.out.lt)
  have HD := Lib.hid (HD.out.below hb5 HD.out.lt)
  have HR4 := Lib.hid (HR4.out.below hb5 HR4.out.lt)
  have HT := Lib.hid (below_call HT.out HT.out.size hb5)
  have HWk := Lib.hid (HWk.out.below hb5)
  have HVD5 : Hid (SlB (fun b => g < b) w5 vd' D.body) := hvd.weak fun b _ h => by have h : w4.heap.size ≤ b := h; have := HGW.out; show _ < _; omega
  have HOD := Lib.hid hvd.one
  clear hvd hb5 HVD
  go_wp2_with (refine wpList_store_blk rfl rfl rfl rfl HD.out rfl (info_call rfl) (calL_one HOD.out) ?_; rintro w6 hB6 hm6; refine Hid.out ?_)
  refine Lib.hid ?_
  have HB0 := Lib.hid (HB0.out.mod hm6 (by omega))
  have HD := Lib.hid hB6
  have HR4 := Lib.hid (HR4.out.mod hm6 (by have := HBB.out; omega))
  have HT := Lib.hid (HT.out.trans (hm6.to_below HT.out.size fun b hb e => by omega))
  have HVD6 := Lib.hid (HVD5.out.mod hm6 fun b h e => by have h : g < b := h; have := HGW.out; have := HBB.out; omega)
  have HWk : Hid (Wk B w6 g X now none) := by
    obtain ⟨h1, vb, vc, sv, h2, h3, h4, h5⟩ := HWk.out
    have hk : ∀ b, (B ≤ b ∧ b ≠ g) → ¬ b = w.heap.size + 1 := fun b h e => by have := HBB.out; omega
    exact ⟨h1, vb, vc, sv, h2.mod hm6 (by have := HBB.out; omega), h3.mod hm6 hk, h4.mod hm6 hk, h5.mod hm6 hk⟩
  clear hB6 hm6 HVD5
  have x0 : w6.cell? ⟨w.heap.size, 0, none⟩ = some (.int .i64 X.id) := (HB0.out.cell 0).trans rfl
  have x1 : w6.cell? ⟨w.heap.size, 1, none⟩ = some (.int .u64 (X.inc : Int)) := (HB0.out.cell 1).trans rfl
  have x2 : w6.cell? ⟨w.heap.size, 2, none⟩ = some (.int .u64 (X.n : Int)) := (HB0.out.cell 2).trans rfl
  have y0 : w6.cell? ⟨w.heap.size + 1, 0, none⟩ = some (.int .i64 D.cl) := (HD.out.cell 0).trans rfl
  have y1 : w6.cell? ⟨w.heap.size + 1, 1, none⟩ = some (.int .u64 (D.inc : Int)) := (HD.out.cell 1).trans rfl
  have y2 : w6.cell? ⟨w.heap.size + 1, 2, none⟩ = some (.int .u64 (D.n : Int)) := (HD.out.cell 2).trans rfl
  have fz0 := HD.out.free 0
  have fz1 := HD.out.free 1
  have fz2 := HD.out.free 2
  have hgn := HG.out.2.2
  have hmin : min (X.n : Int) 4611686018427387902 = (X.n : Int) := by omega
  have hadd : IntKind.u64.wrap ((X.n : Int) + 1) = (X.n : Int) + 1 := by rw [IntKind.wrap_u64]; omega
  have hmin2 : ((4611686018427387902 : Int) < (X.n : Int)) = False := by simp; omega
  have hmax2 : (((X.n : Int) + 1) < 1) = False := by simp; omega
  have hmax : max ((X.n + 1 : Nat) : Int) 1 = ((X.n + 1 : Nat) : Int) := by omega
  clear hgn
  go_wp2_with fail
  refine PF.pf_begin (by kernel_rfl) ?_
  refine PF.pf_take0 0 (by kernel_rfl) rfl (fun _ _ _ _ _ h => h) (by kernel_rfl) (fun u => by go_simp; try rfl) ?_
  try simp only [Act.put, pz0, pz1, pz2]
  refine PF.pf_take1 1 (PF.Same (w.heap.size) _) (by kernel_rfl) rfl (fun _ _ _ _ _ h => h) (by kernel_rfl) (PF.Same.refl _ _) (fun u hu => by have hcu := hu.cell; go_simp; try rfl) ?_
  try simp only [Act.put, pz0, pz1, pz2]
  refine PF.pf_take0 2 (by kernel_rfl) rfl (fun _ _ _ _ _ h => h) (by kernel_rfl) (fun u => by go_simp; try rfl) ?_
  try simp only [Act.put, pz0, pz1, pz2]
  refine PF.pf_take1 3 (PF.Same (w.heap.size) _) (by kernel_rfl) rfl (fun _ _ _ _ _ h => h) (by kernel_rfl) (PF.Same.refl _ _) (fun u hu => by have hcu := hu.cell; go_simp; try rfl) ?_
  try simp only [Act.put, pz0, pz1, pz2]
  refine PF.pf_take0 4 (by kernel_rfl) rfl (fun _ _ _ _ _ h => h) (by kernel_rfl) (fun u => by go_simp; try rfl) ?_
  try simp only [Act.put, pz0, pz1, pz2]
  refine PF.pf_take1 5 (PF.Same (w.heap.size) _) (by kernel_rfl) rfl (fun _ _ _ _ _ h => h) (by kernel_rfl) (PF.Same.refl _ _) (fun u hu => by have hcu := hu.cell; go_simp; try rfl) ?_
  try simp only [Act.put, pz0, pz1, pz2]
  refine PF.pf_take0 6 (by kernel_rfl) rfl (fun _ _ _ _ _ h => h) (by kernel_rfl) (fun u => by go_simp; try rfl) ?_
  try simp only [Act.put, pz0, pz1, pz2]
  refine PF.pf_take0 7 (by kernel_rfl) rfl (fun _ _ _ _ _ h => h) (by kernel_rfl) (fun u => by go_simp; try rfl) ?_
  try simp only [Act.put, pz0, pz1, pz2]
  refine PF.pf_take0 8 (by kernel_rfl) rfl (fun _ _ _ _ _ h => h) (by kernel_rfl) (fun u => by go_simp; try rfl) ?_
  try simp only [Act.put, pz0, pz1, pz2]
  refine PF.pf_take0 9 (by kernel_rfl) rfl (fun _ _ _ _ _ h => h) (by kernel_rfl) (fun u => by go_simp; try rfl) ?_
  try simp only [Act.put, pz0, pz1, pz2]
  refine PF.pf_exec 10 (by kernel_rfl) rfl (by kernel_rfl) (fun K hK => ?_)
  go_simp
  refine hK _ _ (by repeat (first | exact PF.owes_nil | refine PF.owes_left ?_ | refine PF.owes_no (by decide +kernel) ?_ | refine PF.owes_yes (by exact Below.heap_setCell _ _ _ _ (by simp)) ?_)) ?_
  clear hK K
  try simp only [Act.put, pz0, pz1, pz2]
  refine PF.pf_take0 11 (by kernel_rfl) rfl (fun _ _ _ _ _ h => h) (by kernel_rfl) (fun u => by go_simp; try rfl) ?_
  try simp only [Act.put, pz0, pz1, pz2]
  refine PF.pf_exec 12 (by kernel_rfl) rfl (by kernel_rfl) (fun K hK => ?_)
  go_simp
  refine hK _ _ (by repeat (first | exact PF.owes_nil | refine PF.owes_left ?_ | refine PF.owes_no (by decide +kernel) ?_ | refine PF.owes_yes (by exact (Below.heap_setCell _ _ _ _ (by simp)).trans (Below.heap_setCell _ _ _ _ (by simp))) ?_)) ?_
  clear hK K
  try simp only [Act.put, pz0, pz1, pz2]
  refine PF.pf_take0 13 (by kernel_rfl) rfl (fun _ _ _ _ _ h => h) (by kernel_rfl) (fun u => by go_simp; try rfl) ?_
  try simp only [Act.put, pz0, pz1, pz2]
  refine PF.pf_exec 14 (by kernel_rfl) rfl (by kernel_rfl) (fun K hK => ?_)
  go_simp
  refine hK _ _ (by repeat (first | exact PF.owes_nil | refine PF.owes_left ?_ | refine PF.owes_no (by decide +kernel) ?_ | refine PF.owes_yes (by first | rfl | assumption | go_simp) ?_)) ?_
  clear hK K
  try simp only [Act.put, pz0, pz1, pz2]
  refine PF.pf_done (by kernel_rfl) ?_
  clear hmin hmin2 hmax hmax2 x0 x1 x2 y0 y1 y2 fz0 fz1 fz2
  have HADD := Lib.hid hadd
  clear hadd
  have hD7 : Blk ((((w6.setCell ⟨w.heap.size + 1, 0, none⟩ (.int .i64 X.id)).setCell ⟨w.heap.size + 1, 1, none⟩ (.int .u64 (X.inc : Int))).setCell ⟨w.heap.size + 1, 2, none⟩ (.int .u64 ((X.n : Int) + 1))).drew) (w.heap.size + 1) 27 (calL (callX X D) vd').toArray := by
    have h := ((HD.out.put 0 (.int .i64 X.id)).put 1 (.int .u64 (X.inc : Int))).put 2 (.int .u64 ((X.n : Int) + 1))
    rw [put_callX] at h
    exact h.drew
  have hm7 : Mod (fun b => b = w.heap.size + 1) w6 ((((w6.setCell ⟨w.heap.size + 1, 0, none⟩ (.int .i64 X.id)).setCell ⟨w.heap.size + 1, 1, none⟩ (.int .u64 (X.inc : Int))).setCell ⟨w.heap.size + 1, 2, none⟩ (.int .u64 ((X.n : Int) + 1))).drew) :=
    ((Mod.set (S := fun b => b = w.heap.size + 1) (Mod.set (S := fun b => b = w.heap.size + 1) (Mod.set (S := fun b => b = w.heap.size + 1) (Mod.refl _ w6) (p := ⟨w.heap.size + 1, 0, none⟩) (fun _ => rfl) _) (p := ⟨w.heap.size + 1, 1, none⟩) (fun _ => rfl) _) (p := ⟨w.heap.size + 1, 2, none⟩) (fun _ => rfl) _).trans ((Mod.refl _ _).drew))
  generalize ((((w6.setCell ⟨w.heap.size + 1, 0, none⟩ (.int .i64 X.id)).setCell ⟨w.heap.size + 1, 1, none⟩ (.int .u64 (X.inc : Int))).setCell ⟨w.heap.size + 1, 2, none⟩ (.int .u64 ((X.n : Int) + 1))).drew) = w7 at *
  have HB0 := Lib.hid (HB0.out.mod hm7 (by omega))
  have HD := Lib.hid hD7
  have HR4 := Lib.hid (HR4.out.mod hm7 (by have := HBB.out; omega))
  have HT := Lib.hid (HT.out.trans (hm7.to_below HT.out.size fun b hb e => by omega))
  have HVD7 := Lib.hid (HVD6.out.mod hm7 fun b h e => by have h : g < b := h; have := HGW.out; have := HBB.out; omega)
  have HWk : Hid (Wk B w7 g X now none) := by
    obtain ⟨h1, vb, vc, sv, h2, h3, h4, h5⟩ := HWk.out
    have hk : ∀ b, (B ≤ b ∧ b ≠ g) → ¬ b = w.heap.size + 1 := fun b h e => by have := HBB.out; omega
    exact ⟨h1, vb, vc, sv, h2.mod hm7 (by have := HBB.out; omega), h3.mod hm7 hk, h4.mod hm7 hk, h5.mod hm7 hk⟩
  clear hD7 hm7 HVD6
  go_wp2_with (refine wpList_load_blk rfl (ty := 27) rfl rfl HD.out Try.underlying27 rfl (info_call rfl) ?_; refine Hid.out ?_)
  refine Lib.hid ?_
  go_wp2_with fail
  refine (may_any (C := callX X D) HVD7.out).mono ?_
  rintro e w8 ⟨rfl, hb8⟩
  have HB0 := Lib.hid (HB0.out.below hb8 HB0.out.lt)
  have HD := Lib.hid (HD.out.below hb8 HD.out.lt)
  have HR4 := Lib.hid (HR4.out.below hb8 HR4.out.lt)
  have HT := Lib.hid (below_call HT.out HT.out.size hb8)
  have HVD8 := Lib.hid (HVD7.out.below hb8)
  have HWk := Lib.hid (HWk.out.below hb8)
  clear hb8 HVD7
  have x4 : w8.cell? ⟨w.heap.size, 4, none⟩ = some (.int .i64 X.busy) := (HB0.out.cell 4).trans rfl
  have x2 : w8.cell? ⟨w.heap.size, 2, none⟩ = some (.int .u64 (X.n : Int)) := (HB0.out.cell 2).trans rfl
  cases hm : mayC (callX X D)
  · have HE : Hid (startE X D = 1) := by
      show _ = _
      unfold startE
      rw [if_pos hm]
    clear hm
    go_wp2_with (refine wpList_build0 (v := .agg (cliL zCli (.slice none 0 0) (.slice none 0 0)).toArray) rfl rfl (build_client0 _) ?_; refine Hid.out ?_)
    refine Lib.hid ?_
    go_wp2_with (refine wpList_store_blk rfl rfl rfl rfl HR4.out rfl (info_client rfl) (cliL_one rfl rfl) ?_; rintro w91 hB91 hm91; refine Hid.out ?_)
    refine Lib.hid ?_
    go_wp2_with fail
    refine bodyPost_ret (results_ctt Try.results8 _ hB91 rfl Try.underlying29 rfl (info_client rfl)) rfl ?_
    refine ⟨?_, HT.out.trans (hm91.to_below HT.out.size fun b hb e => by have := HBB.out; omega)⟩
    unfold StartPost
    rw [HE.out, if_neg (by decide)]
    rfl
  · by_cases hb : X.busy = 1
    · have HE : Hid (startE X D = 5) := by
        show _ = _
        unfold startE
        rw [hm, if_neg (by decide), if_pos hb]
      have q0 : decide (X.busy = 1) = true := decide_eq_true hb
      have q1 : (X.busy == 1) = true := beq_iff_eq.2 hb
      clear hm hb
      go_wp2_with (refine wpList_build0 (v := .agg (cliL zCli (.slice none 0 0) (.slice none 0 0)).toArray) rfl rfl (build_client0 _) ?_; refine Hid.out ?_)
      refine Lib.hid ?_
      go_wp2_with (refine wpList_store_blk rfl rfl rfl rfl HR4.out rfl (info_client rfl) (cliL_one rfl rfl) ?_; rintro w91 hB91 hm91; refine Hid.out ?_)
      refine Lib.hid ?_
      go_wp2_with fail
      refine bodyPost_ret (results_ctt Try.results8 _ hB91 rfl Try.underlying29 rfl (info_client rfl)) rfl ?_
      refine ⟨?_, HT.out.trans (hm91.to_below HT.out.size fun b hb e => by have := HBB.out; omega)⟩
      unfold StartPost
      rw [HE.out, if_neg (by decide)]
      rfl
    · have HE : Hid (startE X D = 0) := by
        show _ = _
        unfold startE
        rw [hm, if_neg (by decide), if_neg hb]
      have q0 : decide (X.busy = 1) = false := decide_eq_false hb
      have q1 : (X.busy == 1) = false := beq_eq_false_iff_ne.2 hb
      have q2 : decide ((4611686018427387903 : Int) ≤ (X.n : Int)) = false := decide_eq_false (by have := HG.out.2.2; omega)
      have q3 : decide (4611686018427387903 ≤ X.n) = false := decide_eq_false (by have := HG.out.2.2; omega)
      have hadd := HADD.out
      clear hm hb
      obtain ⟨_, vb2, vc2, sv2, hb2, hvb2, _, hsv2⟩ := HWk.out
      obtain rfl : sv2 = .slice none 0 0 := hsv2
      have g4 : w8.cell? ⟨g, 4, none⟩ = some (.int .i64 X.busy) := (hb2.cell 4).trans rfl
      have fg4 := hb2.free 4
      have HBW := Lib.hid hb2
      have HVB2 := Lib.hid hvb2
      have HGL := Lib.hid hb2.lt
      have hne0 : w.heap.size ≠ g := by have := HGW.out; have := HBB.out; omega
      have hne1 : w.heap.size + 1 ≠ g := by have := HGW.out; have := HBB.out; omega
      have HNE : Hid (w.heap.size ≠ g ∧ w.heap.size + 1 ≠ g) := ⟨hne0, hne1⟩
      have hB12 : Blk (w8.setCell ⟨g, 4, none⟩ (.int .i64 1)).drew g 66 (wkL { X with busy := 1 } vb2 vc2 now (.slice none 0 0)).toArray := by
        have h := HBW.out.put 4 (.int .i64 1)
        rw [put_busy] at h
        exact h.drew
      have HB12 := Lib.hid hB12
      have HOD2 := Lib.hid (HVD8.out.one)
      clear hb2 hvb2 hB12 hne0 hne1
      go_wp2_with fail
      refine PF.pf_begin (by kernel_rfl) ?_
      refine PF.pf_take0 0 (by kernel_rfl) rfl (fun _ _ _ _ _ h => h) (by kernel_rfl) (fun u => by go_simp; try rfl) ?_
      try simp only [Act.put, pz0, pz1, pz2]
      refine PF.pf_take0 1 (by kernel_rfl) rfl (fun _ _ _ _ _ h => h) (by kernel_rfl) (fun u => by go_simp; try rfl) ?_
      try simp only [Act.put, pz0, pz1, pz2]
      refine PF.pf_take0 2 (by kernel_rfl) rfl (fun _ _ _ _ _ h => h) (by kernel_rfl) (fun u => by go_simp; try rfl) ?_
      try simp only [Act.put, pz0, pz1, pz2]
      refine PF.pf_take0 3 (by kernel_rfl) rfl (fun _ _ _ _ _ h => h) (by kernel_rfl) (fun u => by go_simp; try rfl) ?_
      try simp only [Act.put, pz0, pz1, pz2]
      refine PF.pf_take1 4 (fun u => Blk u (w.heap.size + 1) 27 (calL (callX X D) vd').toArray) (by kernel_rfl) rfl (fun _ _ _ _ _ h => h) (by kernel_rfl) (HD.out) (fun u hu => by (exact exec_load_blk rfl rfl hu Try.underlying27 rfl (info_call rfl))) ?_
      try simp only [Act.put, pz0, pz1, pz2]
      refine PF.pf_take0 5 (by kernel_rfl) rfl (fun _ _ _ _ _ h => h) (by kernel_rfl) (fun u => by go_simp; try rfl) ?_
      try simp only [Act.put, pz0, pz1, pz2]
      refine PF.pf_take0 6 (by kernel_rfl) rfl (fun _ _ _ _ _ h => h) (by kernel_rfl) (fun u => by go_simp; try rfl) ?_
      try simp only [Act.put, pz0, pz1, pz2]
      refine PF.pf_take1 7 (PF.Same (w.heap.size) _) (by kernel_rfl) rfl (fun _ _ _ _ _ h => h) (by kernel_rfl) (PF.Same.refl _ _) (fun u hu => by have hcu := hu.cell; go_simp; try rfl) ?_
      try simp only [Act.put, pz0, pz1, pz2]
      refine PF.pf_take0 8 (by kernel_rfl) rfl (fun _ _ _ _ _ h => h) (by kernel_rfl) (fun u => by go_simp; try rfl) ?_
      try simp only [Act.put, pz0, pz1, pz2]
      refine PF.pf_take0 9 (by kernel_rfl) rfl (fun _ _ _ _ _ h => h) (by kernel_rfl) (fun u => by go_simp; try rfl) ?_
      try simp only [Act.put, pz0, pz1, pz2]
      refine PF.pf_take0 10 (by kernel_rfl) rfl (fun _ _ _ _ _ h => h) (by kernel_rfl) (fun u => by go_simp; try rfl) ?_
      try simp only [Act.put, pz0, pz1, pz2]
      refine PF.pf_take0 11 (by kernel_rfl) rfl (fun _ _ _ _ _ h => h) (by kernel_rfl) (fun u => by go_simp; try rfl) ?_
      try simp only [Act.put, pz0, pz1, pz2]
      refine PF.pf_exec 12 (by kernel_rfl) rfl (by kernel_rfl) (fun K hK => ?_)
      go_simp
      refine hK _ _ (by repeat (first | exact PF.owes_nil | refine PF.owes_left ?_ | refine PF.owes_no (by decide +kernel) ?_ | refine PF.owes_yes (by first | exact Below.heap_setCell _ _ _ _ HNE.out.1 | exact (HD.out.far HNE.out.2 _).drew) ?_)) ?_
      clear hK K
      try simp only [Act.put, pz0, pz1, pz2]
      refine PF.pf_take0 13 (by kernel_rfl) rfl (fun _ _ _ _ _ h => h) (by kernel_rfl) (fun u => by go_simp; try rfl) ?_
      try simp only [Act.put, pz0, pz1, pz2]
      refine PF.pf_take0 14 (by kernel_rfl) rfl (fun _ _ _ _ _ h => h) (by kernel_rfl) (fun u => by go_simp; try rfl) ?_
      try simp only [Act.put, pz0, pz1, pz2]
      refine PF.pf_take0 15 (by kernel_rfl) rfl (fun _ _ _ _ _ h => h) (by kernel_rfl) (fun u => by go_simp; try rfl) ?_
      try simp only [Act.put, pz0, pz1, pz2]
      refine PF.pf_exec 16 (by kernel_rfl) rfl (by kernel_rfl) (fun K hK => ?_)
      refine wp_store_rgB rfl rfl rfl HB12.out (by rw [List.size_toArray]; exact (show 14 ≤ 19 by decide)) (info_call9 rfl) (calL_oneL HOD2.out) ?_
      rintro w16 hB16 hm16
      rw [put_wcall] at hB16
      have hs16 : w16.heap[w.heap.size]? = w8.drew.heap[w.heap.size]? := (hm16.block w.heap.size (by have := HB0.out.lt; simpa using this) HNE.out.1).trans (Below.heap_setCell _ _ _ _ HNE.out.1)
      have hs20 : ∀ u, (w16.setCell ⟨g, 15, none⟩ u).heap[w.heap.size]? = w8.drew.heap[w.heap.size]? := fun u => (Below.heap_setCell _ _ _ _ HNE.out.1).trans hs16
      have HB16 := Lib.hid hB16
      have HM16 := Lib.hid hm16
      have g15 : w16.cell? ⟨g, 15, none⟩ = some (.int .u64 (X.born : Int)) := (hB16.cell 15).trans rfl
      have fg15 := hB16.free 15
      have hB20 := hB16.put 15 (.int .u64 (now : Int))
      have g2 : (w16.setCell ⟨g, 15, none⟩ (.int .u64 (now : Int))).cell? ⟨g, 2, none⟩ = some (.int .u64 (X.n : Int)) := (hB20.cell 2).trans rfl
      have fg2 := hB20.free 2
      clear hB16 hm16 hB20
      refine hK _ _ (by repeat (first | exact PF.owes_nil | refine PF.owes_left ?_ | refine PF.owes_no (by decide +kernel) ?_ | refine PF.owes_yes (by exact hs16) ?_)) ?_
      clear hK K
      try simp only [Act.put, pz0, pz1, pz2]
      refine PF.pf_take0 17 (by kernel_rfl) rfl (fun _ _ _ _ _ h => h) (by kernel_rfl) (fun u => by go_simp; try rfl) ?_
      try simp only [Act.put, pz0, pz1, pz2]
      refine PF.pf_take0 18 (by kernel_rfl) rfl (fun _ _ _ _ _ h => h) (by kernel_rfl) (fun u => by go_simp; try rfl) ?_
      try simp only [Act.put, pz0, pz1, pz2]
      refine PF.pf_take0 19 (by kernel_rfl) rfl (fun _ _ _ _ _ h => h) (by kernel_rfl) (fun u => by go_simp; try rfl) ?_
      try simp only [Act.put, pz0, pz1, pz2]
      refine PF.pf_exec 20 (by kernel_rfl) rfl (by kernel_rfl) (fun K hK => ?_)
      go_simp
      refine hK _ _ (by repeat (first | exact PF.owes_nil | refine PF.owes_left ?_ | refine PF.owes_no (by decide +kernel) ?_ | refine PF.owes_yes (by exact hs20 _) ?_)) ?_
      clear hK K
      try simp only [Act.put, pz0, pz1, pz2]
      refine PF.pf_take0 21 (by kernel_rfl) rfl (fun _ _ _ _ _ h => h) (by kernel_rfl) (fun u => by go_simp; try rfl) ?_
      try simp only [Act.put, pz0, pz1, pz2]
      refine PF.pf_take0 22 (by kernel_rfl) rfl (fun _ _ _ _ _ h => h) (by kernel_rfl) (fun u => by go_simp; try rfl) ?_
      try simp only [Act.put, pz0, pz1, pz2]
      refine PF.pf_take0 23 (by kernel_rfl) rfl (fun _ _ _ _ _ h => h) (by kernel_rfl) (fun u => by go_simp; try rfl) ?_
      try simp only [Act.put, pz0, pz1, pz2]
      refine PF.pf_exec 24 (by kernel_rfl) rfl (by kernel_rfl) (fun K hK => ?_)
      go_simp
      refine hK _ _ (by repeat (first | exact PF.owes_nil | refine PF.owes_left ?_ | refine PF.owes_no (by decide +kernel) ?_ | refine PF.owes_yes (by first | rfl | assumption | go_simp) ?_)) ?_
      clear hK K
      try simp only [Act.put, pz0, pz1, pz2]
      refine PF.pf_done (by kernel_rfl) ?_
      clear g4 fg4 g15 fg15 g2 fg2 q0 q1 q2 q3 hadd x4 x2 hs16 hs20
      have m1 : Mod (fun b => b = g) w8 (w8.setCell ⟨g, 4, none⟩ (.int .i64 1)).drew := (Mod.set (S := fun b => b = g) (Mod.refl _ _) (p := ⟨g, 4, none⟩) (fun _ => rfl) _).trans ((Mod.refl _ _).drew)
      have m3 : Mod (fun b => b = g) w16 ((w16.setCell ⟨g, 15, none⟩ (.int .u64 (now : Int))).setCell ⟨g, 2, none⟩ (.int .u64 ((X.n : Int) + 1))) := Mod.set (S := fun b => b = g) (Mod.set (S := fun b => b = g) (Mod.refl _ w16) (p := ⟨g, 15, none⟩) (fun _ => rfl) _) (p := ⟨g, 2, none⟩) (fun _ => rfl) _
      have HM24 := Lib.hid ((m1.trans HM16.out).trans m3)
      have hB24 : Blk ((w16.setCell ⟨g, 15, none⟩ (.int .u64 (now : Int))).setCell ⟨g, 2, none⟩ (.int .u64 ((X.n : Int) + 1))) g 66 (wkL { X with busy := 1, call := callX X D, born := now, n := X.n + 1 } vb2 vd' now (.slice none 0 0)).toArray :=
        Eq.mp (congrArg (Blk ((w16.setCell ⟨g, 15, none⟩ (.int .u64 (now : Int))).setCell ⟨g, 2, none⟩ (.int .u64 ((X.n : Int) + 1))) g 66) (put_born { X with busy := 1, call := callX X D } vb2 vd' now (.slice none 0 0))) ((HB16.out.put 15 (.int .u64 (now : Int))).put 2 (.int .u64 ((X.n : Int) + 1)))
      have HB24 := Lib.hid hB24
      clear m1 m3 hB24
      generalize ((w16.setCell ⟨g, 15, none⟩ (.int .u64 (now : Int))).setCell ⟨g, 2, none⟩ (.int .u64 ((X.n : Int) + 1))) = w24 at *
      have HWk : Hid (Wk B w24 g { X with busy := 1, call := callX X D, born := now, n := X.n + 1 } now none) :=
        ⟨HGW.out.2, vb2, vd', _, HB24.out, HVB2.out.mod HM24.out fun b h => h.2, (HVD8.out.mod HM24.out fun b h e => by have h : g < b := h; omega).weak fun b _ h => by have h : g < b := h; have := HGW.out.2; exact ⟨by omega, by omega⟩, rfl⟩
      have HR4 := Lib.hid (HR4.out.mod HM24.out (by have := HGW.out; have := HBB.out; omega))
      have HT := Lib.hid (HT.out.trans (HM24.out.to_below HT.out.size fun b hb e => by have := HGW.out; have := HBB.out; omega))
      have HGX : Hid (Good { X with busy := 1, call := callX X D, born := now, n := X.n + 1 }) := ⟨HG.out.1, HG.out.2.1, by have := HX.out; show X.n + 1 ≤ 100000; omega⟩
      clear HB24 HB16 HM16 HM24 HB12 HBW
      go_wp2_with fail
      refine (ask_any HWk.out HGX.out HN.out.2).mono ?_
      rintro e w30 ⟨rfl, hwk30, hm30⟩
      have HR4 := Lib.hid (HR4.out.mod hm30 (by have := HGW.out; have := HBB.out; omega))
      have HT := Lib.hid (HT.out.trans (hm30.to_below HT.out.size fun b hb e => by have := HGW.out; have := HBB.out; omega))
      have HWk : Hid (Wk B w30 g (startX X now D) now (sentX (startX X now D))) := hwk30
      clear hwk30 hm30
      obtain ⟨_, vb3, vc3, sv3, hb3, hvb3, hvc3, hsv3⟩ := HWk.out
      have HB := Lib.hid hb3
      have HVB := Lib.hid hvb3
      have HVC := Lib.hid hvc3
      have HSV := Lib.hid hsv3
      have c18 : w30.cell? ⟨g, 18, none⟩ = some sv3 := (hb3.cell 18).trans rfl
      have HOB : Hid (vb3.oneCell' = true ∧ vc3.oneCell' = true) := ⟨hvb3.one, hvc3.one⟩
      have HGL3 := Lib.hid hb3.lt
      clear hb3 hvb3 hvc3 hsv3
      go_wp2_with fail
      refine PF.pf_begin (by kernel_rfl) ?_
      refine PF.pf_take0 0 (by kernel_rfl) rfl (fun _ _ _ _ _ h => h) (by kernel_rfl) (fun u => by go_simp; try rfl) ?_
      try simp only [Act.put, pz0, pz1, pz2]
      refine PF.pf_take0 1 (by kernel_rfl) rfl (fun _ _ _ _ _ h => h) (by kernel_rfl) (fun u => by go_simp; try rfl) ?_
      try simp only [Act.put, pz0, pz1, pz2]
      refine PF.pf_take0 2 (by kernel_rfl) rfl (fun _ _ _ _ _ h => h) (by kernel_rfl) (fun u => by go_simp; try rfl) ?_
      try simp only [Act.put, pz0, pz1, pz2]
      refine PF.pf_take1 3 (fun u => Blk u g 66 (wkL (startX X now D) vb3 vc3 now sv3).toArray) (by kernel_rfl) rfl (fun _ _ _ _ _ h => h) (by kernel_rfl) (HB.out) (fun u hu => by (exact exec_load_rg rfl rfl (show u.rangeAt g 0 (cliL (startX X now D) vb3 vc3) from hu.range 0 17) Try.underlying29 rfl (info_client17 rfl))) ?_
      try simp only [Act.put, pz0, pz1, pz2]
      refine PF.pf_take0 4 (by kernel_rfl) rfl (fun _ _ _ _ _ h => h) (by kernel_rfl) (fun u => by go_simp; try rfl) ?_
      try simp only [Act.put, pz0, pz1, pz2]
      refine PF.pf_take0 5 (by kernel_rfl) rfl (fun _ _ _ _ _ h => h) (by kernel_rfl) (fun u => by go_simp; try rfl) ?_
      try simp only [Act.put, pz0, pz1, pz2]
      refine PF.pf_take0 6 (by kernel_rfl) rfl (fun _ _ _ _ _ h => h) (by kernel_rfl) (fun u => by go_simp; try rfl) ?_
      try simp only [Act.put, pz0, pz1, pz2]
      refine PF.pf_take1 7 (PF.Same (g) _) (by kernel_rfl) rfl (fun _ _ _ _ _ h => h) (by kernel_rfl) (PF.Same.refl _ _) (fun u hu => by have hcu := hu.cell; go_simp; try rfl) ?_
      try simp only [Act.put, pz0, pz1, pz2]
      refine PF.pf_exec 8 (by kernel_rfl) rfl (by kernel_rfl) (fun K hK => ?_)
      refine wp_store_blk rfl rfl rfl HR4.out rfl (info_client rfl) (cliL_one HOB.out.1 HOB.out.2) ?_
      rintro w91 hB91 hm91
      have hsg : w91.heap[g]? = w30.drew.heap[g]? := hm91.block g HGL3.out (by have := HGW.out; have := HBB.out; omega)
      refine hK _ _ (by repeat (first | exact PF.owes_nil | refine PF.owes_left ?_ | refine PF.owes_no (by decide +kernel) ?_ | refine PF.owes_yes (by exact hsg) ?_)) ?_
      clear hK K
      try simp only [Act.put, pz0, pz1, pz2]
      refine PF.pf_take0 9 (by kernel_rfl) rfl (fun _ _ _ _ _ h => h) (by kernel_rfl) (fun u => by go_simp; try rfl) ?_
      try simp only [Act.put, pz0, pz1, pz2]
      refine PF.pf_take0 10 (by kernel_rfl) rfl (fun _ _ _ _ _ h => h) (by kernel_rfl) (fun u => by go_simp; try rfl) ?_
      try simp only [Act.put, pz0, pz1, pz2]
      refine PF.pf_done (by kernel_rfl) ?_
      go_wp2_with fail
      refine bodyPost_ret (results_ctt Try.results8 _ hB91 rfl Try.underlying29 rfl (info_client rfl)) rfl ?_
      have h1 : Mod (fun b => b = g1) w30 w91 := ((Mod.refl _ _).drew).trans hm91
      have hbb := HBB.out
      have hgw := HGW.out
      have hk : ∀ b, (B ≤ b ∧ b ≠ g) → ¬ b = g1 := fun b h e => by omega
      have hw : ∀ b, (B ≤ b ∧ b ≠ g) → w.heap.size ≤ b := fun b h => by omega
      refine ⟨?_, HT.out.trans (h1.to_below HT.out.size fun b hb e => by omega)⟩
      unfold StartPost
      rw [HE.out, if_pos rfl]
      exact ⟨vb3, vc3, sv3, rfl, (HVB.out.mod h1 hk).weak fun b _ h => hw b h, (HVC.out.mod h1 hk).weak fun b _ h => hw b h, (HSV.out.mod h1 hk).weak fun b _ h => hw b h⟩
end Go.Proofs.Ytpbaofabflgpkaa
