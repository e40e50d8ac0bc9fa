/- The law ClientStale, walked. -/
import Derived.Test.YtpbaofabflgpkaaCliAw
namespace Go.Proofs.Ytpbaofabflgpkaa
set_option linter.unusedVariables false
set_option linter.unusedSimpArgs false
open Go.RowKit

theorem build_r7 (nid : Int) (inc : Nat) (w : World) : (Instr.build 36 #[(0, .int .i64 nid), (1, .int .u64 (inc : Int)), (2, .int .u64 1), (3, .int .i64 7)]).run Try.prog w = .ok (.agg (repL { zRep with cl := nid, inc := inc, n := 1, res := 7 } (.slice none 0 0)).toArray) w := by kernel_rfl
/-- The client behind its first call. -/
def stX (nid : Int) (inc : Nat) (bs : List Int) (now : Nat) (C : Cal) : Cli := { startX (newX nid inc bs) now C with busy := 0 }
theorem st_take (nid : Int) (inc : Nat) (bs : List Int) (now : Nat) (C : Cal) : takeX (startX (newX nid inc bs) now C) now { zRep with cl := nid, inc := inc, n := 1, res := 7 } = { cli := stX nid inc bs now C, sent := none, rep := some { zRep with cl := nid, inc := inc, n := 1, res := 7 } } := by
  unfold takeX
  rw [if_neg (by rw [Decidable.not_not]; exact ⟨rfl, rfl, rfl, rfl⟩), if_neg (show ¬ ((7 : Int) = 1 ∨ (7 : Int) = 2) by decide)]
  rfl
theorem st_startE {X : Cli} (h : X.busy = 0) (D : Cal) : startE X D = if mayC (callX X D) = false then 1 else 0 := by
  unfold startE
  rw [h]
  rfl
theorem start_good {X : Cli} (h : Good X) (hn : X.n < 100000) (now : Nat) (D : Cal) : Good (startX X now D) := ⟨h.1, h.2.1, hn⟩
theorem st_good {nid : Int} {inc : Nat} {bs : List Int} (h : newOk nid inc bs) (now : Nat) (C : Cal) : Good (stX nid inc bs now C) := start_good (good_new h) (show 0 < 100000 by decide) now C
theorem SlB.any {K : Nat → Prop} {w : World} {v : Value} {l : List UInt8} (h : SlB K w v l) : SlB (fun _ => True) w v l := h.weak fun _ _ _ => trivial
set_option maxRecDepth 100000 in
set_option maxHeartbeats 16000000 in
theorem stale_any {Ki K1 K2 K3 : Nat → Prop} {w : World} {nid : Int} {inc : Nat} {vi : Value} {bs : List Int} {C1 C2 : Cal} {v1 v2 v3 : Value} {R : Rep} {now : Nat} (hvi : SlI Ki w vi bs) (hn : bs.length * 8 ≤ 140737488351232) (h1 : SlB K1 w v1 C1.body) (h2 : SlB K2 w v2 C2.body) (h3 : SlB K3 w v3 R.body) :
    Calls Try.prog 5 #[.int .i64 nid, .int .u64 (inc : Int), vi, .agg (calL C1 v1).toArray, .agg (calL C2 v2).toArray, .agg (repL R v3).toArray, .int .u64 (now : Int)] w fun e w' => e = .returned (.bool true) ∧ Below w.heap.size w w' := by
  have hb1 := below_new w (.cells (calL C1 v1).toArray 27)
  have hb2 := hb1.alloc (by simp only [alloc_size]; omega) (.cells (calL C2 v2).toArray 27)
  have hb3 := hb2.alloc (by simp only [alloc_size]; omega) (.cells (repL R v3).toArray 36)
  have HL1 : Hid (Lv (fun b => b < w.heap.size) (((w.alloc (.cells (calL C1 v1).toArray 27)).alloc (.cells (calL C2 v2).toArray 27)).alloc (.cells (repL R v3).toArray 36)) w.heap.size C1) := ⟨v1, ((Blk.new _ _ _).alloc _).alloc _, (h1.weak fun b h _ => h).below hb3⟩
  have HL2 : Hid (Lv (fun b => b < w.heap.size) (((w.alloc (.cells (calL C1 v1).toArray 27)).alloc (.cells (calL C2 v2).toArray 27)).alloc (.cells (repL R v3).toArray 36)) (w.heap.size + 1) C2) := ⟨v2, by simpa using (Blk.new (w.alloc (.cells (calL C1 v1).toArray 27)) 27 (calL C2 v2).toArray).alloc _, (h2.weak fun b h _ => h).below hb3⟩
  have HR3 : Hid (Rv (fun b => b < w.heap.size) (((w.alloc (.cells (calL C1 v1).toArray 27)).alloc (.cells (calL C2 v2).toArray 27)).alloc (.cells (repL R v3).toArray 36)) (w.heap.size + 2) R) := ⟨v3, by simpa using Blk.new ((w.alloc (.cells (calL C1 v1).toArray 27)).alloc (.cells (calL C2 v2).toArray 27)) 36 (repL R v3).toArray, (h3.weak fun b h _ => h).below hb3⟩
  have HT := Lib.hid hb3
  have HVI := Lib.hid hvi
  have HNN := Lib.hid hn
  clear hb1 hb2 hb3 h1 h2 h3 hvi hn
  obtain ⟨Ai, ci, rfl, _⟩ := id HVI.out
  go_enter Try.func5, Try.ntmps5
  go_wp2_with fail
  generalize (((w.alloc (.cells (calL C1 v1).toArray 27)).alloc (.cells (calL C2 v2).toArray 27)).alloc (.cells (repL R v3).toArray 36)) = w1 at *
  refine (new_any (nid := nid) (inc := inc) (bs := bs) (HVI.out.below HT.out) HNN.out).mono ?_
  rintro e w2 ⟨hp, hb⟩
  have HBL : Hid (w.heap.size + 2 < w2.heap.size) := by { show _ < _; have := HR3.out.lt; have := hb.size; omega }
  have HT := Lib.hid (below_call HT.out HT.out.size hb)
  have HL1 := Lib.hid (HL1.out.below hb)
  have HL2 := Lib.hid (HL2.out.below hb)
  have HR3 := Lib.hid (HR3.out.below hb)
  clear hb
  rcases hp with ⟨hok, vb, rfl, hvb⟩ | ⟨_, rfl⟩
  · skip
    have hvc := SlB.nil (fun b => w1.heap.size ≤ b) w2
    have HVB := Lib.hid hvb
    have HVC := Lib.hid hvc
    have HO : Hid (vb.oneCell' = true) := hvb.one
    have HOK := Lib.hid hok
    clear hvb hvc hok
    go_wp2_with (refine wpList_alloc_blk rfl rfl zero_client ?_; rintro g w3 hg hB hb; refine Hid.out ?_)
    refine Lib.hid ?_
    have HG : Hid (w.heap.size ≤ g) := by { show _ ≤ _; rw [← hg]; exact HT.out.size }
    have HGN : Hid (w2.heap.size = g) := hg
    have HT := Lib.hid (below_call HT.out HT.out.size hb)
    have HB := Lib.hid hB
    have HW := Lib.hid hb
    go_wp2_with (refine wpList_store_blk rfl rfl rfl rfl HB.out rfl (info_client rfl) (cliL_one HO.out rfl) ?_; rintro w4 hB4 hm; refine Hid.out ?_)
    refine Lib.hid ?_
    have HT := Lib.hid (HT.out.trans (hm.to_below HT.out.size fun b hb e => by have := HG.out; omega))
    have HC : Hid (Cv (fun b => b ≠ g) w4 g (newX nid inc bs)) := ⟨vb, _, hB4, ((HVB.out.weak (K' := fun b => b ≠ g) fun b h _ => by have := HGN.out; show b ≠ g; omega).below HW.out).mod hm fun b h => h, SlB.nil _ _⟩
    have HL1 := Lib.hid (((HL1.out.weak (K' := fun b => b ≠ g) fun b h _ => by have := HGN.out; show b ≠ g; omega).below HW.out).mod hm (by have := HGN.out; have := HBL.out; omega) fun b h => h)
    have HL2 := Lib.hid (((HL2.out.weak (K' := fun b => b ≠ g) fun b h _ => by have := HGN.out; show b ≠ g; omega).below HW.out).mod hm (by have := HGN.out; have := HBL.out; omega) fun b h => h)
    have HR3 := Lib.hid (((HR3.out.weak (K' := fun b => b ≠ g) fun b h _ => by have := HGN.out; show b ≠ g; omega).below HW.out).mod hm (by have := HGN.out; have := HBL.out; omega) fun b h => h)
    have HNB : Hid (w.heap.size ≠ g ∧ w.heap.size + 1 ≠ g ∧ w.heap.size + 2 ≠ g) := by { show _ ∧ _; have := HGN.out; have := HBL.out; omega }
    clear hg hB hb hB4 hm HW HB HVB HVC HO HGN HBL
    obtain ⟨v1, hB1, hv1⟩ := HL1.out
    obtain ⟨A1, k1, rfl, _⟩ := id hv1
    obtain ⟨v2, hB2, hv2⟩ := HL2.out
    obtain ⟨A2, k2, rfl, _⟩ := id hv2
    obtain ⟨v3, hB3, hv3⟩ := HR3.out
    obtain ⟨A3, k3, rfl, _⟩ := id hv3
    have c1 : w4.cell? ⟨w.heap.size, 8, none⟩ = some (.slice A1 C1.body.length k1) := (hB1.cell 8).trans rfl
    have c2 : w4.cell? ⟨w.heap.size + 1, 8, none⟩ = some (.slice A2 C2.body.length k2) := (hB2.cell 8).trans rfl
    have c3 : w4.cell? ⟨w.heap.size + 2, 8, none⟩ = some (.slice A3 R.body.length k3) := (hB3.cell 8).trans rfl
    clear hB1 hB2 hB3 hv1 hv2 hv3
    by_cases hl1 : 5000 < C1.body.length
    · have d1 : decide ((5000 : Int) < (C1.body.length : Int)) = true := decide_eq_true (by omega)
      have d1' : decide (5000 < C1.body.length) = true := decide_eq_true hl1
      clear hl1
      go_wp2_with fail
      refine (cawake_any _).mono ?_
      rintro e w9 ⟨rfl, hb9⟩
      go_wp2_with fail
      go_ret
      exact ⟨rfl, below_call HT.out HT.out.size hb9⟩
    have d1 : decide ((5000 : Int) < (C1.body.length : Int)) = false := decide_eq_false (by omega)
    have d1' : decide (5000 < C1.body.length) = false := decide_eq_false hl1
    have HL1b := Lib.hid hl1
    clear hl1
    by_cases hl2 : 5000 < C2.body.length
    · have d2 : decide ((5000 : Int) < (C2.body.length : Int)) = true := decide_eq_true (by omega)
      have d2' : decide (5000 < C2.body.length) = true := decide_eq_true hl2
      clear hl2
      go_wp2_with fail
      refine (cawake_any _).mono ?_
      rintro e w9 ⟨rfl, hb9⟩
      go_wp2_with fail
      go_ret
      exact ⟨rfl, below_call HT.out HT.out.size hb9⟩
    have d2 : decide ((5000 : Int) < (C2.body.length : Int)) = false := decide_eq_false (by omega)
    have d2' : decide (5000 < C2.body.length) = false := decide_eq_false hl2
    have HL2b := Lib.hid hl2
    clear hl2
    by_cases hl3 : 5000 < R.body.length
    · have d3 : decide ((5000 : Int) < (R.body.length : Int)) = true := decide_eq_true (by omega)
      have d3' : decide (5000 < R.body.length) = true := decide_eq_true hl3
      clear hl3
      go_wp2_with fail
      refine (cawake_any _).mono ?_
      rintro e w9 ⟨rfl, hb9⟩
      go_wp2_with fail
      go_ret
      exact ⟨rfl, below_call HT.out HT.out.size hb9⟩
    have d3 : decide ((5000 : Int) < (R.body.length : Int)) = false := decide_eq_false (by omega)
    have d3' : decide (5000 < R.body.length) = false := decide_eq_false hl3
    have HL3b := Lib.hid hl3
    clear hl3
    -- Start HL1
    obtain ⟨vb, vc, hB, hvb, hvc⟩ := HC.out
    have HB := Lib.hid hB
    have HVB := Lib.hid hvb
    have HVC := Lib.hid hvc
    clear hB hvb hvc
    obtain ⟨v8, hB, hv⟩ := HL1.out
    have HB8 := Lib.hid hB
    have HV8 := Lib.hid hv
    clear hB hv
    go_wp2_with (refine wpList_load_blk rfl (ty := 29) rfl rfl HB.out Try.underlying29 rfl (info_client rfl) ?_; refine Hid.out ?_)
    refine Lib.hid ?_
    go_wp2_with (refine wpList_load_blk rfl (ty := 27) rfl rfl HB8.out Try.underlying27 rfl (info_call rfl) ?_; refine Hid.out ?_)
    refine Lib.hid ?_
    go_wp2_with fail
    have hT := start_any (X := newX nid inc bs) (now := now) (D := C1) HVB.out HVC.out HV8.out (good_new HOK.out) (Nat.zero_le _) (by have := HL1b.out; omega) (show 0 < 100000 by decide)
    clear c1 c2 c3 d1 d2 d3 d1' d2' d3'
    have hSE := st_startE (X := newX nid inc bs) rfl C1
    by_cases hm : mayC (callX (newX nid inc bs) C1) = false
    · rw [if_pos hm] at hSE
      clear hm
      refine hT.mono ?_
      clear hT
      rintro e w5 ⟨hp, hb⟩
      unfold StartPost at hp
      rw [hSE, if_neg (show ¬ (1 : Int) = 0 by decide)] at hp
      subst hp
      clear hSE
      have HT := Lib.hid (below_call HT.out HT.out.size hb)
      have HB := Lib.hid (HB.out.below hb HB.out.lt)
      clear hb
      go_wp2_with (refine wpList_store_blk rfl rfl rfl rfl HB.out rfl (info_client rfl) (cliL_one rfl rfl) ?_; rintro w91 hB hm; refine Hid.out ?_)
      refine Lib.hid ?_
      have HT := Lib.hid (HT.out.trans (hm.to_below HT.out.size fun b hb e => by have := HG.out; omega))
      go_wp2_with fail
      refine (cawake_any _).mono ?_
      rintro e w9 ⟨rfl, hb9⟩
      go_wp2_with fail
      go_ret
      exact ⟨rfl, below_call HT.out HT.out.size hb9⟩
    rw [if_neg hm] at hSE
    clear hm
    refine hT.mono ?_
    clear hT
    rintro e w5 ⟨hp, hb⟩
    unfold StartPost at hp
    rw [hSE, if_pos rfl] at hp
    clear hSE
    obtain ⟨vb', vc', sv, rfl, hvb, hvc, hsv⟩ := hp
    have HLB := Lib.hid HB8.out.lt
    have HGL := Lib.hid HB.out.lt
    have HT := Lib.hid (below_call HT.out HT.out.size hb)
    have HB := Lib.hid (HB.out.below hb HB.out.lt)
    have HC := Lib.hid (HC.out.below hb)
    have HL1 := Lib.hid (HL1.out.below hb)
    have HL2 := Lib.hid (HL2.out.below hb)
    have HR3 := Lib.hid (HR3.out.below hb)
    have HVB := Lib.hid (hvb.weak (K' := fun b => b ≠ g) fun b _ h => by have := HGL.out; have h : w4.heap.size ≤ b := h; show b ≠ g; omega)
    have HVC := Lib.hid (hvc.weak (K' := fun b => b ≠ g) fun b _ h => by have := HGL.out; have h : w4.heap.size ≤ b := h; show b ≠ g; omega)
    have HO : Hid (vb'.oneCell' = true ∧ vc'.oneCell' = true) := ⟨hvb.one, hvc.one⟩
    have HS1 := Lib.hid (hsv.weak (K' := fun b => b ≠ g) fun b _ h => by have := HGL.out; have h : w4.heap.size ≤ b := h; show b ≠ g; omega)
    obtain ⟨sHS1, kHS1, _, eHS1, _⟩ := HS1.out.cells
    subst eHS1
    clear hb hvb hvc hsv
    have HM := Lib.hid (Mod.refl (fun b => b = g) w5)
    have HM0 := Lib.hid (Below.refl w5.heap.size w5)
    go_wp2_with (refine wpList_store_blk rfl rfl rfl rfl HB.out rfl (info_client rfl) (cliL_one HO.out.1 HO.out.2) ?_; rintro w6 hB hm; refine Hid.out ?_)
    refine Lib.hid ?_
    have HB := Lib.hid hB
    have HM := Lib.hid (HM.out.trans hm)
    clear hB hm
    have HT := Lib.hid (HT.out.trans (HM.out.to_below HT.out.size fun b hb e => by have := HG.out; omega))
    have HC : Hid (Cv (fun b => b ≠ g) w6 g (startX (newX nid inc bs) now C1)) := ⟨vb', vc', HB.out, HVB.out.mod HM.out fun b h => h, HVC.out.mod HM.out fun b h => h⟩
    have HL1 := Lib.hid (HL1.out.mod HM.out (by have := HNB.out; omega) fun b h => h)
    have HL2 := Lib.hid (HL2.out.mod HM.out (by have := HNB.out; omega) fun b h => h)
    have HR3 := Lib.hid (HR3.out.mod HM.out (by have := HNB.out; omega) fun b h => h)
    have HS1 := Lib.hid (HS1.out.mod HM.out fun b h => h)
    clear HB HVB HVC HO HM HM0 HGL HB8 HV8 HLB
    obtain ⟨vb, vc, hB, hvb, hvc⟩ := HC.out
    have HB := Lib.hid hB
    have HVB := Lib.hid hvb
    have HVC := Lib.hid hvc
    clear hB hvb hvc
    go_wp2_with (refine wpList_load_blk rfl (ty := 29) rfl rfl HB.out Try.underlying29 rfl (info_client rfl) ?_; refine Hid.out ?_)
    refine Lib.hid ?_
    go_wp2_with (refine wpList_build4 (x := .int .i64 nid) (y := .int .u64 (inc : Int)) (z := .int .u64 1) (u := .int .i64 7) (v := .agg (repL { zRep with cl := nid, inc := inc, n := 1, res := 7 } (.slice none 0 0)).toArray) rfl rfl rfl rfl rfl rfl (build_r7 nid inc _) ?_; refine Hid.out ?_)
    refine Lib.hid ?_
    go_wp2_with fail
    have hT := take_any (X := startX (newX nid inc bs) now C1) (now := now) (R := { zRep with cl := nid, inc := inc, n := 1, res := 7 }) HVB.out HVC.out (SlB.nil (fun _ => True) _) (start_good (good_new HOK.out) (show 0 < 100000 by decide) _ _) (by have := HL1b.out; show C1.body.length ≤ _; omega) (Nat.zero_le _)
    rw [st_take] at hT
    refine hT.mono ?_
    clear hT
    rintro e w7 ⟨⟨vb', vc', sv, vr, rfl, hvb, hvc, hsv, hvr⟩, hb⟩
    have HGL := Lib.hid HB.out.lt
    have HT := Lib.hid (below_call HT.out HT.out.size hb)
    have HB := Lib.hid (HB.out.below hb HB.out.lt)
    have HC := Lib.hid (HC.out.below hb)
    have HL1 := Lib.hid (HL1.out.below hb)
    have HL2 := Lib.hid (HL2.out.below hb)
    have HR3 := Lib.hid (HR3.out.below hb)
    have HS1 := Lib.hid (HS1.out.below hb)
    have HVB := Lib.hid (hvb.weak (K' := fun b => b ≠ g) fun b _ h => by have := HGL.out; have h : w6.heap.size ≤ b := h; show b ≠ g; omega)
    have HVC := Lib.hid (hvc.weak (K' := fun b => b ≠ g) fun b _ h => by have := HGL.out; have h : w6.heap.size ≤ b := h; show b ≠ g; omega)
    have HO : Hid (vb'.oneCell' = true ∧ vc'.oneCell' = true) := ⟨hvb.one, hvc.one⟩
    have HVR := Lib.hid (hvr.weak (K' := fun b => b ≠ g) fun b _ h => by have := HGL.out; have h : w6.heap.size ≤ b := h; show b ≠ g; omega)
    have HOR := Lib.hid hvr.one
    obtain rfl : sv = .slice none 0 0 := hsv
    clear hb hvb hvc hvr
    have HM := Lib.hid (Mod.refl (fun b => b = g) w7)
    have HM0 := Lib.hid (Below.refl w7.heap.size w7)
    go_wp2_with (refine wpList_alloc_blk rfl rfl zero_reply ?_; rintro m8 w8 hg hB hb; refine Hid.out ?_)
    refine Lib.hid ?_
    have HNm8 : Hid (m8 ≠ g ∧ w7.heap.size ≤ m8) := by { show _ ∧ _; have := HM0.out.size; have := HB.out.lt; omega }
    have HBm8 := Lib.hid hB
    have HB := Lib.hid (HB.out.below hb HB.out.lt)
    have HM := Lib.hid (HM.out.trans (Mod.below hb (Nat.le_refl _)))
    have HM0 := Lib.hid (below_call HM0.out HM0.out.size hb)
    clear hg hB hb
    go_wp2_with (refine wpList_store_blk rfl rfl rfl rfl HB.out rfl (info_client rfl) (cliL_one HO.out.1 HO.out.2) ?_; rintro w9 hB hm; refine Hid.out ?_)
    refine Lib.hid ?_
    have HB := Lib.hid hB
    have HBm8 := Lib.hid (HBm8.out.mod hm (by have := HNm8.out; omega))
    have HM := Lib.hid (HM.out.trans hm)
    clear hB hm
    go_wp2_with (refine wpList_store_blk rfl rfl rfl rfl HBm8.out rfl (info_reply rfl) (repL_one HOR.out) ?_; rintro w10 hB hm; refine Hid.out ?_)
    refine Lib.hid ?_
    have HB := Lib.hid (HB.out.mod hm (by have := HNm8.out; omega))
    have HBm8 := Lib.hid hB
    have HM := Lib.hid (HM.out.join hm fun b hb e => absurd (show b = m8 from e) (by have := HNm8.out; omega))
    clear hB hm
    have q2 : w10.cell? ⟨m8, 2, none⟩ = some (.int .u64 1) := (HBm8.out.cell 2).trans rfl
    have HT := Lib.hid (HT.out.trans (HM.out.to_below HT.out.size fun b hb e => by have := HG.out; omega))
    have HC : Hid (Cv (fun b => b ≠ g) w10 g (stX nid inc bs now C1)) := ⟨vb', vc', HB.out, HVB.out.mod HM.out fun b h => h, HVC.out.mod HM.out fun b h => h⟩
    have HL1 := Lib.hid (HL1.out.mod HM.out (by have := HNB.out; omega) fun b h => h)
    have HL2 := Lib.hid (HL2.out.mod HM.out (by have := HNB.out; omega) fun b h => h)
    have HR3 := Lib.hid (HR3.out.mod HM.out (by have := HNB.out; omega) fun b h => h)
    have HS1 := Lib.hid (HS1.out.mod HM.out fun b h => h)
    clear HB HVB HVC HO HM HM0 HGL HBm8 HNm8 HVR HOR
    -- Start HL2
    obtain ⟨vb, vc, hB, hvb, hvc⟩ := HC.out
    have HB := Lib.hid hB
    have HVB := Lib.hid hvb
    have HVC := Lib.hid hvc
    clear hB hvb hvc
    obtain ⟨v8, hB, hv⟩ := HL2.out
    have HB8 := Lib.hid hB
    have HV8 := Lib.hid hv
    clear hB hv
    go_wp2_with (refine wpList_load_blk rfl (ty := 29) rfl rfl HB.out Try.underlying29 rfl (info_client rfl) ?_; refine Hid.out ?_)
    refine Lib.hid ?_
    go_wp2_with (refine wpList_load_blk rfl (ty := 27) rfl rfl HB8.out Try.underlying27 rfl (info_call rfl) ?_; refine Hid.out ?_)
    refine Lib.hid ?_
    go_wp2_with fail
    clear q2
    have hT := start_any (X := stX nid inc bs now C1) (now := now) (D := C2) HVB.out HVC.out HV8.out (st_good HOK.out now C1) (by have := HL1b.out; show C1.body.length ≤ _; omega) (by have := HL2b.out; omega) (show 0 + 1 < 100000 by decide)
    have hSE := st_startE (X := stX nid inc bs now C1) rfl C2
    by_cases hm : mayC (callX (stX nid inc bs now C1) C2) = false
    · rw [if_pos hm] at hSE
      clear hm
      refine hT.mono ?_
      clear hT
      rintro e w11 ⟨hp, hb⟩
      unfold StartPost at hp
      rw [hSE, if_neg (show ¬ (1 : Int) = 0 by decide)] at hp
      subst hp
      clear hSE
      have HT := Lib.hid (below_call HT.out HT.out.size hb)
      have HB := Lib.hid (HB.out.below hb HB.out.lt)
      clear hb
      go_wp2_with (refine wpList_store_blk rfl rfl rfl rfl HB.out rfl (info_client rfl) (cliL_one rfl rfl) ?_; rintro w91 hB hm; refine Hid.out ?_)
      refine Lib.hid ?_
      have HT := Lib.hid (HT.out.trans (hm.to_below HT.out.size fun b hb e => by have := HG.out; omega))
      go_wp2_with fail
      refine (cawake_any _).mono ?_
      rintro e w9 ⟨rfl, hb9⟩
      go_wp2_with fail
      go_ret
      exact ⟨rfl, below_call HT.out HT.out.size hb9⟩
    rw [if_neg hm] at hSE
    clear hm
    refine hT.mono ?_
    clear hT
    rintro e w11 ⟨hp, hb⟩
    unfold StartPost at hp
    rw [hSE, if_pos rfl] at hp
    clear hSE
    obtain ⟨vb', vc', sv, rfl, hvb, hvc, hsv⟩ := hp
    have HGL := Lib.hid HB.out.lt
    have HT := Lib.hid (below_call HT.out HT.out.size hb)
    have HB := Lib.hid (HB.out.below hb HB.out.lt)
    have HC := Lib.hid (HC.out.below hb)
    have HL1 := Lib.hid (HL1.out.below hb)
    have HL2 := Lib.hid (HL2.out.below hb)
    have HR3 := Lib.hid (HR3.out.below hb)
    have HS1 := Lib.hid (HS1.out.below hb)
    have HVB := Lib.hid (hvb.weak (K' := fun b => b ≠ g) fun b _ h => by have := HGL.out; have h : w10.heap.size ≤ b := h; show b ≠ g; omega)
    have HVC := Lib.hid (hvc.weak (K' := fun b => b ≠ g) fun b _ h => by have := HGL.out; have h : w10.heap.size ≤ b := h; show b ≠ g; omega)
    have HO : Hid (vb'.oneCell' = true ∧ vc'.oneCell' = true) := ⟨hvb.one, hvc.one⟩
    have HS2 := Lib.hid (hsv.weak (K' := fun b => b ≠ g) fun b _ h => by have := HGL.out; have h : w10.heap.size ≤ b := h; show b ≠ g; omega)
    obtain ⟨sHS2, kHS2, _, eHS2, _⟩ := HS2.out.cells
    subst eHS2
    clear hb hvb hvc hsv
    have HM := Lib.hid (Mod.refl (fun b => b = g) w11)
    have HM0 := Lib.hid (Below.refl w11.heap.size w11)
    go_wp2_with (refine wpList_store_blk rfl rfl rfl rfl HB.out rfl (info_client rfl) (cliL_one HO.out.1 HO.out.2) ?_; rintro w12 hB hm; refine Hid.out ?_)
    refine Lib.hid ?_
    have HB := Lib.hid hB
    have HM := Lib.hid (HM.out.trans hm)
    clear hB hm
    have HT := Lib.hid (HT.out.trans (HM.out.to_below HT.out.size fun b hb e => by have := HG.out; omega))
    have HC : Hid (Cv (fun b => b ≠ g) w12 g (startX (stX nid inc bs now C1) now C2)) := ⟨vb', vc', HB.out, HVB.out.mod HM.out fun b h => h, HVC.out.mod HM.out fun b h => h⟩
    have HL1 := Lib.hid (HL1.out.mod HM.out (by have := HNB.out; omega) fun b h => h)
    have HL2 := Lib.hid (HL2.out.mod HM.out (by have := HNB.out; omega) fun b h => h)
    have HR3 := Lib.hid (HR3.out.mod HM.out (by have := HNB.out; omega) fun b h => h)
    have HS1 := Lib.hid (HS1.out.mod HM.out fun b h => h)
    have HS2 := Lib.hid (HS2.out.mod HM.out fun b h => h)
    clear HB HVB HVC HO HM HM0 HGL HB8 HV8
    obtain ⟨vb, vc, hB, hvb, hvc⟩ := HC.out
    have HB := Lib.hid hB
    have HVB := Lib.hid hvb
    have HVC := Lib.hid hvc
    clear hB hvb hvc
    obtain ⟨v8, hB, hv⟩ := HR3.out
    have HB8 := Lib.hid hB
    have HV8 := Lib.hid hv
    clear hB hv
    go_wp2_with (refine wpList_load_blk rfl (ty := 29) rfl rfl HB.out Try.underlying29 rfl (info_client rfl) ?_; refine Hid.out ?_)
    refine Lib.hid ?_
    go_wp2_with (refine wpList_load_blk rfl (ty := 36) rfl rfl HB8.out Try.underlying36 rfl (info_reply rfl) ?_; refine Hid.out ?_)
    refine Lib.hid ?_
    go_wp2_with fail
    have hT := take_any (X := startX (stX nid inc bs now C1) now C2) (now := now) (R := R) HVB.out HVC.out HV8.out (start_good (st_good HOK.out now C1) (show 0 + 1 < 100000 by decide) now C2) (by have := HL2b.out; show C2.body.length ≤ _; omega) (by have := HL3b.out; omega)
    by_cases hm : R.cl = nid ∧ R.inc = inc ∧ R.n = 2
    · skip
      refine hT.mono ?_
      clear hT
      rintro e w13 ⟨⟨vb', vc', sv, vr, rfl, hvb, hvc, hsv, hvr⟩, hb⟩
      obtain ⟨As, ns, cs, esv⟩ : ∃ A n c, sv = .slice A n c := by
        cases hts : (takeX (startX (stX nid inc bs now C1) now C2) now R).sent with
        | none => rw [hts] at hsv; exact ⟨_, _, _, hsv⟩
        | some x => rw [hts] at hsv; obtain ⟨g, c, vc, e, _⟩ := hsv; exact ⟨_, _, _, e⟩
      subst esv
      generalize (takeX (startX (stX nid inc bs now C1) now C2) now R) = TT at *
      have HGL := Lib.hid HB.out.lt
      have HT := Lib.hid (below_call HT.out HT.out.size hb)
      have HB := Lib.hid (HB.out.below hb HB.out.lt)
      have HC := Lib.hid (HC.out.below hb)
      have HL1 := Lib.hid (HL1.out.below hb)
      have HL2 := Lib.hid (HL2.out.below hb)
      have HR3 := Lib.hid (HR3.out.below hb)
      have HS1 := Lib.hid (HS1.out.below hb)
      have HS2 := Lib.hid (HS2.out.below hb)
      have HVB := Lib.hid (hvb.weak (K' := fun b => b ≠ g) fun b _ h => by have := HGL.out; have h : w12.heap.size ≤ b := h; show b ≠ g; omega)
      have HVC := Lib.hid (hvc.weak (K' := fun b => b ≠ g) fun b _ h => by have := HGL.out; have h : w12.heap.size ≤ b := h; show b ≠ g; omega)
      have HO : Hid (vb'.oneCell' = true ∧ vc'.oneCell' = true) := ⟨hvb.one, hvc.one⟩
      have HVR := Lib.hid (hvr.weak (K' := fun b => b ≠ g) fun b _ h => by have := HGL.out; have h : w12.heap.size ≤ b := h; show b ≠ g; omega)
      have HOR := Lib.hid hvr.one
      have HSV := Lib.hid (hsv.weak (K' := fun b => b ≠ g) fun b _ h => by have := HGL.out; have h : w12.heap.size ≤ b := h; show b ≠ g; omega)
      clear hb hvb hvc hsv hvr
      have HM := Lib.hid (Mod.refl (fun b => b = g) w13)
      have HM0 := Lib.hid (Below.refl w13.heap.size w13)
      go_wp2_with (refine wpList_alloc_blk rfl rfl zero_client ?_; rintro n14 w14 hg hB hb; refine Hid.out ?_)
      refine Lib.hid ?_
      have HNn14 : Hid (n14 ≠ g ∧ w13.heap.size ≤ n14) := by { show _ ∧ _; have := HM0.out.size; have := HB.out.lt; omega }
      have HBn14 := Lib.hid hB
      have HB := Lib.hid (HB.out.below hb HB.out.lt)
      have HM := Lib.hid (HM.out.trans (Mod.below hb (Nat.le_refl _)))
      have HM0 := Lib.hid (below_call HM0.out HM0.out.size hb)
      clear hg hB hb
      go_wp2_with (refine wpList_alloc_blk rfl rfl zero_reply ?_; rintro m15 w15 hg hB hb; refine Hid.out ?_)
      refine Lib.hid ?_
      have HNm15 : Hid (m15 ≠ g ∧ w13.heap.size ≤ m15) := by { show _ ∧ _; have := HM0.out.size; have := HB.out.lt; omega }
      have HXn14m15 : Hid (n14 ≠ m15) := by { show _ ≠ _; have := HBn14.out.lt; omega }
      have HBn14 := Lib.hid (HBn14.out.below hb HBn14.out.lt)
      have HBm15 := Lib.hid hB
      have HB := Lib.hid (HB.out.below hb HB.out.lt)
      have HM := Lib.hid (HM.out.trans (Mod.below hb (Nat.le_refl _)))
      have HM0 := Lib.hid (below_call HM0.out HM0.out.size hb)
      clear hg hB hb
      go_wp2_with (refine wpList_store_blk rfl rfl rfl rfl HBn14.out rfl (info_client rfl) (cliL_one HO.out.1 HO.out.2) ?_; rintro w16 hB hm; refine Hid.out ?_)
      refine Lib.hid ?_
      have HB := Lib.hid (HB.out.mod hm (by have := HNn14.out; omega))
      have HBm15 := Lib.hid (HBm15.out.mod hm (by have := HXn14m15.out; omega))
      have HBn14 := Lib.hid hB
      have HM := Lib.hid (HM.out.join hm fun b hb e => absurd (show b = n14 from e) (by have := HNn14.out; omega))
      have HM0 := Lib.hid (HM0.out.trans (hm.to_below HM0.out.size fun b hb e => absurd (show b = n14 from e) (by have := HNn14.out; omega)))
      clear hB hm
      go_wp2_with (refine wpList_store_blk rfl rfl rfl rfl HBm15.out rfl (info_reply rfl) (repL_one HOR.out) ?_; rintro w17 hB hm; refine Hid.out ?_)
      refine Lib.hid ?_
      have HB := Lib.hid (HB.out.mod hm (by have := HNm15.out; omega))
      have HBn14 := Lib.hid (HBn14.out.mod hm (by have := HXn14m15.out; omega))
      have HBm15 := Lib.hid hB
      have HM := Lib.hid (HM.out.join hm fun b hb e => absurd (show b = m15 from e) (by have := HNm15.out; omega))
      have HM0 := Lib.hid (HM0.out.trans (hm.to_below HM0.out.size fun b hb e => absurd (show b = m15 from e) (by have := HNm15.out; omega)))
      clear hB hm
      have HT := Lib.hid (below_call HT.out HT.out.size HM0.out)
      have HC := Lib.hid (HC.out.below HM0.out)
      have HL1 := Lib.hid (HL1.out.below HM0.out)
      have HL2 := Lib.hid (HL2.out.below HM0.out)
      have HR3 := Lib.hid (HR3.out.below HM0.out)
      have HS1 := Lib.hid (HS1.out.below HM0.out)
      have HS2 := Lib.hid (HS2.out.below HM0.out)
      clear HB HVB HVC HO HM HM0 HGL HBn14 HNn14 HBm15 HNm15 HVR HOR HXn14m15 HB8 HV8
      obtain ⟨v3, hB3, _⟩ := HR3.out
      have x0 : w17.cell? ⟨w.heap.size + 2, 0, none⟩ = some (.int .i64 R.cl) := (hB3.cell 0).trans rfl
      have x1 : w17.cell? ⟨w.heap.size + 2, 1, none⟩ = some (.int .u64 (R.inc : Int)) := (hB3.cell 1).trans rfl
      have x2 : w17.cell? ⟨w.heap.size + 2, 2, none⟩ = some (.int .u64 (R.n : Int)) := (hB3.cell 2).trans rfl
      clear hB3
      obtain ⟨rfl, rfl, h2⟩ := hm
      have e2 : ((R.n : Int) == 2) = true := beq_iff_eq.2 (by omega)
      have e3 : decide ((R.n : Int) = 2) = true := decide_eq_true (by omega)
      clear h2
      go_wp2_with fail
      refine (cawake_any _).mono ?_
      rintro e w9 ⟨rfl, hb9⟩
      go_wp2_with fail
      go_ret
      exact ⟨rfl, below_call HT.out HT.out.size hb9⟩
    have hnm : ¬ mineX (startX (stX nid inc bs now C1) now C2) R := fun h => hm ⟨h.2.1, h.2.2.1, h.2.2.2⟩
    rw [take_stale hnm] at hT
    clear hnm
    refine hT.mono ?_
    clear hT
    rintro e w13 ⟨⟨vb', vc', sv, vr, rfl, hvb, hvc, hsv, hvr⟩, hb⟩
    skip
    have HGL := Lib.hid HB.out.lt
    have HT := Lib.hid (below_call HT.out HT.out.size hb)
    have HB := Lib.hid (HB.out.below hb HB.out.lt)
    have HC := Lib.hid (HC.out.below hb)
    have HL1 := Lib.hid (HL1.out.below hb)
    have HL2 := Lib.hid (HL2.out.below hb)
    have HR3 := Lib.hid (HR3.out.below hb)
    have HS1 := Lib.hid (HS1.out.below hb)
    have HS2 := Lib.hid (HS2.out.below hb)
    have HVB := Lib.hid (hvb.weak (K' := fun b => b ≠ g) fun b _ h => by have := HGL.out; have h : w12.heap.size ≤ b := h; show b ≠ g; omega)
    have HVC := Lib.hid (hvc.weak (K' := fun b => b ≠ g) fun b _ h => by have := HGL.out; have h : w12.heap.size ≤ b := h; show b ≠ g; omega)
    have HO : Hid (vb'.oneCell' = true ∧ vc'.oneCell' = true) := ⟨hvb.one, hvc.one⟩
    have HVR := Lib.hid (hvr.weak (K' := fun b => b ≠ g) fun b _ h => by have := HGL.out; have h : w12.heap.size ≤ b := h; show b ≠ g; omega)
    have HOR := Lib.hid hvr.one
    obtain rfl : sv = .slice none 0 0 := hsv
    clear hb hvb hvc hvr
    have HM := Lib.hid (Mod.refl (fun b => b = g) w13)
    have HM0 := Lib.hid (Below.refl w13.heap.size w13)
    go_wp2_with (refine wpList_alloc_blk rfl rfl zero_client ?_; rintro n14 w14 hg hB hb; refine Hid.out ?_)
    refine Lib.hid ?_
    have HNn14 : Hid (n14 ≠ g ∧ w13.heap.size ≤ n14) := by { show _ ∧ _; have := HM0.out.size; have := HB.out.lt; omega }
    have HBn14 := Lib.hid hB
    have HB := Lib.hid (HB.out.below hb HB.out.lt)
    have HM := Lib.hid (HM.out.trans (Mod.below hb (Nat.le_refl _)))
    have HM0 := Lib.hid (below_call HM0.out HM0.out.size hb)
    clear hg hB hb
    go_wp2_with (refine wpList_alloc_blk rfl rfl zero_reply ?_; rintro m15 w15 hg hB hb; refine Hid.out ?_)
    refine Lib.hid ?_
    have HNm15 : Hid (m15 ≠ g ∧ w13.heap.size ≤ m15) := by { show _ ∧ _; have := HM0.out.size; have := HB.out.lt; omega }
    have HXn14m15 : Hid (n14 ≠ m15) := by { show _ ≠ _; have := HBn14.out.lt; omega }
    have HBn14 := Lib.hid (HBn14.out.below hb HBn14.out.lt)
    have HBm15 := Lib.hid hB
    have HB := Lib.hid (HB.out.below hb HB.out.lt)
    have HM := Lib.hid (HM.out.trans (Mod.below hb (Nat.le_refl _)))
    have HM0 := Lib.hid (below_call HM0.out HM0.out.size hb)
    clear hg hB hb
    go_wp2_with (refine wpList_store_blk rfl rfl rfl rfl HBn14.out rfl (info_client rfl) (cliL_one HO.out.1 HO.out.2) ?_; rintro w16 hB hm; refine Hid.out ?_)
    refine Lib.hid ?_
    have HB := Lib.hid (HB.out.mod hm (by have := HNn14.out; omega))
    have HBm15 := Lib.hid (HBm15.out.mod hm (by have := HXn14m15.out; omega))
    have HBn14 := Lib.hid hB
    have HM := Lib.hid (HM.out.join hm fun b hb e => absurd (show b = n14 from e) (by have := HNn14.out; omega))
    have HM0 := Lib.hid (HM0.out.trans (hm.to_below HM0.out.size fun b hb e => absurd (show b = n14 from e) (by have := HNn14.out; omega)))
    clear hB hm
    go_wp2_with (refine wpList_store_blk rfl rfl rfl rfl HBm15.out rfl (info_reply rfl) (repL_one HOR.out) ?_; rintro w17 hB hm; refine Hid.out ?_)
    refine Lib.hid ?_
    have HB := Lib.hid (HB.out.mod hm (by have := HNm15.out; omega))
    have HBn14 := Lib.hid (HBn14.out.mod hm (by have := HXn14m15.out; omega))
    have HBm15 := Lib.hid hB
    have HM := Lib.hid (HM.out.join hm fun b hb e => absurd (show b = m15 from e) (by have := HNm15.out; omega))
    have HM0 := Lib.hid (HM0.out.trans (hm.to_below HM0.out.size fun b hb e => absurd (show b = m15 from e) (by have := HNm15.out; omega)))
    clear hB hm
    have HD : Hid (Cv (fun b => b ≠ g) w17 n14 (startX (stX nid inc bs now C1) now C2)) := ⟨vb', vc', HBn14.out, HVB.out.mod HM.out fun b h => h, HVC.out.mod HM.out fun b h => h⟩
    have HT := Lib.hid (below_call HT.out HT.out.size HM0.out)
    have HC := Lib.hid (HC.out.below HM0.out)
    have HL1 := Lib.hid (HL1.out.below HM0.out)
    have HL2 := Lib.hid (HL2.out.below HM0.out)
    have HR3 := Lib.hid (HR3.out.below HM0.out)
    have HS1 := Lib.hid (HS1.out.below HM0.out)
    have HS2 := Lib.hid (HS2.out.below HM0.out)
    clear HB HVB HVC HO HM HM0 HGL HBn14 HNn14 HBm15 HNm15 HVR HOR HXn14m15 HB8 HV8
    obtain ⟨v3, hB3, _⟩ := HR3.out
    have x0 : w17.cell? ⟨w.heap.size + 2, 0, none⟩ = some (.int .i64 R.cl) := (hB3.cell 0).trans rfl
    have x1 : w17.cell? ⟨w.heap.size + 2, 1, none⟩ = some (.int .u64 (R.inc : Int)) := (hB3.cell 1).trans rfl
    have x2 : w17.cell? ⟨w.heap.size + 2, 2, none⟩ = some (.int .u64 (R.n : Int)) := (hB3.cell 2).trans rfl
    clear hB3
    by_cases e0 : R.cl = nid
    · have d0 : (R.cl == nid) = true := beq_iff_eq.2 e0
      have d0' : decide (R.cl = nid) = true := decide_eq_true e0
      by_cases e1 : R.inc = inc
      · have d1 : ((R.inc : Int) == (inc : Int)) = true := beq_iff_eq.2 (by omega)
        have d1' : decide ((R.inc : Int) = (inc : Int)) = true := decide_eq_true (by omega)
        have d2 : ((R.n : Int) == 2) = false := beq_eq_false_iff_ne.2 (fun h => hm ⟨e0, e1, by omega⟩)
        have d2' : decide ((R.n : Int) = 2) = false := decide_eq_false (fun h => hm ⟨e0, e1, by omega⟩)
        clear e0 e1 hm
        obtain ⟨vbA, vcA, hBA, hvbA, hvcA⟩ := HC.out
        obtain ⟨vbB, vcB, hBB, hvbB, hvcB⟩ := HD.out
        have HBA := Lib.hid hBA
        have HBB := Lib.hid hBB
        have hS := csame_any hvbA hvcA hvbB hvcB
        have HS := Lib.hid hS
        clear hBA hBB hvbA hvcA hvbB hvcB hS
        go_wp2_with (refine wpList_load_blk rfl (ty := 29) rfl rfl HBA.out Try.underlying29 rfl (info_client rfl) ?_; refine Hid.out ?_)
        refine Lib.hid ?_
        go_wp2_with (refine wpList_load_blk rfl (ty := 29) rfl rfl HBB.out Try.underlying29 rfl (info_client rfl) ?_; refine Hid.out ?_)
        refine Lib.hid ?_
        go_wp2_with fail
        refine HS.out.mono ?_
        rintro e w18 ⟨rfl, hb18⟩
        have HT := Lib.hid (below_call HT.out HT.out.size hb18)
        clear hb18
        go_wp2_with fail
        refine (cawake_any _).mono ?_
        rintro e w9 ⟨rfl, hb9⟩
        go_wp2_with fail
        go_ret
        exact ⟨rfl, below_call HT.out HT.out.size hb9⟩
      · have d1 : ((R.inc : Int) == (inc : Int)) = false := beq_eq_false_iff_ne.2 (by omega)
        have d1' : decide ((R.inc : Int) = (inc : Int)) = false := decide_eq_false (by omega)
        clear e0 e1 hm
        obtain ⟨vbA, vcA, hBA, hvbA, hvcA⟩ := HC.out
        obtain ⟨vbB, vcB, hBB, hvbB, hvcB⟩ := HD.out
        have HBA := Lib.hid hBA
        have HBB := Lib.hid hBB
        have hS := csame_any hvbA hvcA hvbB hvcB
        have HS := Lib.hid hS
        clear hBA hBB hvbA hvcA hvbB hvcB hS
        go_wp2_with (refine wpList_load_blk rfl (ty := 29) rfl rfl HBA.out Try.underlying29 rfl (info_client rfl) ?_; refine Hid.out ?_)
        refine Lib.hid ?_
        go_wp2_with (refine wpList_load_blk rfl (ty := 29) rfl rfl HBB.out Try.underlying29 rfl (info_client rfl) ?_; refine Hid.out ?_)
        refine Lib.hid ?_
        go_wp2_with fail
        refine HS.out.mono ?_
        rintro e w18 ⟨rfl, hb18⟩
        have HT := Lib.hid (below_call HT.out HT.out.size hb18)
        clear hb18
        go_wp2_with fail
        refine (cawake_any _).mono ?_
        rintro e w9 ⟨rfl, hb9⟩
        go_wp2_with fail
        go_ret
        exact ⟨rfl, below_call HT.out HT.out.size hb9⟩
    · have d0 : (R.cl == nid) = false := beq_eq_false_iff_ne.2 e0
      have d0' : decide (R.cl = nid) = false := decide_eq_false e0
      clear e0 hm
      obtain ⟨vbA, vcA, hBA, hvbA, hvcA⟩ := HC.out
      obtain ⟨vbB, vcB, hBB, hvbB, hvcB⟩ := HD.out
      have HBA := Lib.hid hBA
      have HBB := Lib.hid hBB
      have hS := csame_any hvbA hvcA hvbB hvcB
      have HS := Lib.hid hS
      clear hBA hBB hvbA hvcA hvbB hvcB hS
      go_wp2_with (refine wpList_load_blk rfl (ty := 29) rfl rfl HBA.out Try.underlying29 rfl (info_client rfl) ?_; refine Hid.out ?_)
      refine Lib.hid ?_
      go_wp2_with (refine wpList_load_blk rfl (ty := 29) rfl rfl HBB.out Try.underlying29 rfl (info_client rfl) ?_; refine Hid.out ?_)
      refine Lib.hid ?_
      go_wp2_with fail
      refine HS.out.mono ?_
      rintro e w18 ⟨rfl, hb18⟩
      have HT := Lib.hid (below_call HT.out HT.out.size hb18)
      clear hb18
      go_wp2_with fail
      refine (cawake_any _).mono ?_
      rintro e w9 ⟨rfl, hb9⟩
      go_wp2_with fail
      go_ret
      exact ⟨rfl, below_call HT.out HT.out.size hb9⟩
  · skip
    go_wp2_with (refine wpList_alloc_blk rfl rfl zero_client ?_; rintro g w3 hg hB hb; refine Hid.out ?_)
    refine Lib.hid ?_
    have HG : Hid (w.heap.size ≤ g) := by { show _ ≤ _; rw [← hg]; exact HT.out.size }
    have HGN : Hid (w2.heap.size = g) := hg
    have HT := Lib.hid (below_call HT.out HT.out.size hb)
    have HB := Lib.hid hB
    have HW := Lib.hid hb
    go_wp2_with (refine wpList_store_blk rfl rfl rfl rfl HB.out rfl (info_client rfl) (cliL_one rfl rfl) ?_; rintro w4 hB4 hm; refine Hid.out ?_)
    refine Lib.hid ?_
    have HT := Lib.hid (HT.out.trans (hm.to_below HT.out.size fun b hb e => by have := HG.out; omega))
    go_wp2_with fail
    refine (cawake_any _).mono ?_
    rintro e w9 ⟨rfl, hb9⟩
    go_wp2_with fail
    go_ret
    exact ⟨rfl, below_call HT.out HT.out.size hb9⟩
end Go.Proofs.Ytpbaofabflgpkaa
