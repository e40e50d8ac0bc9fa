/- The law JudgeSerial, walked. -/
import Derived.Test.YtpjmolnkmlpfeaaGreatDoorJuLk
namespace Go.Proofs.YtpjmolnkmlpfeaaGreatDoor
set_option linter.unusedVariables false
set_option linter.unusedSimpArgs false
set_option maxRecDepth 100000
open Go.RowKit

/-- A region's end, once for all its forks; a place and two values were made in it. -/
def Norm3 (A : Nat → Value → Value → Act) (S : Nat → Value → Value → World → Prop) (e : Exit) (b : Act) (w' : World) : Prop := match e with | .normal => ∃ g u v, b = A g u v ∧ S g u v w' | _ => False
theorem share3 {P : Program} {c : Code} {Q : Exit → Act → World → Prop} {a : Act} {w : World} {S : Nat → Value → Value → World → Prop} {A : Nat → Value → Value → Act} (walk : c.wp P (Norm3 A S) a w) (rest : ∀ g u v w', S g u v w' → Q .normal (A g u v) w') : c.wp P Q a w :=
  Code.wp_mono (fun e b w' h => by
    cases e with
    | normal => obtain ⟨g, u, v, rfl, hs⟩ := h; exact rest g u v w' hs
    | _ => exact h.elim) walk
namespace JudgeSerial
set_option maxRecDepth 100000 in
set_option maxHeartbeats 16000000 in
theorem walk {w : World} (A : Option Addr) (lc : List CaV) (c : Nat) (hra : Reads w 9 A lc.length (lc.flatMap caL)) (h1 : lc.length ≤ c) (h2 : c ≤ 9223372036854775807) (hca : ∀ x ∈ lc, CaIn w x) (B : Option Addr) (lr : List ReV) (d : Nat) (hrb : Reads w 9 B lr.length (lr.flatMap reL)) (h3 : lr.length ≤ d) (h4 : d ≤ 9223372036854775807) (hcb : ∀ x ∈ lr, ReIn w x) :
    Calls Tryz.prog 5 #[.slice A lc.length c, .slice B lr.length d] w fun e w' => e = .returned (.bool true) ∧ Below w.heap.size w w' := by
  have HRA := Lib.hid hra
  have HRB := Lib.hid hrb
  have HCA := Lib.hid hca
  have HCB2 := Lib.hid hcb
  have haw : ∀ w5, Below w.heap.size w w5 → Calls Tryz.prog 9 #[] w5 fun e w' => e = .returned (.bool true) ∧ Below w.heap.size w w' := fun w2 h2 => (awake_any w2).mono fun e w' ⟨h1, h3⟩ => ⟨h1, h2.trans (h3.mono h2.size)⟩
  have HAW := Lib.hid haw
  have hlc : lc.length ≤ 9223372036854775807 := by omega
  have hlr : lr.length ≤ 9223372036854775807 := by omega
  clear haw hra hrb hca hcb h1 h2 h3 h4
  by_cases hbig : 100 < lc.length
  · have d1 : decide (100 < lc.length) = true := decide_eq_true hbig
    have d2 : decide ((100 : Int) < (lc.length : Int)) = true := decide_eq_true (by omega)
    clear hbig
    go_enter Tryz.func5, Tryz.ntmps5
    go_wp2_with fail
    refine (HAW.out w (Below.refl _ _)).mono ?_
    rintro e w3 ⟨rfl, hb⟩
    go_wp2_with fail
    go_ret
    exact ⟨rfl, hb⟩
  have d1 : decide (100 < lc.length) = false := decide_eq_false hbig
  have d2 : decide ((100 : Int) < (lc.length : Int)) = false := decide_eq_false (by omega)
  by_cases heq : lr.length = lc.length
  rotate_left
  · have d3 : ((lr.length : Int) != (lc.length : Int)) = true := by simp only [bne_iff_ne, ne_eq]; omega
    have d4 : (lr.length != lc.length) = true := by simp only [bne_iff_ne, ne_eq]; omega
    clear heq
    go_enter Tryz.func5, Tryz.ntmps5
    go_wp2_with fail
    refine (HAW.out w (Below.refl _ _)).mono ?_
    rintro e w3 ⟨rfl, hb⟩
    go_wp2_with fail
    go_ret
    exact ⟨rfl, hb⟩
  have d3 : ((lr.length : Int) != (lc.length : Int)) = false := by simp only [bne_eq_false_iff_eq]; omega
  have d4 : (lr.length != lc.length) = false := by simp only [bne_eq_false_iff_eq]; omega
  have HEQ := Lib.hid heq
  have hn : lc.length ≤ 100 := by omega
  clear heq hbig hlc hlr
  go_enter Tryz.func5, Tryz.ntmps5
  go_wp2_with (refine wpList_build0 rfl rfl (build_mdl _) ?_; refine wpList_build0 rfl rfl (build_mdl _) ?_; refine wpList_build0 rfl rfl (build_mdl _) ?_; refine wpList_bs3 rfl rfl rfl rfl rfl (bs_mdl _) ?_; refine Hid.out ?_)
  refine Lib.hid ?_
  have HS0 : Hid (SerB w.heap.size nilV (w.alloc (.cells (mdT (fun _ => zMdl) (fun _ => (nilV, nilV))).toArray 45)) (fun _ => zMdl)) := ⟨fun _ => (nilV, nilV), Blk.new _ _ _, fun n => ⟨SlE.nil _ _, SlU.nil _ _⟩⟩
  have HT0 : Hid (Below w.heap.size w (w.alloc (.cells (mdT (fun _ => zMdl) (fun _ => (nilV, nilV))).toArray 45))) := below_new _ _
  have HZ0 : Hid (w.heap.size + 1 ≤ (w.alloc (.cells (mdT (fun _ => zMdl) (fun _ => (nilV, nilV))).toArray 45)).heap.size) := by show _ ≤ _; simp
  generalize w.alloc (.cells (mdT (fun _ => zMdl) (fun _ => (nilV, nilV))).toArray 45) = w0 at HS0 HT0 HZ0 ⊢
  clear d1 d2 d3 d4
  go_wp2_with fail
  go_loopw [5, 7, 8] (fun hv mv iv wr => ∃ (k : Nat) (mb : Bool), k ≤ lc.length ∧ iv = .int .i64 k ∧ mv = .bool mb ∧ mb = (serF lc lr k).isSome ∧ Below w.heap.size w wr ∧ w.heap.size + 1 ≤ wr.heap.size ∧ OwH (w.heap.size + 1) wr hv (serV lc lr k) ∧ (∀ j, j < k → MayP (callK lc j) ∧ knownR (repK lc lr j).res = true) ∧ (∀ f, serF lc lr k = some f → SerB w.heap.size hv wr f)) (fun _ _ i _ => lc.length - (intOf i).toNat)
  case atStart => exact ⟨0, true, by omega, rfl, rfl, rfl, HT0.out, HZ0.out, World.ownsRow_nil _ _ _ _, (fun j hj => absurd hj (by omega)), fun f e => by injection e with e; subst e; exact HS0.out⟩
  case round =>
    obtain ⟨k, mb, hk, rfl, rfl, hmb, hb, hz, ho, hok, hsf⟩ := hrel
    obtain ⟨wr, rfl⟩ : ∃ wo : World, wo = wr := ⟨_, rfl⟩
    have HB := Lib.hid hb
    have HZ := Lib.hid hz
    have HO := Lib.hid ho
    have HOK := Lib.hid hok
    have HSF := Lib.hid hsf
    have HMB := Lib.hid hmb
    clear hb hz ho hok hsf hmb HS0 HT0 HZ0
    by_cases hlt : k < lc.length
    · have hlt2 : k < lr.length := by rw [HEQ.out]; exact hlt
      obtain ⟨b, o, rfl, hbl, hrg⟩ := rows_range caL_len (by decide) (HRA.out.below (HB.out.mono (Nat.le_refl _))) hlt
      obtain ⟨b2, o2, rfl, hbl2, hrg2⟩ := rows_range reL_len (by decide) (HRB.out.below (HB.out.mono (Nat.le_refl _))) hlt2
      have hxi := HCA.out _ (List.getElem_mem hlt)
      have hyi := HCB2.out _ (List.getElem_mem hlt2)
      obtain ⟨x, hx0⟩ : ∃ x, x = lc[k] := ⟨_, rfl⟩
      obtain ⟨y, hy0⟩ : ∃ y, y = lr[k] := ⟨_, rfl⟩
      rw [← hx0] at hrg hxi
      rw [← hy0] at hrg2 hyi
      have hX : lc.getD k zCaV = x := by rw [hx0, List.getD_eq_getElem?_getD, List.getElem?_eq_getElem hlt]; rfl
      have hY : lr.getD k zReV = y := by rw [hy0, List.getD_eq_getElem?_getD, List.getElem?_eq_getElem hlt2]; rfl
      have HX := Lib.hid hX
      have HY := Lib.hid hY
      have HCK : Hid (callK lc k = nuC x.c (k + 1)) := by show _ = _; unfold callK; rw [hX]
      have HRK : Hid (repK lc lr k = toR y.r (nuC x.c (k + 1))) := by show _ = _; unfold repK; rw [hY, HCK.out]
      have hok1 : x.v.oneCell' = true := hxi.v.one
      have hok2 : y.v.oneCell' = true := hyi.v.one
      have HXI := Lib.hid hxi
      have HYI := Lib.hid hyi
      have HBL : Hid (b < w.heap.size ∧ b2 < w.heap.size) := ⟨reads_lt HRA.out (by omega) rfl, reads_lt HRB.out (by omega) rfl⟩
      have HR1 := Lib.hid hrg
      have HR2 := Lib.hid hrg2
      clear hrg hrg2 hx0 hy0 hbl hbl2 hxi hyi hX hY
      go_wp2_with fail
      apply share2 (S := fun g9 g10 W => Below wr.heap.size wr W ∧ Blk W g9 25 (calL x.c x.v).toArray ∧ Blk W g10 32 (repL y.r y.v).toArray ∧ g9 ≠ g10 ∧ wr.heap.size ≤ g9 ∧ wr.heap.size ≤ g10)
      case walk =>
        refine PF.pf_begin (by kernel_rfl) ?_
        refine PF.pf_take0 0 (by kernel_rfl) rfl (fun _ _ _ _ _ h => h) (by kernel_rfl) (fun u => by go_simp; try rfl) ?_
        try simp only [Act.put, pz0, pz1, pz2]
        refine PF.pf_take0 1 (by kernel_rfl) rfl (fun _ _ _ _ _ h => h) (by kernel_rfl) (fun u => by go_simp; try rfl) ?_
        try simp only [Act.put, pz0, pz1, pz2]
        refine PF.pf_take0 2 (by kernel_rfl) rfl (fun _ _ _ _ _ h => h) (by kernel_rfl) (fun u => by go_simp; try rfl) ?_
        try simp only [Act.put, pz0, pz1, pz2]
        refine PF.pf_take1 3 ((fun u => u.rangeAt b (o + k * 9) (calL x.c x.v))) (by kernel_rfl) rfl (fun _ _ _ _ _ h => h) (by kernel_rfl) (HR1.out) (fun u hu => by (exact exec_load_rg rfl rfl hu Tryz.underlying25 rfl (infoj_call9 rfl))) ?_
        try simp only [Act.put, pz0, pz1, pz2]
        refine PF.pf_take0 4 (by kernel_rfl) rfl (fun _ _ _ _ _ h => h) (by kernel_rfl) (fun u => by go_simp; try rfl) ?_
        try simp only [Act.put, pz0, pz1, pz2]
        refine PF.pf_take0 5 (by kernel_rfl) rfl (fun _ _ _ _ _ h => h) (by kernel_rfl) (fun u => by go_simp; try rfl) ?_
        try simp only [Act.put, pz0, pz1, pz2]
        refine PF.pf_take0 6 (by kernel_rfl) rfl (fun _ _ _ _ _ h => h) (by kernel_rfl) (fun u => by go_simp; try rfl) ?_
        try simp only [Act.put, pz0, pz1, pz2]
        refine PF.pf_take1 7 ((fun u => u.rangeAt b2 (o2 + k * 9) (repL y.r y.v))) (by kernel_rfl) rfl (fun _ _ _ _ _ h => h) (by kernel_rfl) (HR2.out) (fun u hu => by (exact exec_load_rg rfl rfl hu Tryz.underlying32 rfl (infoj_reply9 rfl))) ?_
        try simp only [Act.put, pz0, pz1, pz2]
        refine PF.pf_fork [8, 9] (by kernel_rfl) rfl (PF.fork_cons ?_ (PF.fork_cons ?_ PF.fork_nil))
        -- number 8 first
        · refine PF.step_one rfl (by kernel_rfl) (fun K hK => ?_)
          refine wp_alloc_blk rfl zero_call ?_
          intro g9 v8 eg9 hB hb
          have HEg9 : Hid (wr.heap.size ≤ g9) := by have h1 : wr.heap.size ≤ _ := Nat.le_refl _; show _ ≤ _; rw [← eg9]; exact h1
          have hb := ((Below.refl wr.heap.size wr).drew).trans hb
          have HR1 := Lib.hid (rg_below HR1.out hb)
          have HR2 := Lib.hid (rg_below HR2.out hb)
          have HW := Lib.hid hb
          have Hg9 := Lib.hid hB
          clear eg9 hB hb
          refine hK _ _ (by repeat (first | exact PF.owes_nil | refine PF.owes_left ?_ | refine PF.owes_no (by decide +kernel) ?_ | refine PF.owes_yes (by first | exact HR1.out | exact HR2.out) ?_)) ?_
          clear hK K
          try simp only [Act.put, pz0, pz1, pz2]
          refine PF.pf_exec 9 (by kernel_rfl) rfl (by kernel_rfl) (fun K hK => ?_)
          refine wp_alloc_blk rfl zero_reply ?_
          intro g10 v9 eg10 hB hb
          have HN : Hid (g9 ≠ g10) := by have h1 := Hg9.out.lt; show _ ≠ _; omega
          have HEg10 : Hid (wr.heap.size ≤ g10) := by have h1 : wr.heap.size ≤ _ := HW.out.size; show _ ≤ _; rw [← eg10]; exact h1
          have HR1 := Lib.hid (rg_below HR1.out hb)
          have HR2 := Lib.hid (rg_below HR2.out hb)
          have HW := Lib.hid (HW.out.trans (hb.mono HW.out.size))
          have Hg9 := Lib.hid (Hg9.out.below hb Hg9.out.lt)
          have Hg10 := Lib.hid hB
          clear eg10 hB hb
          refine hK _ _ (by repeat (first | exact PF.owes_nil | refine PF.owes_left ?_ | refine PF.owes_no (by decide +kernel) ?_ | refine PF.owes_yes (by first | exact HR1.out | exact HR2.out) ?_)) ?_
          clear hK K
          try simp only [Act.put, pz0, pz1, pz2]
          refine PF.pf_exec 10 (by kernel_rfl) rfl (by kernel_rfl) (fun K hK => ?_)
          refine wp_store_blk (cs := (calL x.c x.v).toArray) rfl rfl rfl Hg9.out rfl (info_call rfl) (calL_one hok1) ?_
          intro v10 hB hm
          have HR1 : Hid (v10.rangeAt b (o + k * 9) (caL x)) := rg_mod HR1.out hm (fun e => by have := HEg9.out; have := HBL.out.1; have := HB.out.size; omega)
          have HR2 : Hid (v10.rangeAt b2 (o2 + k * 9) (reL y)) := rg_mod HR2.out hm (fun e => by have := HEg9.out; have := HBL.out.2; have := HB.out.size; omega)
          have Hg10 := Lib.hid (Hg10.out.mod hm fun e => HN.out e.symm)
          have HW := Lib.hid (HW.out.trans (hm.to_below HW.out.size fun b hb e => by have := HEg9.out; omega))
          have Hg9 := Lib.hid hB
          clear hB hm
          refine hK _ _ (by repeat (first | exact PF.owes_nil | refine PF.owes_left ?_ | refine PF.owes_no (by decide +kernel) ?_ | refine PF.owes_yes (by first | exact HR1.out | exact HR2.out) ?_)) ?_
          clear hK K
          try simp only [Act.put, pz0, pz1, pz2]
          refine PF.pf_exec 11 (by kernel_rfl) rfl (by kernel_rfl) (fun K hK => ?_)
          refine wp_store_blk (cs := (repL y.r y.v).toArray) rfl rfl rfl Hg10.out rfl (info_reply rfl) (repL_one hok2) ?_
          intro v11 hB hm
          have HR1 : Hid (v11.rangeAt b (o + k * 9) (caL x)) := rg_mod HR1.out hm (fun e => by have := HEg10.out; have := HBL.out.1; have := HB.out.size; omega)
          have HR2 : Hid (v11.rangeAt b2 (o2 + k * 9) (reL y)) := rg_mod HR2.out hm (fun e => by have := HEg10.out; have := HBL.out.2; have := HB.out.size; omega)
          have Hg9 := Lib.hid (Hg9.out.mod hm fun e => HN.out e)
          have HW := Lib.hid (HW.out.trans (hm.to_below HW.out.size fun b hb e => by have := HEg10.out; omega))
          have Hg10 := Lib.hid hB
          clear hB hm
          refine hK _ _ (by repeat (first | exact PF.owes_nil | refine PF.owes_left ?_ | refine PF.owes_no (by decide +kernel) ?_ | refine PF.owes_yes (by first | exact HR1.out | exact HR2.out) ?_)) ?_
          clear hK K
          try simp only [Act.put, pz0, pz1, pz2]
          refine PF.pf_done (by kernel_rfl) ?_
          exact ⟨g9, g10, rfl, HW.out, Hg9.out, Hg10.out, HN.out, HEg9.out, HEg10.out⟩
        -- number 9 first
        · refine PF.step_one rfl (by kernel_rfl) (fun K hK => ?_)
          refine wp_alloc_blk rfl zero_reply ?_
          intro g10 v9 eg10 hB hb
          have HEg10 : Hid (wr.heap.size ≤ g10) := by have h1 : wr.heap.size ≤ _ := Nat.le_refl _; show _ ≤ _; rw [← eg10]; exact h1
          have hb := ((Below.refl wr.heap.size wr).drew).trans hb
          have HR1 := Lib.hid (rg_below HR1.out hb)
          have HR2 := Lib.hid (rg_below HR2.out hb)
          have HW := Lib.hid hb
          have Hg10 := Lib.hid hB
          clear eg10 hB hb
          refine hK _ _ (by repeat (first | exact PF.owes_nil | refine PF.owes_left ?_ | refine PF.owes_no (by decide +kernel) ?_ | refine PF.owes_yes (by first | exact HR1.out | exact HR2.out) ?_)) ?_
          clear hK K
          try simp only [Act.put, pz0, pz1, pz2]
          refine PF.pf_exec 8 (by kernel_rfl) rfl (by kernel_rfl) (fun K hK => ?_)
          refine wp_alloc_blk rfl zero_call ?_
          intro g9 v8 eg9 hB hb
          have HN : Hid (g9 ≠ g10) := by have h1 := Hg10.out.lt; show _ ≠ _; omega
          have HEg9 : Hid (wr.heap.size ≤ g9) := by have h1 : wr.heap.size ≤ _ := HW.out.size; show _ ≤ _; rw [← eg9]; exact h1
          have HR1 := Lib.hid (rg_below HR1.out hb)
          have HR2 := Lib.hid (rg_below HR2.out hb)
          have HW := Lib.hid (HW.out.trans (hb.mono HW.out.size))
          have Hg10 := Lib.hid (Hg10.out.below hb Hg10.out.lt)
          have Hg9 := Lib.hid hB
          clear eg9 hB hb
          refine hK _ _ (by repeat (first | exact PF.owes_nil | refine PF.owes_left ?_ | refine PF.owes_no (by decide +kernel) ?_ | refine PF.owes_yes (by first | exact HR1.out | exact HR2.out) ?_)) ?_
          clear hK K
          try simp only [Act.put, pz0, pz1, pz2]
          refine PF.pf_exec 10 (by kernel_rfl) rfl (by kernel_rfl) (fun K hK => ?_)
          refine wp_store_blk (cs := (calL x.c x.v).toArray) rfl rfl rfl Hg9.out rfl (info_call rfl) (calL_one hok1) ?_
          intro v10 hB hm
          have HR1 : Hid (v10.rangeAt b (o + k * 9) (caL x)) := rg_mod HR1.out hm (fun e => by have := HEg9.out; have := HBL.out.1; have := HB.out.size; omega)
          have HR2 : Hid (v10.rangeAt b2 (o2 + k * 9) (reL y)) := rg_mod HR2.out hm (fun e => by have := HEg9.out; have := HBL.out.2; have := HB.out.size; omega)
          have Hg10 := Lib.hid (Hg10.out.mod hm fun e => HN.out e.symm)
          have HW := Lib.hid (HW.out.trans (hm.to_below HW.out.size fun b hb e => by have := HEg9.out; omega))
          have Hg9 := Lib.hid hB
          clear hB hm
          refine hK _ _ (by repeat (first | exact PF.owes_nil | refine PF.owes_left ?_ | refine PF.owes_no (by decide +kernel) ?_ | refine PF.owes_yes (by first | exact HR1.out | exact HR2.out) ?_)) ?_
          clear hK K
          try simp only [Act.put, pz0, pz1, pz2]
          refine PF.pf_exec 11 (by kernel_rfl) rfl (by kernel_rfl) (fun K hK => ?_)
          refine wp_store_blk (cs := (repL y.r y.v).toArray) rfl rfl rfl Hg10.out rfl (info_reply rfl) (repL_one hok2) ?_
          intro v11 hB hm
          have HR1 : Hid (v11.rangeAt b (o + k * 9) (caL x)) := rg_mod HR1.out hm (fun e => by have := HEg10.out; have := HBL.out.1; have := HB.out.size; omega)
          have HR2 : Hid (v11.rangeAt b2 (o2 + k * 9) (reL y)) := rg_mod HR2.out hm (fun e => by have := HEg10.out; have := HBL.out.2; have := HB.out.size; omega)
          have Hg9 := Lib.hid (Hg9.out.mod hm fun e => HN.out e)
          have HW := Lib.hid (HW.out.trans (hm.to_below HW.out.size fun b hb e => by have := HEg10.out; omega))
          have Hg10 := Lib.hid hB
          clear hB hm
          refine hK _ _ (by repeat (first | exact PF.owes_nil | refine PF.owes_left ?_ | refine PF.owes_no (by decide +kernel) ?_ | refine PF.owes_yes (by first | exact HR1.out | exact HR2.out) ?_)) ?_
          clear hK K
          try simp only [Act.put, pz0, pz1, pz2]
          refine PF.pf_done (by kernel_rfl) ?_
          exact ⟨g9, g10, rfl, HW.out, Hg9.out, Hg10.out, HN.out, HEg9.out, HEg10.out⟩
      case rest =>
        intro g9 g10 W ⟨hW, hB9, hB10, hne, he9, he10⟩
        have HNE := Lib.hid hne
        have HGE : Hid (wr.heap.size ≤ g9 ∧ wr.heap.size ≤ g10) := ⟨he9, he10⟩
        have HWB := Lib.hid hW
        clear hW hne he9 he10 HR1 HR2
        have cc2 := (hB9.cell 2).trans (rfl : _ = some (Value.int .u64 (x.c.n : Int)))
        have ff2 := hB9.free 2
        have hw1 : IntKind.i64.wrap ((k : Int) + 1) = (k : Int) + 1 := by rw [IntKind.wrap_i64]; omega
        have hw2 : IntKind.u64.wrap ((k : Int) + 1) = (k : Int) + 1 := by rw [IntKind.wrap_u64]; omega
        have hput := hB9.put 2 (.int .u64 ((k : Int) + 1))
        rw [put_nuC] at hput
        have H9 : Hid (Blk (W.setCell ⟨g9, 2, none⟩ (.int .u64 ((k : Int) + 1))) g9 25 (calL (nuC x.c (k + 1)) x.v).toArray) := hput
        have hm : Mod (fun b => b = g9) W (W.setCell ⟨g9, 2, none⟩ (.int .u64 ((k : Int) + 1))) := Mod.set (S := fun b => b = g9) (Mod.refl _ _) (p := ⟨g9, 2, none⟩) (fun _ => rfl) _
        have H10 := Lib.hid (hB10.mod hm fun e => HNE.out e.symm)
        have HM := Lib.hid hm
        clear hput hm hB9 hB10
        go_wp2_with fail
        clear cc2 ff2 hw1 hw2
        generalize W.setCell ⟨g9, 2, none⟩ (.int .u64 ((k : Int) + 1)) = W1 at H9 H10 HM ⊢
        have a0 := (H9.out.cell 0).trans (rfl : _ = some (Value.int .i64 x.c.cl))
        have a1 := (H9.out.cell 1).trans (rfl : _ = some (Value.int .u64 (x.c.inc : Int)))
        have a2 := (H9.out.cell 2).trans (rfl : _ = some (Value.int .u64 ((k : Int) + 1)))
        have q0 := (H10.out.cell 0).trans (rfl : _ = some (Value.int .i64 y.r.cl))
        have f0 := H10.out.free 0
        refine PF.pf_begin (by kernel_rfl) ?_
        refine PF.pf_take0 0 (by kernel_rfl) rfl (fun _ _ _ _ _ h => h) (by kernel_rfl) (fun u => by go_simp; try rfl) ?_
        try simp only [Act.put, pz0, pz1, pz2]
        refine PF.pf_take1 1 (PF.Same (g9) _) (by kernel_rfl) rfl (fun _ _ _ _ _ h => h) (by kernel_rfl) (PF.Same.refl _ _) (fun u hu => by have hcu := hu.cell; go_simp; try rfl) ?_
        try simp only [Act.put, pz0, pz1, pz2]
        refine PF.pf_take0 2 (by kernel_rfl) rfl (fun _ _ _ _ _ h => h) (by kernel_rfl) (fun u => by go_simp; try rfl) ?_
        try simp only [Act.put, pz0, pz1, pz2]
        refine PF.pf_take1 3 (PF.Same (g9) _) (by kernel_rfl) rfl (fun _ _ _ _ _ h => h) (by kernel_rfl) (PF.Same.refl _ _) (fun u hu => by have hcu := hu.cell; go_simp; try rfl) ?_
        try simp only [Act.put, pz0, pz1, pz2]
        refine PF.pf_take0 4 (by kernel_rfl) rfl (fun _ _ _ _ _ h => h) (by kernel_rfl) (fun u => by go_simp; try rfl) ?_
        try simp only [Act.put, pz0, pz1, pz2]
        refine PF.pf_take1 5 (PF.Same (g9) _) (by kernel_rfl) rfl (fun _ _ _ _ _ h => h) (by kernel_rfl) (PF.Same.refl _ _) (fun u hu => by have hcu := hu.cell; go_simp; try rfl) ?_
        try simp only [Act.put, pz0, pz1, pz2]
        refine PF.pf_take0 6 (by kernel_rfl) rfl (fun _ _ _ _ _ h => h) (by kernel_rfl) (fun u => by go_simp; try rfl) ?_
        try simp only [Act.put, pz0, pz1, pz2]
        refine PF.pf_exec 7 (by kernel_rfl) rfl (by kernel_rfl) (fun K hK => ?_)
        go_simp
        have H10 := Lib.hid (H10.out.put 0 (.int .i64 x.c.cl))
        have q1 := (H10.out.cell 1).trans (rfl : _ = some (Value.int .u64 (y.r.inc : Int)))
        have f1 := H10.out.free 1
        refine hK _ _ (by repeat (first | exact PF.owes_nil | refine PF.owes_left ?_ | refine PF.owes_no (by decide +kernel) ?_ | refine PF.owes_yes (by first | exact Below.heap_setCell _ _ _ _ HNE.out | exact (Below.heap_setCell _ _ _ _ HNE.out).trans (Below.heap_setCell _ _ _ _ HNE.out)) ?_)) ?_
        clear hK K
        try simp only [Act.put, pz0, pz1, pz2]
        refine PF.pf_take0 8 (by kernel_rfl) rfl (fun _ _ _ _ _ h => h) (by kernel_rfl) (fun u => by go_simp; try rfl) ?_
        try simp only [Act.put, pz0, pz1, pz2]
        refine PF.pf_exec 9 (by kernel_rfl) rfl (by kernel_rfl) (fun K hK => ?_)
        go_simp
        have H10 := Lib.hid (H10.out.put 1 (.int .u64 (x.c.inc : Int)))
        have q2 := (H10.out.cell 2).trans (rfl : _ = some (Value.int .u64 (y.r.n : Int)))
        have f2 := H10.out.free 2
        refine hK _ _ (by repeat (first | exact PF.owes_nil | refine PF.owes_left ?_ | refine PF.owes_no (by decide +kernel) ?_ | refine PF.owes_yes (by first | exact Below.heap_setCell _ _ _ _ HNE.out | exact (Below.heap_setCell _ _ _ _ HNE.out).trans (Below.heap_setCell _ _ _ _ HNE.out)) ?_)) ?_
        clear hK K
        try simp only [Act.put, pz0, pz1, pz2]
        refine PF.pf_take0 10 (by kernel_rfl) rfl (fun _ _ _ _ _ h => h) (by kernel_rfl) (fun u => by go_simp; try rfl) ?_
        try simp only [Act.put, pz0, pz1, pz2]
        refine PF.pf_exec 11 (by kernel_rfl) rfl (by kernel_rfl) (fun K hK => ?_)
        go_simp
        have H10 := Lib.hid (H10.out.put 2 (.int .u64 ((k : Int) + 1)))
        refine hK _ _ (by repeat (first | exact PF.owes_nil | refine PF.owes_left ?_ | refine PF.owes_no (by decide +kernel) ?_ | refine PF.owes_yes (by first | exact Below.heap_setCell _ _ _ _ HNE.out | exact (Below.heap_setCell _ _ _ _ HNE.out).trans (Below.heap_setCell _ _ _ _ HNE.out)) ?_)) ?_
        clear hK K
        try simp only [Act.put, pz0, pz1, pz2]
        refine PF.pf_done (by kernel_rfl) ?_
        clear a0 a1 a2 q0 q1 q2 f0 f1 f2
        have hm2 : Mod (fun b => b = g10) W1 (((W1.setCell ⟨g10, 0, none⟩ (.int .i64 x.c.cl)).setCell ⟨g10, 1, none⟩ (.int .u64 (x.c.inc : Int))).setCell ⟨g10, 2, none⟩ (.int .u64 ((k : Int) + 1))).drew :=
          (Mod.set (S := fun b => b = g10) (Mod.set (S := fun b => b = g10) (Mod.set (S := fun b => b = g10) (Mod.refl _ W1) (p := ⟨g10, 0, none⟩) (fun _ => rfl) _) (p := ⟨g10, 1, none⟩) (fun _ => rfl) _) (p := ⟨g10, 2, none⟩) (fun _ => rfl) _).drew
        have H10 : Hid (Blk (((W1.setCell ⟨g10, 0, none⟩ (.int .i64 x.c.cl)).setCell ⟨g10, 1, none⟩ (.int .u64 (x.c.inc : Int))).setCell ⟨g10, 2, none⟩ (.int .u64 ((k : Int) + 1))).drew g10 32 (repL (toR y.r (nuC x.c (k + 1))) y.v).toArray) := H10.out.drew
        have H9 := Lib.hid (H9.out.mod hm2 HNE.out)
        have hb1 : Below wr.heap.size wr W1 := HWB.out.trans (HM.out.to_below HWB.out.size fun b hb e => by have := HGE.out.1; omega)
        have HWB := Lib.hid (hb1.trans (hm2.to_below hb1.size fun b hb e => by have := HGE.out.2; omega))
        clear hm2 hb1 HM
        generalize (((W1.setCell ⟨g10, 0, none⟩ (.int .i64 x.c.cl)).setCell ⟨g10, 1, none⟩ (.int .u64 (x.c.inc : Int))).setCell ⟨g10, 2, none⟩ (.int .u64 ((k : Int) + 1))).drew = W2 at H9 H10 HWB ⊢
        have HT := Lib.hid (HB.out.trans (HWB.out.mono HB.out.size))
        have HVX : Hid (SlB (fun _ => True) W2 x.v (nuC x.c (k + 1)).body) := HXI.out.v.below HT.out
        have HVY : Hid (SlB (fun _ => True) W2 y.v (toR y.r (nuC x.c (k + 1))).body) := HYI.out.v.below HT.out
        have HCO : Hid ((nuC x.c (k + 1)).body.length ≤ 140737488351232 ∧ (toR y.r (nuC x.c (k + 1))).body.length ≤ 140737488351232) := ⟨HXI.out.b, HYI.out.b⟩
        have HCB : Hid ((nuC x.c (k + 1)).body = x.c.body ∧ (toR y.r (nuC x.c (k + 1))).body = y.r.body) := ⟨rfl, rfl⟩
        have HSV : Hid (serV lc lr (k + 1) = serV lc lr k ++ [begV (nuC x.c (k + 1)) x.v, endV (nuC x.c (k + 1)) (toR y.r (nuC x.c (k + 1))) x.v y.v]) := by show _ = _; rw [serV, HCK.out, HRK.out, HX.out, HY.out]
        generalize toR y.r (nuC x.c (k + 1)) = R at H10 HVY HCO HCB HSV HRK ⊢
        generalize nuC x.c (k + 1) = C at H9 HVX HCO HCB HSV HCK ⊢
        go_wp2_with (refine wpList_load_rg rfl (ty := 25) rfl (vs := calL C x.v) rfl (Blk.rangeAll H9.out) Tryz.underlying25 rfl (infoj_call9 rfl) ?_; refine Hid.out ?_)
        refine Lib.hid ?_
        have hmay := rmay_any (C := C) HVX.out
        have HM := Lib.hid hmay
        clear hmay
        go_wp2_with fail
        refine HM.out.mono ?_
        rintro e w3 ⟨rfl, hb3⟩
        have HWB := Lib.hid (HWB.out.trans (hb3.mono HWB.out.size))
        have HT := Lib.hid (HB.out.trans (HWB.out.mono HB.out.size))
        have H9 := Lib.hid (H9.out.below hb3 H9.out.lt)
        have H10 := Lib.hid (H10.out.below hb3 H10.out.lt)
        have HVX := Lib.hid (HVX.out.below hb3)
        have HVY := Lib.hid (HVY.out.below hb3)
        clear hb3
        clear HM
        have r3 := (H10.out.cell 3).trans (rfl : _ = some (Value.int .i64 R.res))
        cases hmc : mayC C with
        | false =>
          as_aux_lemma =>
            go_wp2_with fail
            refine (HAW.out w3 HT.out).mono ?_
            rintro e wz ⟨rfl, hb⟩
            go_wp2_with fail
            go_ret
            exact ⟨rfl, hb⟩
        | true =>
          have hmp : MayP C := by unfold mayC at hmc; exact of_decide_eq_true hmc
          have HMP := Lib.hid hmp
          clear hmc hmp
          by_cases e3 : R.res = 3
          · have p3 : (R.res == 3) = true := beq_iff_eq.2 e3
            clear e3
            as_aux_lemma =>
              go_wp2_with fail
              refine (HAW.out w3 HT.out).mono ?_
              rintro e wz ⟨rfl, hb⟩
              go_wp2_with fail
              go_ret
              exact ⟨rfl, hb⟩
          have p3 : (R.res == 3) = false := beq_eq_false_iff_ne.2 e3
          by_cases e4 : R.res = 4
          · have p4 : (R.res == 4) = true := beq_iff_eq.2 e4
            clear e4
            as_aux_lemma =>
              go_wp2_with fail
              refine (HAW.out w3 HT.out).mono ?_
              rintro e wz ⟨rfl, hb⟩
              go_wp2_with fail
              go_ret
              exact ⟨rfl, hb⟩
          have p4 : (R.res == 4) = false := beq_eq_false_iff_ne.2 e4
          by_cases e1 : R.res = 1
          · have p1 : (R.res == 1) = true := beq_iff_eq.2 e1
            clear e1
            as_aux_lemma =>
              go_wp2_with fail
              refine (HAW.out w3 HT.out).mono ?_
              rintro e wz ⟨rfl, hb⟩
              go_wp2_with fail
              go_ret
              exact ⟨rfl, hb⟩
          have p1 : (R.res == 1) = false := beq_eq_false_iff_ne.2 e1
          by_cases e2 : R.res = 2
          · have p2 : (R.res == 2) = true := beq_iff_eq.2 e2
            clear e2
            as_aux_lemma =>
              go_wp2_with fail
              refine (HAW.out w3 HT.out).mono ?_
              rintro e wz ⟨rfl, hb⟩
              go_wp2_with fail
              go_ret
              exact ⟨rfl, hb⟩
          have p2 : (R.res == 2) = false := beq_eq_false_iff_ne.2 e2
          have HKN : Hid (knownR R.res = true) := decide_eq_true ⟨e3, e4, e1, e2⟩
          have HOK1 : Hid (∀ j, j < k + 1 → MayP (callK lc j) ∧ knownR (repK lc lr j).res = true) := fun j hj => by
            rcases Nat.lt_succ_iff_lt_or_eq.1 hj with h | rfl
            · exact HOK.out j h
            · rw [HCK.out, HRK.out]; exact ⟨HMP.out, HKN.out⟩
          have HOW := Lib.hid (OwH.below HO.out HWB.out)
          have HSW : Hid (∀ f, serF lc lr k = some f → SerB w.heap.size u5 w3 f) := fun f e => (HSF.out f e).below HWB.out
          have HOLD : Hid (∀ b, u5.ownBlock = some b → b < wr.heap.size) := fun b hb => (HO.out.lt b hb).2
          have HLO : Hid (∀ b, u5.ownBlock = some b → w.heap.size < b) := fun b hb => by have := own_ge HO.out b hb; show _ < _; omega
          clear e1 e2 e3 e4 HO HSF HOK
          go_wp2_with (refine wpList_load_rg rfl (ty := 25) rfl (vs := calL C x.v) rfl (Blk.rangeAll H9.out) Tryz.underlying25 rfl (infoj_call9 rfl) ?_; refine wpList_load_rg rfl (ty := 32) rfl (vs := repL R y.v) rfl (Blk.rangeAll H10.out) Tryz.underlying32 rfl (infoj_reply9 rfl) ?_; refine Hid.out ?_)
          refine Lib.hid ?_
          clear p1 p2 p3 p4 r3
          go_wp2_with fail
          refine (both_any _ C R x.v y.v).mono ?_
          rintro e w4 ⟨⟨g4, rfl, ho4⟩, hb4⟩
          have HOW := Lib.hid (OwH.below HOW.out hb4)
          have HSW : Hid (∀ f, serF lc lr k = some f → SerB w.heap.size u5 w4 f) := fun f e => (HSW.out f e).below hb4
          have HO4 := Lib.hid ho4
          clear ho4
          have HWB := Lib.hid (HWB.out.trans (hb4.mono HWB.out.size))
          have HT := Lib.hid (HB.out.trans (HWB.out.mono HB.out.size))
          have H9 := Lib.hid (H9.out.below hb4 H9.out.lt)
          have H10 := Lib.hid (H10.out.below hb4 H10.out.lt)
          have HVX := Lib.hid (HVX.out.below hb4)
          have HVY := Lib.hid (HVY.out.below hb4)
          clear hb4
          have hone : ∀ u ∈ [begV C x.v, endV C R x.v y.v].flatMap ntL, u.oneCell' = true := ntL_one (by intro z hz; rcases List.mem_cons.1 hz with rfl | hz; exact ⟨hok1, rfl⟩; rw [List.mem_singleton.1 hz]; exact ⟨hok1, hok2⟩)
          have HONE := Lib.hid hone
          have hlen := serV_len (lc := lc) (lr := lr) k
          have HLB : Hid (((serV lc lr k).length + 2) * 184 ≤ 140737488355328) := by show _ ≤ _; omega
          have hzz : w.heap.size + 1 ≤ w4.heap.size := Nat.le_trans HZ.out HWB.out.size
          have HZZ := Lib.hid hzz
          obtain ⟨A5, c5, rfl, _, _⟩ := own_slice HOW.out
          clear hone hzz hlen
          have HAPP : Hid (∀ v5 w5, World.ownsRow w5 (w.heap.size + 1) 38 19 v5 ((serV lc lr k).length + 2) ((serV lc lr k).flatMap ntL ++ [begV C x.v, endV C R x.v y.v].flatMap ntL) → OwH (w.heap.size + 1) w5 v5 (serV lc lr (k + 1))) := fun v5 w5 h => by
            rw [HSV.out]
            show World.ownsRow _ _ _ _ _ _ _
            rw [List.length_append, List.flatMap_append]
            exact h
          cases mb with
          | false =>
            as_aux_lemma =>
              go_wp2_with (first | (at_builtin; refine app_list note_ty rfl (s := .tmp 81) (x := .tmp 84) rfl HOW.out rfl (Reads.of_own HO4.out) rfl HONE.out HLB.out HZZ.out ?_; intro v5 w5 ho5 hg5 _))
              go_roundw
              case rel =>
                refine ⟨k + 1, false, hlt, by go_num, rfl, ?_, HT.out.grown hg5 HT.out.size (fun b hb => by have := HLO.out b hb; omega), Nat.le_trans HZZ.out hg5.size, HAPP.out _ _ ho5, HOK1.out, ?_⟩
                · rw [serF_succ]
                  have := HMB.out
                  cases h : serF lc lr k with
                  | none => rfl
                  | some f => rw [h] at this; cases this
                · intro f e
                  rw [serF_succ] at e
                  have := HMB.out
                  cases h : serF lc lr k with
                  | none => rw [h] at e; cases e
                  | some f => rw [h] at this; cases this
              case measure => simp [intOf]; omega
          | true =>
            obtain ⟨f, hf⟩ : ∃ f, serF lc lr k = some f := by
              have := HMB.out
              cases h : serF lc lr k with
              | none => rw [h] at this; cases this
              | some f => exact ⟨f, rfl⟩
            have HF := Lib.hid hf
            have HSB := Lib.hid (HSW.out f hf)
            clear HSW hf HMB
            go_wp2_with (first | (at_builtin; refine app_list note_ty rfl (s := .tmp 81) (x := .tmp 84) rfl HOW.out rfl (Reads.of_own HO4.out) rfl HONE.out HLB.out HZZ.out ?_; intro v5 w5 ho5 hg5 hq5))
            have HO5 := Lib.hid (HAPP.out _ _ ho5)
            have HT5 := Lib.hid (HT.out.grown hg5 HT.out.size (fun b hb => by have := HLO.out b hb; omega))
            have HSB5 := Lib.hid (HSB.out.grown hg5 HLO.out hq5)
            have H9 := Lib.hid (H9.out.mod (mod_grownO hg5) fun e => by have h1 := (HOW.out.lt _ e).2; have h2 := HOLD.out _ e; have := HGE.out.1; omega)
            have H10 := Lib.hid (H10.out.mod (mod_grownO hg5) fun e => by have h2 := HOLD.out _ e; have := HGE.out.2; omega)
            have HVX : Hid (SlB (fun _ => True) w5 x.v C.body) := by rw [HCB.out.1]; exact HXI.out.v.below HT5.out
            have HVY : Hid (SlB (fun _ => True) w5 y.v R.body) := by rw [HCB.out.2]; exact HYI.out.v.below HT5.out
            have HZ5 : Hid (w.heap.size + 1 ≤ w5.heap.size) := Nat.le_trans HZZ.out hg5.size
            have HLO5 : Hid (∀ b, v5.ownBlock = some b → w.heap.size < b ∧ b < w5.heap.size) := fun b hb => by have h1 := own_ge HO5.out b hb; have h2 := (HO5.out.lt b hb).2; show _ ∧ _; omega
            clear ho5 hg5 hq5 HSB HT HOW HO4 HAPP HWB HLO HONE HLB HZZ HOLD
            obtain ⟨q, hq, hq3⟩ : ∃ q : Nat, C.ch = (q : Int) + 1 ∧ q < 3 := by
              obtain ⟨⟨_, _, _, _, m5, m6, _⟩, _⟩ := HMP.out
              exact ⟨(C.ch - 1).toNat, by omega, by omega⟩
            obtain ⟨vs, hBm, hall⟩ := HSB5.out
            have HBM := Lib.hid hBm
            have HALL := Lib.hid hall
            have hfo : Hid (OkN k (ownM (f ((q : Int) + 1)))) := serF_ok (fun j hj => by
              obtain ⟨h1, h2⟩ := HOK1.out j (by omega)
              have hj1 : j < lc.length := by omega
              have hj2 : j < lr.length := by rw [HEQ.out]; exact hj1
              refine ⟨h1, ?_, ?_⟩
              · show (lc.getD j zCaV).c.seq < _
                rw [List.getD_eq_getElem?_getD, List.getElem?_eq_getElem hj1]
                exact (HCA.out _ (List.getElem_mem hj1)).ok.seq
              · show (lr.getD j zReV).r.at_ < _
                rw [List.getD_eq_getElem?_getD, List.getElem?_eq_getElem hj2]
                exact (HCB2.out _ (List.getElem_mem hj2)).ok.at_) f HF.out _
            obtain ⟨T, hT⟩ : ∃ T, T = doesM (f ((q : Int) + 1)) C R := ⟨_, rfl⟩
            have HTT := Lib.hid hT
            obtain ⟨t, ht⟩ : ∃ t : Bool, t = T.isSome := ⟨_, rfl⟩
            obtain ⟨M2, hM2⟩ : ∃ M2, M2 = T.getD zMdl := ⟨_, rfl⟩
            have HD : Hid (∀ W, Below w5.heap.size w5 W → Calls Tryz.prog 17 #[.agg (mdL (f ((q : Int) + 1)) (vs ((q : Int) + 1)).1 (vs ((q : Int) + 1)).2).toArray, .agg (calL C x.v).toArray, .agg (repL R y.v).toArray] W fun e w' => (∃ u1 u2, e = .returned (.tuple #[.agg (mdL M2 u1 u2).toArray, .bool t]) ∧ MdF (fun b => W.heap.size ≤ b) w' u1 u2 M2) ∧ Below W.heap.size W w') := fun W hW => by
              refine (does_wide ((HALL.out _).below hW) (HVX.out.below hW) (HVY.out.below hW) (Nat.le_trans (by have := hfo.out.log; exact this) (by omega)) (fun e he => Nat.le_trans (hfo.out.ent e he).2.2.2 (by decide)) HCO.out.1 HCO.out.2).mono ?_
              rintro e w' ⟨⟨v', e1, ⟨u1, u2, e2, hmf⟩⟩, hb⟩
              rw [← hT, ← hM2] at e2 hmf
              rw [← hT, ← ht] at e1
              subst e2
              exact ⟨⟨u1, u2, e1, hmf⟩, hb⟩
            have c4 : w5.cell? ⟨g9, 4, none⟩ = some (.int .i64 ((q : Int) + 1)) := by rw [← hq]; exact (H9.out.cell 4).trans rfl
            have hwq : IntKind.i64.wrap ((q : Int) + 1 - 1) = (q : Int) := by rw [IntKind.wrap_i64]; omega
            have hwq2 : (q : Int) + 1 - 1 = (q : Int) := by omega
            have hwq3 : IntKind.i64.wrap (q : Int) = (q : Int) := by rw [IntKind.wrap_i64]; omega
            have hrq := mdT_range HBM.out hq3
            have HRQ := Lib.hid hrq
            clear hrq
            have HQ := Lib.hid hq
            have HTM : Hid (t = T.isSome ∧ M2 = T.getD zMdl) := ⟨ht, hM2⟩
            clear hT ht hM2 hBm hall hq HSB5
            generalize hV5 : v5 = V5 at HO5 HLO5 HALL ⊢
            obtain ⟨A6, c6, rfl, _, _⟩ := own_slice HO5.out
            clear hV5
            generalize hMq : f ((q : Int) + 1) = Mq at HRQ HD
            generalize (vs ((q : Int) + 1)).1 = vq1 at HRQ HD
            generalize (vs ((q : Int) + 1)).2 = vq2 at HRQ HD
            have HMQ := Lib.hid hMq
            clear hMq
            have hq3i : (q : Int) < 3 := by omega
            have hq3d : decide ((q : Int) < 3) = true := decide_eq_true hq3i
            have H90 := H9
            apply share3 (S := fun g11 u1 u2 W => Below w5.heap.size w5 W ∧ Blk W g11 45 (mdL M2 u1 u2).toArray ∧ w5.heap.size ≤ g11 ∧ MdF (fun b => w5.heap.size ≤ b) W u1 u2 M2)
            case walk =>
              refine PF.pf_begin (by kernel_rfl) ?_
              refine PF.pf_take0 0 (by kernel_rfl) rfl (fun _ _ _ _ _ h => h) (by kernel_rfl) (fun u => by go_simp; try rfl) ?_
              try simp only [Act.put, pz0, pz1, pz2]
              refine PF.pf_take0 1 (by kernel_rfl) rfl (fun _ _ _ _ _ h => h) (by kernel_rfl) (fun u => by go_simp; try rfl) ?_
              try simp only [Act.put, pz0, pz1, pz2]
              refine PF.pf_take1 2 (PF.Same (g9) _) (by kernel_rfl) rfl (fun _ _ _ _ _ h => h) (by kernel_rfl) (PF.Same.refl _ _) (fun u hu => by have hcu := hu.cell; go_simp; try rfl) ?_
              try simp only [Act.put, pz0, pz1, pz2]
              refine PF.pf_take0 3 (by kernel_rfl) rfl (fun _ _ _ _ _ h => h) (by kernel_rfl) (fun u => by go_simp; try rfl) ?_
              try simp only [Act.put, pz0, pz1, pz2]
              refine PF.pf_take0 4 (by kernel_rfl) rfl (fun _ _ _ _ _ h => h) (by kernel_rfl) (fun u => by go_simp; try rfl) ?_
              try simp only [Act.put, pz0, pz1, pz2]
              refine PF.pf_take1 5 ((fun u => u.rangeAt w.heap.size (q * 3) (mdL Mq vq1 vq2))) (by kernel_rfl) rfl (fun _ _ _ _ _ h => h) (by kernel_rfl) (HRQ.out) (fun u hu => by (exact exec_load_rg rfl rfl hu Tryz.underlying45 rfl (info_modelL rfl))) ?_
              try simp only [Act.put, pz0, pz1, pz2]
              refine PF.pf_take1 6 ((fun u => Blk u g9 25 (calL C x.v).toArray)) (by kernel_rfl) rfl (fun _ _ _ _ _ h => h) (by kernel_rfl) (H9.out) (fun u hu => by (exact exec_load_blk rfl rfl hu Tryz.underlying25 rfl (info_call rfl))) ?_
              try simp only [Act.put, pz0, pz1, pz2]
              refine PF.pf_take1 7 ((fun u => Blk u g10 32 (repL R y.v).toArray)) (by kernel_rfl) rfl (fun _ _ _ _ _ h => h) (by kernel_rfl) (H10.out) (fun u hu => by (exact exec_load_blk rfl rfl hu Tryz.underlying32 rfl (info_reply rfl))) ?_
              try simp only [Act.put, pz0, pz1, pz2]
              refine PF.pf_fork [8, 12] (by kernel_rfl) rfl (PF.fork_cons ?_ (PF.fork_cons ?_ PF.fork_nil))
              -- number 8 first
              · refine PF.step_one rfl (by kernel_rfl) (fun K hK => ?_)
                go_simp
                refine (HD.out _ ((Below.refl w5.heap.size w5).drew)).mono ?_
                rintro e v8 ⟨⟨u1, u2, rfl, hmf⟩, hb⟩
                have hmf := (hmf.weak (K' := fun b => w5.heap.size ≤ b ∧ b < v8.heap.size) fun b h1 h2 => ⟨h2, h1⟩)
                have hb := ((Below.refl w5.heap.size w5).drew).trans hb
                have HRQ := Lib.hid (rg_below HRQ.out hb)
                have H9 := Lib.hid (H9.out.below hb H9.out.lt)
                have H10 := Lib.hid (H10.out.below hb H10.out.lt)
                have HW := Lib.hid hb
                have HMF := Lib.hid hmf
                have HU : Hid (u1.oneCell' = true ∧ u2.oneCell' = true) := ⟨hmf.1.one, hmf.2.one⟩
                clear hmf hb
                refine hK _ _ (by repeat (first | exact PF.owes_nil | refine PF.owes_left ?_ | refine PF.owes_no (by decide +kernel) ?_ | refine PF.owes_yes (by first | exact HRQ.out | exact H9.out | exact H10.out | exact H9.out.trans H90.out.symm) ?_)) ?_
                clear hK K
                try simp only [Act.put, pz0, pz1, pz2]
                refine PF.pf_take0 9 (by kernel_rfl) rfl (fun _ _ _ _ _ h => h) (by kernel_rfl) (fun u => by go_simp; try rfl) ?_
                try simp only [Act.put, pz0, pz1, pz2]
                refine PF.pf_take0 10 (by kernel_rfl) rfl (fun _ _ _ _ _ h => h) (by kernel_rfl) (fun u => by go_simp; try rfl) ?_
                try simp only [Act.put, pz0, pz1, pz2]
                refine PF.pf_take0 11 (by kernel_rfl) rfl (fun _ _ _ _ _ h => h) (by kernel_rfl) (fun u => by go_simp; try rfl) ?_
                try simp only [Act.put, pz0, pz1, pz2]
                refine PF.pf_exec 12 (by kernel_rfl) rfl (by kernel_rfl) (fun K hK => ?_)
                refine wp_alloc_blk rfl zero_model ?_
                intro g11 v12 e11 hB hb
                have HE11 : Hid (w5.heap.size ≤ g11) := by have h1 := HW.out.size; show _ ≤ _; rw [← e11]; exact h1
                have HND : Hid (∀ b, w5.heap.size ≤ b ∧ b < v8.heap.size → b ≠ g11) := fun b hb => by show _ ≠ _; have h1 : v8.heap.size = g11 := e11; omega
                have HRQ := Lib.hid (rg_below HRQ.out hb)
                have H9 := Lib.hid (H9.out.below hb H9.out.lt)
                have H10 := Lib.hid (H10.out.below hb H10.out.lt)
                have HMF := Lib.hid ((HMF.out).below hb)
                have HW := Lib.hid (HW.out.trans (hb.mono HW.out.size))
                have H11 := Lib.hid hB
                clear e11 hB hb
                refine hK _ _ (by repeat (first | exact PF.owes_nil | refine PF.owes_left ?_ | refine PF.owes_no (by decide +kernel) ?_ | refine PF.owes_yes (by first | exact HRQ.out | exact H9.out | exact H10.out | exact H9.out.trans H90.out.symm) ?_)) ?_
                clear hK K
                try simp only [Act.put, pz0, pz1, pz2]
                refine PF.pf_exec 13 (by kernel_rfl) rfl (by kernel_rfl) (fun K hK => ?_)
                refine wp_store_blk (cs := (mdL M2 u1 u2).toArray) rfl rfl rfl H11.out rfl (info_model rfl) (mdL_one HU.out.1 HU.out.2) ?_
                intro v13 hB hm
                have HMF := Lib.hid ((HMF.out.mod hm fun b hb e => by first | exact HND.out b hb e | exact hb.2 e).weak (K' := fun b => w5.heap.size ≤ b) fun b _ h => h.1)
                have HW := Lib.hid (HW.out.trans (hm.to_below HW.out.size fun b hb e => by have := HE11.out; omega))
                have H11 := Lib.hid hB
                clear hB hm
                refine hK _ _ (by repeat (first | exact PF.owes_nil | refine PF.owes_left ?_ | refine PF.owes_no (by decide +kernel) ?_ | refine PF.owes_yes (by first | exact HRQ.out | exact H9.out | exact H10.out | exact H9.out.trans H90.out.symm) ?_)) ?_
                clear hK K
                try simp only [Act.put, pz0, pz1, pz2]
                refine PF.pf_take0 14 (by kernel_rfl) rfl (fun _ _ _ _ _ h => h) (by kernel_rfl) (fun u => by go_simp; try rfl) ?_
                try simp only [Act.put, pz0, pz1, pz2]
                refine PF.pf_done (by kernel_rfl) ?_
                exact ⟨g11, u1, u2, rfl, HW.out, H11.out, HE11.out, HMF.out⟩
              -- number 12 first
              · refine PF.step_one rfl (by kernel_rfl) (fun K hK => ?_)
                refine wp_alloc_blk rfl zero_model ?_
                intro g11 v12 e11 hB hb
                have HE11 : Hid (w5.heap.size ≤ g11) := by show _ ≤ _; rw [← e11]; exact Nat.le_refl _
                have hb := ((Below.refl w5.heap.size w5).drew).trans hb
                have HRQ := Lib.hid (rg_below HRQ.out hb)
                have H9 := Lib.hid (H9.out.below hb H9.out.lt)
                have H10 := Lib.hid (H10.out.below hb H10.out.lt)
                have HW := Lib.hid hb
                have H11 := Lib.hid hB
                clear e11 hB hb
                refine hK _ _ (by repeat (first | exact PF.owes_nil | refine PF.owes_left ?_ | refine PF.owes_no (by decide +kernel) ?_ | refine PF.owes_yes (by first | exact HRQ.out | exact H9.out | exact H10.out | exact H9.out.trans H90.out.symm) ?_)) ?_
                clear hK K
                try simp only [Act.put, pz0, pz1, pz2]
                refine PF.pf_exec 8 (by kernel_rfl) rfl (by kernel_rfl) (fun K hK => ?_)
                go_simp
                refine (HD.out _ HW.out).mono ?_
                rintro e v8 ⟨⟨u1, u2, rfl, hmf⟩, hb⟩
                have HMF := Lib.hid (hmf.weak (K' := fun b => w5.heap.size ≤ b ∧ b ≠ g11) fun b h1 h2 => ⟨Nat.le_trans HW.out.size h2, fun e => by have := H11.out.lt; omega⟩)
                have HRQ := Lib.hid (rg_below HRQ.out hb)
                have H9 := Lib.hid (H9.out.below hb H9.out.lt)
                have H10 := Lib.hid (H10.out.below hb H10.out.lt)
                have H11 := Lib.hid (H11.out.below hb H11.out.lt)
                have HW := Lib.hid (HW.out.trans (hb.mono HW.out.size))
                have HU : Hid (u1.oneCell' = true ∧ u2.oneCell' = true) := ⟨HMF.out.1.one, HMF.out.2.one⟩
                clear hmf hb
                refine hK _ _ (by repeat (first | exact PF.owes_nil | refine PF.owes_left ?_ | refine PF.owes_no (by decide +kernel) ?_ | refine PF.owes_yes (by first | exact HRQ.out | exact H9.out | exact H10.out | exact H9.out.trans H90.out.symm) ?_)) ?_
                clear hK K
                try simp only [Act.put, pz0, pz1, pz2]
                refine PF.pf_take0 9 (by kernel_rfl) rfl (fun _ _ _ _ _ h => h) (by kernel_rfl) (fun u => by go_simp; try rfl) ?_
                try simp only [Act.put, pz0, pz1, pz2]
                refine PF.pf_take0 10 (by kernel_rfl) rfl (fun _ _ _ _ _ h => h) (by kernel_rfl) (fun u => by go_simp; try rfl) ?_
                try simp only [Act.put, pz0, pz1, pz2]
                refine PF.pf_take0 11 (by kernel_rfl) rfl (fun _ _ _ _ _ h => h) (by kernel_rfl) (fun u => by go_simp; try rfl) ?_
                try simp only [Act.put, pz0, pz1, pz2]
                refine PF.pf_exec 13 (by kernel_rfl) rfl (by kernel_rfl) (fun K hK => ?_)
                refine wp_store_blk (cs := (mdL M2 u1 u2).toArray) rfl rfl rfl H11.out rfl (info_model rfl) (mdL_one HU.out.1 HU.out.2) ?_
                intro v13 hB hm
                have HMF := Lib.hid ((HMF.out.mod hm fun b hb e => by first | exact HND.out b hb e | exact hb.2 e).weak (K' := fun b => w5.heap.size ≤ b) fun b _ h => h.1)
                have HW := Lib.hid (HW.out.trans (hm.to_below HW.out.size fun b hb e => by have := HE11.out; omega))
                have H11 := Lib.hid hB
                clear hB hm
                refine hK _ _ (by repeat (first | exact PF.owes_nil | refine PF.owes_left ?_ | refine PF.owes_no (by decide +kernel) ?_ | refine PF.owes_yes (by first | exact HRQ.out | exact H9.out | exact H10.out | exact H9.out.trans H90.out.symm) ?_)) ?_
                clear hK K
                try simp only [Act.put, pz0, pz1, pz2]
                refine PF.pf_take0 14 (by kernel_rfl) rfl (fun _ _ _ _ _ h => h) (by kernel_rfl) (fun u => by go_simp; try rfl) ?_
                try simp only [Act.put, pz0, pz1, pz2]
                refine PF.pf_done (by kernel_rfl) ?_
                exact ⟨g11, u1, u2, rfl, HW.out, H11.out, HE11.out, HMF.out⟩
            case rest =>
              intro g11 u1 u2 W ⟨hW, hB11, hg11, hmf⟩
              have HSF1 : Hid (serF lc lr (k + 1) = T.map fun m => fun n => if n = (q : Int) + 1 then m else f n) := by
                show _ = _
                rw [serF_succ, HF.out, Option.bind_some, HCK.out, HRK.out, HQ.out, HTT.out]
              have HT := Lib.hid (HT5.out.trans (hW.mono HT5.out.size))
              have HO6 := Lib.hid (OwH.below HO5.out hW)
              have HB6 := Lib.hid (HBM.out.below hW HBM.out.lt)
              have HALL6 : Hid (∀ n, MdF (fun b => w.heap.size < b ∧ (Value.slice A6 (serV lc lr (k + 1)).length c6).ownBlock ≠ some b) W (vs n).1 (vs n).2 (f n)) := fun n => (HALL.out n).below hW
              have HM6 : Hid (MdF (fun b => w.heap.size < b ∧ (Value.slice A6 (serV lc lr (k + 1)).length c6).ownBlock ≠ some b) W u1 u2 M2) := hmf.weak fun b _ h => ⟨by have := HZ5.out; omega, fun e => by have := (HLO5.out b e).2; omega⟩
              have HZ6 : Hid (w.heap.size + 1 ≤ W.heap.size) := Nat.le_trans HZ5.out hW.size
              have H11 := Lib.hid hB11
              have hc4 := (hW.cell (p := ⟨g9, 4, none⟩) H9.out.lt).trans c4
              have HU : Hid (u1.oneCell' = true ∧ u2.oneCell' = true) := ⟨hmf.1.one, hmf.2.one⟩
              clear hW hB11 hg11 hmf c4 HD HRQ
              cases t with
              | false =>
                as_aux_lemma =>
                  go_wp2_with fail
                  go_roundw
                  case rel =>
                    have hT0 : T = none := by
                      have := HTM.out.1
                      cases T with
                      | none => rfl
                      | some m => cases this
                    refine ⟨k + 1, false, hlt, by go_num, rfl, ?_, HT.out, HZ6.out, HO6.out, HOK1.out, ?_⟩
                    · rw [HSF1.out, hT0]; rfl
                    · intro f2 e
                      rw [HSF1.out, hT0] at e
                      cases e
                  case measure => simp [intOf]; omega
              | true =>
                as_aux_lemma =>
                  have hT1 : T = some M2 := by
                    have h1 := HTM.out.1
                    have h2 := HTM.out.2
                    cases T with
                    | none => cases h1
                    | some m => rw [h2]; rfl
                  have HT1 := Lib.hid hT1
                  clear hT1
                  go_wp2_with (refine wpList_load_rg rfl (ty := 45) rfl (vs := mdL M2 u1 u2) rfl (Blk.rangeAll H11.out) Tryz.underlying45 rfl (info_modelL rfl) ?_; refine Hid.out ?_)
                  refine Lib.hid ?_
                  have hone := mdL_oneL (M := M2) HU.out.1 HU.out.2
                  have hsz : q * 3 + (mdL M2 u1 u2).length ≤ (mdT f vs).toArray.size := by rw [mdT_size]; show q * 3 + 3 ≤ 9; omega
                  go_wp2_with (refine wpList_store_rgB rfl (ty := 45) rfl (vs := mdL M2 u1 u2) rfl rfl HB6.out hsz (info_modelL rfl) hone ?_; intro w8 hB8 hm8; refine Hid.out ?_)
                  refine Lib.hid ?_
                  have HO8 : Hid (OwH (w.heap.size + 1) w8 (.slice A6 (serV lc lr (k + 1)).length c6) (serV lc lr (k + 1))) := own_mod HO6.out hm8 fun b hb e => by have := (HLO5.out b hb).1; omega
                  have HT8 := Lib.hid (HT.out.trans (hm8.to_below HT.out.size fun b hb e => by omega))
                  have HZ8 : Hid (w.heap.size + 1 ≤ w8.heap.size) := Nat.le_trans HZ6.out hm8.size
                  have HS8 := Lib.hid (SerB.put hq3 HALL6.out HM6.out hB8 hm8)
                  clear hB8 hm8
                  go_wp2_with fail
                  go_roundw
                  case rel =>
                    refine ⟨k + 1, true, hlt, by go_num, rfl, ?_, HT8.out, HZ8.out, HO8.out, HOK1.out, ?_⟩
                    · rw [HSF1.out, HT1.out]; rfl
                    · intro f2 e
                      rw [HSF1.out, HT1.out] at e
                      injection e with e
                      subst e
                      exact HS8.out
                  case measure => simp [intOf]; omega
    · obtain rfl : k = lc.length := by omega
      as_aux_lemma =>
        have hin := serV_in (k := lc.length) (fun x hx => (HCA.out x hx)) (fun y hy => HCB2.out y hy) (Nat.le_refl _) (by rw [HEQ.out]; exact Nat.le_refl _) (by omega)
        have HIN := Lib.hid hin
        have hlen := serV_len (lc := lc) (lr := lr) lc.length
        obtain ⟨A5, c5, rfl, _, _⟩ := own_slice HO.out
        have hhv := heavy_any (m := 200) (c := c5) (Reads.of_own HO.out) (fun x hx => ntIn_below (HIN.out x hx) HB.out) (by decide) (by omega)
        have HHV := Lib.hid hhv
        have HLEN := Lib.hid hlen
        clear hin hhv hlen
        go_wp2_with fail
        refine HHV.out.mono ?_
        rintro e w2 ⟨rfl, hb2⟩
        have HT2 := Lib.hid (HB.out.trans (hb2.mono HB.out.size))
        have HO2 := Lib.hid (OwH.below HO.out hb2)
        clear hb2 HHV
        cases hv : heavyP (serV lc lr lc.length) 200 with
        | true =>
          clear hv
          go_wp2_with fail
          refine (HAW.out w2 HT2.out).mono ?_
          rintro e w3 ⟨rfl, hb⟩
          go_wp2_with fail
          go_ret
          exact ⟨rfl, hb⟩
        | false =>
          have hlg := light_ok HIN.out hv
          have hmay := jmay_any (serV_sl (fun x hx => ntIn_below (HIN.out x hx) HT2.out) HO2.out) hlg.1 (by rw [List.length_map, HLEN.out]; omega)
          have HMAY := Lib.hid hmay
          clear hv hlg hmay
          go_wp2_with fail
          refine HMAY.out.mono ?_
          rintro e w3 ⟨hb3, b3, e3, rfl, hp⟩
          obtain ⟨rfl, rfl⟩ := serV_may hn HOK.out hp
          have HT3 := Lib.hid (HT2.out.trans (hb3.mono HT2.out.size))
          clear hb3 hp HMAY
          rw [← HMB.out]
          cases mb with
          | true =>
            go_wp2_with fail
            refine (HAW.out w3 HT3.out).mono ?_
            rintro e w4 ⟨rfl, hb⟩
            go_wp2_with fail
            go_ret
            exact ⟨rfl, hb⟩
          | false =>
            go_wp2_with fail
            refine (HAW.out w3 HT3.out).mono ?_
            rintro e w4 ⟨rfl, hb⟩
            go_wp2_with fail
            go_ret
            exact ⟨rfl, hb⟩
end JudgeSerial
end Go.Proofs.YtpjmolnkmlpfeaaGreatDoor
