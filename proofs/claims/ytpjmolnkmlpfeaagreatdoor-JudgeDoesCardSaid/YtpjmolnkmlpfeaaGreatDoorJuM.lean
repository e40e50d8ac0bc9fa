/- What a call may do to a model. -/
import Derived.Test.YtpjmolnkmlpfeaaGreatDoorJuL
namespace Go.Proofs.YtpjmolnkmlpfeaaGreatDoor
set_option linter.unusedVariables false
set_option linter.unusedSimpArgs false
set_option maxRecDepth 100000
open Go.RowKit

/-- A slice of models. -/
abbrev MdE := Mdl × Value × Value
def mdE (p : MdE) : List Value := mdL p.1 p.2.1 p.2.2
theorem mdE_len (p : MdE) : (mdE p).length = 3 := rfl
def SlM (K : Nat → Prop) (w : World) (v : Value) (Ms : List Mdl) : Prop := ∃ A c, ∃ E : List MdE, v = .slice A E.length c ∧ E.map (·.1) = Ms ∧ Reads w 3 A E.length (E.flatMap mdE) ∧ (∀ p ∈ E, MdF K w p.2.1 p.2.2 p.1) ∧ E.length ≤ c ∧ c ≤ 9223372036854775807 ∧ (0 < E.length → ∀ ad, A = some ad → K ad.block)
/-- Models side by side, each in blocks of its own, from here to there. -/
def SepM (B : Nat) (w : World) (v : Value) (E : List MdE) : Prop := ∃ lo hi : Nat → Nat, (∀ (i : Nat) (h : i < E.length), MdW (fun b => lo i ≤ b ∧ b < hi i) w E[i].2.1 E[i].2.2 E[i].1 ∧ B ≤ lo i ∧ hi i ≤ w.heap.size ∧ ∀ b, v.ownBlock = some b → ¬ (lo i ≤ b ∧ b < hi i)) ∧ ∀ i j, i < j → j < E.length → hi i ≤ lo j
/-- Such a slice, in a row of one's own. -/
def OwS (B : Nat) (w : World) (v : Value) (Ms : List Mdl) : Prop := ∃ E : List MdE, w.ownsRow B 45 3 v E.length (E.flatMap mdE) ∧ E.map (·.1) = Ms ∧ SepM B w v E
theorem OwS.slm {B : Nat} {w : World} {v : Value} {Ms : List Mdl} (h : OwS B w v Ms) : SlM (fun b => B ≤ b) w v Ms := by
 obtain ⟨E, h1, h2, lo, hi, h3, _⟩ := h
 obtain ⟨A, c, rfl, h4, h5⟩ := own_slice h1
 exact ⟨A, c, E, rfl, h2, Reads.of_own h1, fun p hp => by
  obtain ⟨i, hi', rfl⟩ := List.mem_iff_getElem.1 hp
  obtain ⟨q1, q2, _⟩ := h3 i hi'
  exact q1.mdf.weak fun b _ h => Nat.le_trans q2 h.1, h4, by simpa [maxLen] using h5, fun _ ad ea => own_ge h1 _ (by rw [ea]; rfl)⟩
theorem SepM.nil (B : Nat) (w : World) (v : Value) : SepM B w v [] := ⟨fun _ => 0, fun _ => 0, fun i h => absurd h (by simp), fun i j _ h => absurd h (by simp)⟩
theorem OwS.nil (B : Nat) (w : World) : OwS B w (.slice none 0 0) [] := ⟨[], World.ownsRow_nil _ _ _ _, rfl, SepM.nil _ _ _⟩
theorem SepM.below {B : Nat} {w w' : World} {v : Value} {E : List MdE} (h : SepM B w v E) (hb : Below w.heap.size w w') : SepM B w' v E := by
 obtain ⟨lo, hi, h1, h2⟩ := h
 exact ⟨lo, hi, fun i hi' => ⟨(h1 i hi').1.below hb, (h1 i hi').2.1, Nat.le_trans (h1 i hi').2.2.1 hb.size, (h1 i hi').2.2.2⟩, h2⟩
theorem OwS.below {B : Nat} {w w' : World} {v : Value} {Ms : List Mdl} (h : OwS B w v Ms) (hb : Below w.heap.size w w') : OwS B w' v Ms := by
 obtain ⟨E, h1, h2, h3⟩ := h
 exact ⟨E, own_call h1 hb, h2, h3.below hb⟩
theorem OwS.low {B B' : Nat} {w : World} {v : Value} {Ms : List Mdl} (h : OwS B w v Ms) (hB : B' ≤ B) : OwS B' w v Ms := by
 obtain ⟨E, h1, h2, lo, hi, h3, h4⟩ := h
 exact ⟨E, base_le h1 hB, h2, lo, hi, fun i hi' => ⟨(h3 i hi').1, Nat.le_trans hB (h3 i hi').2.1, (h3 i hi').2.2⟩, h4⟩
/-- One more, made behind all others. -/
theorem OwS.more {B n0 n1 : Nat} {w0 w w1 : World} {v v' : Value} {Ms : List Mdl} {M : Mdl} {vl vc : Value} (E : List MdE) (h2 : E.map (·.1) = Ms) (h3 : SepM B w0 v E) (h0 : Below w0.heap.size w0 w) (hx : MdW (fun b => n0 ≤ b ∧ b < n1) w vl vc M) (hn0 : w0.heap.size ≤ n0) (hn1 : n1 ≤ w.heap.size) (hB : B ≤ n0) (hv0 : ∀ b, v.ownBlock = some b → b < n0)
  (ho : w1.ownsRow B 45 3 v' (E.length + 1) (E.flatMap mdE ++ mdL M vl vc)) (hg : w.grownBy w1 v.ownBlock) (hv : v'.ownBlock = v.ownBlock ∨ v'.ownBlock = some w.heap.size) : OwS B w1 v' (Ms ++ [M]) := by
 have hm := mod_grownO hg
 obtain ⟨lo, hi, h1, h4⟩ := h3
 have hq : ∀ b, v'.ownBlock = some b → v.ownBlock = some b ∨ w.heap.size ≤ b := fun b e => by
  rcases hv with h' | h'
  ·exact .inl (h' ▸ e)
  ·rw [h'] at e; injection e with e; exact .inr (by omega)
 refine ⟨E ++ [(M, vl, vc)], ?_, by rw [List.map_append, h2]; rfl, fun i => if i < E.length then lo i else n0, fun i => if i < E.length then hi i else n1, fun i hi' => ?_, fun i j hij hj => ?_⟩
 ·rw [List.length_append, List.flatMap_append]
  simpa [mdE] using ho
 ·by_cases hlt : i < E.length
  ·rw [List.getElem_append_left hlt]
   simp only [if_pos hlt]
   obtain ⟨q1, q2, q3, q4⟩ := h1 i hlt
   refine ⟨(q1.below h0).mod hm fun b hb e => q4 b e hb, q2, Nat.le_trans q3 (Nat.le_trans h0.size hm.size), fun b e hb => ?_⟩
   rcases hq b e with h | h
   ·exact q4 b h hb
   ·have := hb.2; have := h0.size; omega
  ·have hie : i = E.length := by rw [List.length_append] at hi'; simp only [List.length_cons, List.length_nil] at hi'; omega
   subst hie
   rw [List.getElem_append_right (Nat.le_refl _)]
   simp only [if_neg hlt, Nat.sub_self, List.getElem_cons_zero]
   refine ⟨hx.mod hm fun b hb e => by have := hv0 b e; omega, hB, Nat.le_trans hn1 hm.size, fun b e hb => ?_⟩
   rcases hq b e with h | h
   ·have := hv0 b h; omega
   ·omega
 ·rw [List.length_append] at hj
  simp only [List.length_cons, List.length_nil] at hj
  have hlt : i < E.length := by omega
  simp only [if_pos hlt]
  by_cases hlj : j < E.length
  ·simp only [if_pos hlj]; exact h4 i j hij hlj
  ·simp only [if_neg hlj]; exact Nat.le_trans (h1 i hlt).2.2.1 hn0
theorem OwS.one {B : Nat} {w w1 : World} {v' : Value} {M : Mdl} {vl vc : Value} (hx : MdW (fun b => B ≤ b) w vl vc M) (hB : B ≤ w.heap.size)
  (ho : w1.ownsRow B 45 3 v' (0 + 1) ([] ++ mdL M vl vc)) (hg : w.grownBy w1 (Value.slice none 0 0).ownBlock) (hv : v'.ownBlock = (Value.slice none 0 0).ownBlock ∨ v'.ownBlock = some w.heap.size) : OwS B w1 v' ([] ++ [M]) := by
 have hm := mod_grownO hg
 refine ⟨[(M, vl, vc)], ?_, rfl, fun _ => B, fun _ => w.heap.size, fun i hi' => ?_, fun i j hij hj => ?_⟩
 ·simpa [mdE] using ho
 ·obtain rfl : i = 0 := by simp only [List.length_cons, List.length_nil] at hi'; omega
  refine ⟨(hx.weak fun b hb h => ⟨h, hb⟩).mod hm fun b hb e => (by cases e), Nat.le_refl _, hm.size, fun b e hb => ?_⟩
  rcases hv with h' | h'
  ·rw [h'] at e; cases e
  ·rw [h'] at e; injection e with e; have hb2 : b < w.heap.size := hb.2; omega
 ·simp only [List.length_cons, List.length_nil] at hj; omega
theorem mdL_oneL {M : Mdl} {vl vc : Value} (h1 : vl.oneCell' = true) (h2 : vc.oneCell' = true) : ∀ v ∈ mdL M vl vc, v.oneCell' = true := fun v hv => mdL_one (M := M) h1 h2 v (by simpa using hv)
set_option maxHeartbeats 32000000 in
theorem might_wide {K K1 : Nat → Prop} {w : World} {vl0 vc0 v : Value} {M : Mdl} {C : Cal} (h : MdF K w vl0 vc0 M) (hv : SlB K1 w v C.body) (hn : M.log.length ≤ 100000) (hbl : ∀ e ∈ M.log, e.body.length ≤ 1000000) (hnb : C.body.length ≤ 1000000) (htr : M.trim < 18446744073709551616) (hat : C.at_ < 18446744073709551616) :
  Calls Tryz.prog 26 #[.agg (mdL M vl0 vc0).toArray, .agg (calL C v).toArray] w fun e w' => (∃ v', e = .returned v' ∧ OwS w.heap.size w' v' (mightM M C)) ∧ Below w.heap.size w w' := by
 have ho1 := h.1.one
 have ho2 := h.2.one
 obtain ⟨Db, cb, eb, _⟩ := id hv
 subst eb
 have hX1 : Blk ((w.alloc (.cells (mdL M vl0 vc0).toArray 45)).alloc (.cells (calL C (.slice Db C.body.length cb)).toArray 25)) w.heap.size 45 (mdL M vl0 vc0).toArray := (Blk.new _ _ _).alloc _
 have hX2 : Blk ((w.alloc (.cells (mdL M vl0 vc0).toArray 45)).alloc (.cells (calL C (.slice Db C.body.length cb)).toArray 25)) (w.heap.size + 1) 25 (calL C (.slice Db C.body.length cb)).toArray := by
  have := Blk.new (w.alloc (.cells (mdL M vl0 vc0).toArray 45)) 25 (calL C (.slice Db C.body.length cb)).toArray
  rwa [alloc_size] at this
 have hT : Below w.heap.size w ((w.alloc (.cells (mdL M vl0 vc0).toArray 45)).alloc (.cells (calL C (.slice Db C.body.length cb)).toArray 25)) := ((Below.refl _ _).alloc (Nat.le_refl _) _).alloc (by simp) _
 have hsz : ((w.alloc (.cells (mdL M vl0 vc0).toArray 45)).alloc (.cells (calL C (.slice Db C.body.length cb)).toArray 25)).heap.size = w.heap.size + 1 + 1 := by simp
 have HX1 := Lib.hid hX1
 have HX2 := Lib.hid hX2
 have HT := Lib.hid hT
 have HSZ := Lib.hid hsz
 have HV := Lib.hid hv
 have HHH : Hid (M.log.length ≤ 100000 ∧ (∀ e ∈ M.log, e.body.length ≤ 1000000) ∧ C.body.length ≤ 1000000 ∧ M.trim < 18446744073709551616 ∧ C.at_ < 18446744073709551616) := ⟨hn, hbl, hnb, htr, hat⟩
 have hown := mown_any (X := fun _ => False) (h.below hT) hn hbl (fun _ h => h.elim)
 clear hX1 hX2 hT hsz h hv hn hbl hnb htr hat
 go_enter Tryz.func26, Tryz.ntmps26
 go_wp2_with (refine wpList_load_blk rfl (ty := 45) rfl rfl HX1.out Tryz.underlying45 rfl (info_model rfl) ?_; refine Hid.out ?_)
 refine Lib.hid ?_
 go_wp2_with fail
 refine hown.mono ?_
 rintro e w4 ⟨⟨v4, rfl, vl, g, rfl, hof⟩, hb4⟩
 have HT4 := Tt HT hb4
 have HB14 := Bb HX1 hb4
 have HB24 := Bb HX2 hb4
 have hov : vl.oneCell' = true := hof.mdf.1.one
 have HOF4 := Lib.hid hof
 rw [HSZ.out] at HOF4
 have HZ4 : Hid (w.heap.size + 1 + 1 ≤ w4.heap.size) := by have := hb4.size; rw [HSZ.out] at this; exact this
 clear hown hb4 hof HX1 HX2 HT HSZ
 go_wp2_with (refine wpList_store_blk rfl rfl rfl rfl HB14.out rfl (info_model rfl) (mdL_one hov rfl) ?_; rintro w5 hB5 hm5; refine Hid.out ?_)
 refine Lib.hid ?_
 have HT5 := Lib.hid (HT4.out.trans (hm5.to_below HT4.out.size fun b hb e => by omega))
 have HB15 := Lib.hid hB5
 have HB25 := Lib.hid (HB24.out.mod hm5 fun e => by omega)
 have HOF5 := Lib.hid (HOF4.out.mod hm5 fun b hb _ e => by omega)
 have HZ5 : Hid (w.heap.size + 1 + 1 ≤ w5.heap.size) := Nat.le_trans HZ4.out hm5.size
 clear hB5 hm5 HB14 HB24 HOF4 HT4 HZ4
 have k3 := (HB25.out.cell 3).trans (rfl : _ = some (Value.int .i64 C.kind))
 have HD : Hid (mightM M C = mightO (ownM M) C) := rfl
 have hk : C.kind = 1 ∨ C.kind = 3 ∨ C.kind = 4 ∨ C.kind = 5 ∨ (C.kind ≠ 1 ∧ C.kind ≠ 3 ∧ C.kind ≠ 4 ∧ C.kind ≠ 5) := by omega
 rcases hk with hk | hk | hk | hk | ⟨n1, n3, n4, n5⟩
 ·have HP : Hid (mightM M C = if longC C = false ∧ freshM (ownM M) C = true then [withM (ownM M) C] else []) := by show _ = _; rw [HD.out]; unfold mightO; rw [if_pos hk]
  have p1 : (C.kind == 1) = true := beq_iff_eq.2 hk
  clear hk
  have d8 := (HB25.out.cell 8).trans (rfl : _ = some (Value.slice Db C.body.length cb))
  cases hlb : longC C with
  | true =>
   have hlb1 : decide ((C.body.length : Int) ≤ 64) = false := by unfold longC at hlb; exact decide_eq_false (by have := of_decide_eq_true hlb; omega)
   have hlb2 : decide (C.body.length ≤ 64) = false := by unfold longC at hlb; exact decide_eq_false (by have := of_decide_eq_true hlb; omega)
   have HQ : Hid (mightM M C = []) := by show _ = _; rw [HP.out, if_neg (by rw [hlb]; simp)]
   clear hlb
   go_wp2_with fail
   go_ret
   refine ⟨⟨_, rfl, ?_⟩, HT5.out⟩
   rw [HQ.out]
   exact OwS.nil _ _
  | false =>
   have hlb1 : decide ((C.body.length : Int) ≤ 64) = true := by unfold longC at hlb; exact decide_eq_true (by have := of_decide_eq_false hlb; omega)
   have hlb2 : decide (C.body.length ≤ 64) = true := by unfold longC at hlb; exact decide_eq_true (by have := of_decide_eq_false hlb; omega)
   rw [hlb] at HP
   clear hlb
   go_wp2_with (refine wpList_load_blkG (by kernel_rfl) (ty := 45) rfl rfl HB15.out Tryz.underlying45 rfl (info_model rfl) ?_; refine Hid.out ?_)
   refine Lib.hid ?_
   go_wp2_with (refine wpList_load_blkG (by kernel_rfl) (ty := 25) rfl rfl HB25.out Tryz.underlying25 rfl (info_call rfl) ?_; refine Hid.out ?_)
   refine Lib.hid ?_
   go_wp2_with fail
   refine (fresh_any HOF5.out.mdf (HV.out.below HT5.out) HHH.out.1).mono ?_
   rintro e w6 ⟨rfl, hb6⟩
   have HT6 := Tt HT5 hb6
   have HB16 := Bb HB15 hb6
   have HB26 := Bb HB25 hb6
   have HOF6 := Lib.hid (HOF5.out.below hb6)
   have HZ6 : Hid (w.heap.size + 1 + 1 ≤ w6.heap.size) := Nat.le_trans HZ5.out hb6.size
   clear hb6 d8
   cases hf : freshM (ownM M) C with
   | false =>
    have HQ : Hid (mightM M C = []) := by show _ = _; rw [HP.out, if_neg (by rw [hf]; simp)]
    clear hf
    go_wp2_with fail
    go_ret
    refine ⟨⟨_, rfl, ?_⟩, HT6.out⟩
    rw [HQ.out]
    exact OwS.nil _ _
   | true =>
    have HQ : Hid (mightM M C = [] ++ [withM (ownM M) C]) := by show _ = _; rw [HP.out, if_pos (by simp [hf])]; rfl
    clear hf
    go_wp2_with (refine wpList_load_blk rfl (ty := 45) rfl rfl HB16.out Tryz.underlying45 rfl (info_model rfl) ?_; refine Hid.out ?_)
    refine Lib.hid ?_
    go_wp2_with (refine wpList_load_blk rfl (ty := 25) rfl rfl HB26.out Tryz.underlying25 rfl (info_call rfl) ?_; refine Hid.out ?_)
    refine Lib.hid ?_
    go_wp2_with fail
    refine (with_any HOF6.out (HV.out.below HT6.out) HZ6.out HHH.out.1 (Nat.le_trans HHH.out.2.2.1 (by decide)) (fun _ h => h.elim)).mono ?_
    rintro e w7 ⟨⟨v7, rfl, vl7, g7, rfl, hof7⟩, hm7⟩
    have HT7 : Hid (Below w.heap.size w w7) := HT6.out.trans (hm7.to_below HT6.out.size fun b hb e => by obtain ⟨⟨E2, h1, _⟩, _⟩ := HOF6.out; have := (h1.lt b e).1; omega)
    have HN7 : Hid (MdW (fun b => w.heap.size ≤ b) w7 vl7 (.slice (some ⟨g7, 0, none⟩) 3 3) (withM (ownM M) C)) := hof7.mdw.weak fun b _ h => by have := h.1; show _ ≤ _; omega
    have hov7 : vl7.oneCell' = true := hof7.mdf.1.one
    clear hof7 hm7
    try rw [show Value.agg (mdL (withM (ownM M) C) vl7 (.slice (some ⟨g7, 0, none⟩) 3 3)).toArray = .agg #[vl7, .int .u64 (((withM (ownM M) C).trim : Nat) : Int), (.slice (some ⟨g7, 0, none⟩) 3 3)] from rfl]
    have hr : Reads ((w7.alloc (.cells (mdL (withM (ownM M) C) vl7 (.slice (some ⟨g7, 0, none⟩) 3 3)).toArray 45))) 3 (some ⟨w7.heap.size, 0, none⟩) 1 (mdL (withM (ownM M) C) vl7 (.slice (some ⟨g7, 0, none⟩) 3 3)) := by have h := reads_blockN w7 45 (mdL (withM (ownM M) C) vl7 (.slice (some ⟨g7, 0, none⟩) 3 3)) 3 rfl; rw [show w7.heap.size = w7.heap.size from by first | rfl | simp [World.setCell]] at h; exact h
    have hW : Below w7.heap.size w7 ((w7.alloc (.cells (mdL (withM (ownM M) C) vl7 (.slice (some ⟨g7, 0, none⟩) 3 3)).toArray 45))) := (below_new w7 (.cells (mdL (withM (ownM M) C) vl7 (.slice (some ⟨g7, 0, none⟩) 3 3)).toArray 45))
    have HWN := Lib.hid hW
    have hwz : w.heap.size ≤ ((w7.alloc (.cells (mdL (withM (ownM M) C) vl7 (.slice (some ⟨g7, 0, none⟩) 3 3)).toArray 45))).heap.size := Nat.le_trans HT7.out.size hW.size
    have hon := mdL_oneL (M := withM (ownM M) C) (vl := vl7) (vc := (.slice (some ⟨g7, 0, none⟩) 3 3)) hov7 rfl
    clear hW
    go_wp2_with (first | (at_builtin; refine app_list model_ty rfl rfl (World.ownsRow_nil _ w.heap.size _ _) rfl hr rfl hon (by decide) hwz ?_; intro v9 w9 ho9 hg9 hv9; have HO9 := Lib.hid ho9; have HG9 := Lib.hid hg9; have HV9 := Lib.hid hv9; clear ho9 hg9 hv9))
    go_ret
    refine ⟨⟨_, rfl, ?_⟩, (HT7.out.trans (HWN.out.mono HT7.out.size)).grown HG9.out hwz (fun b e => by cases e)⟩
    rw [HQ.out]
    exact OwS.one (HN7.out.below HWN.out) hwz HO9.out HG9.out HV9.out
 ·have HP : Hid (mightM M C = (List.range (min C.at_ M.log.length - M.trim)).map fun i => { ownM M with trim := M.trim + i + 1 }) := by show _ = _; rw [HD.out]; unfold mightO; rw [if_neg (by omega), if_pos hk]; rfl
  have p1 : (C.kind == 1) = false := beq_eq_false_iff_ne.2 (by omega)
  have p3 : (C.kind == 3) = true := beq_iff_eq.2 hk
  clear hk
  have hl5 : M.log.length ≤ 100000 := HHH.out.1
  obtain ⟨n, hn⟩ : ∃ n, n = min C.at_ M.log.length := ⟨_, rfl⟩
  rw [← hn] at HP
  have HNN := Lib.hid hn
  have HOFX : Hid (OwF (fun b => False ∨ w5.heap.size ≤ b) (w.heap.size + 1 + 1) w5 vl g (ownM M)) := HOF5.out.add fun b hb h => by omega
  obtain ⟨⟨E5, how5, hE5, _⟩, _⟩ := id HOF5.out
  have hl : M.log.length = E5.length := by rw [← ownM_log M, ← hE5, List.length_map]
  obtain ⟨A5, c5, rfl, _, _⟩ := own_slice how5
  have hw : IntKind.u64.wrap (E5.length : Int) = (E5.length : Int) := by rw [IntKind.wrap_u64]; omega
  have HLE := Lib.hid hl
  rw [hl] at hn
  have b1 := (HB15.out.cell 1).trans (rfl : _ = some (Value.int .u64 (M.trim : Int)))
  have HT5X : Hid (w.heap.size ≤ w5.heap.size) := HT5.out.size
  clear how5 hE5 hl hl5
  go_wp2_with fail
  clear b1 k3
  go_loopw [5, 6] (fun ov tv wr => ∃ T : Nat, M.trim ≤ T ∧ T ≤ max M.trim n ∧ tv = .int .u64 (T : Int) ∧ Below w.heap.size w wr ∧ w5.heap.size ≤ wr.heap.size ∧ Blk wr w.heap.size 45 (mdL (ownM M) (.slice A5 E5.length c5) (.slice (some ⟨g, 0, none⟩) 3 3)).toArray ∧ Blk wr (w.heap.size + 1) 25 (calL C (.slice Db C.body.length cb)).toArray ∧ OwF (fun b => False ∨ w5.heap.size ≤ b) (w.heap.size + 1 + 1) wr (.slice A5 E5.length c5) g (ownM M) ∧ OwS w5.heap.size wr ov ((List.range (T - M.trim)).map fun i => { ownM M with trim := M.trim + i + 1 })) (fun _ i _ => max M.trim n - (intOf i).toNat)
  case atStart => exact ⟨M.trim, Nat.le_refl _, Nat.le_max_left _ _, rfl, HT5.out, Nat.le_refl _, HB15.out, HB25.out, HOFX.out, by rw [Nat.sub_self]; exact OwS.nil _ _⟩
  case round =>
   obtain ⟨T, hT1, hT2, rfl, hb, hsz, hB1, hB2, hof, hos⟩ := hrel
   have k7 := (hB2.cell 7).trans (rfl : _ = some (Value.int .u64 (C.at_ : Int)))
   have q0 := (hB1.cell 0).trans (rfl : _ = some (Value.slice A5 E5.length c5))
   have HB := Lib.hid hb
   have HSZ := Lib.hid hsz
   have HB1 := Lib.hid hB1
   have HB2 := Lib.hid hB2
   have HOF := Lib.hid hof
   have HOS := Lib.hid hos
   have HT1 := Lib.hid hT1
   have HT2 := Lib.hid hT2
   clear hb hsz hB1 hB2 hof hos HOFX HOF5 HB15 HB25 HT5
   by_cases hlt : T < n
   ·have g0 : decide (T < min C.at_ E5.length) = true := decide_eq_true (by rw [← hn]; exact hlt)
    have g1 : decide ((T : Int) < min (C.at_ : Int) (E5.length : Int)) = true := decide_eq_true (by rw [hn] at hlt; omega)
    have HLT := Lib.hid hlt
    have HN2 := Lib.hid hn
    obtain ⟨T1, hT1e⟩ : ∃ T1, T1 = T + 1 := ⟨_, rfl⟩
    have HTE := Lib.hid hT1e
    clear hT1e
    have hown := mown_any (X := fun _ => False) (HOF.out.mdf.weak (K' := fun b => w.heap.size + 1 + 1 ≤ b) fun b _ h => h.1) HHH.out.1 HHH.out.2.1 (fun _ h => h.elim)
    clear hlt hn hT1 hT2
    go_wp2_with (refine wpList_load_blk rfl (ty := 45) rfl rfl HB1.out Tryz.underlying45 rfl (info_model rfl) ?_; refine Hid.out ?_)
    refine Lib.hid ?_
    go_wp2_with fail
    refine hown.mono ?_
    rintro e w7 ⟨⟨v7, rfl, vl7, g7, rfl, hof7⟩, hb7⟩
    rw [show ownM (ownM M) = ownM M from rfl] at hof7
    rw [show Value.agg (mdL (ownM (ownM M)) vl7 (.slice (some ⟨g7, 0, none⟩) 3 3)).toArray = .agg (mdL (ownM M) vl7 (.slice (some ⟨g7, 0, none⟩) 3 3)).toArray from rfl]
    have HT7 := Lib.hid hb7
    have HOF7 := Lib.hid hof7
    have hov7 : vl7.oneCell' = true := hof7.mdf.1.one
    clear hown hb7 hof7 k7 q0
    go_wp2_with (refine wpList_alloc_blk rfl rfl zero_model ?_; rintro g8 w8 hgz hB8 hb8; refine Hid.out ?_)
    refine Lib.hid ?_
    have HG8 := Lib.hid hB8
    have HT8 := Lib.hid hb8
    have HGZ := Lib.hid hgz
    clear hgz hB8 hb8
    go_wp2_with (refine wpList_store_blk rfl rfl rfl rfl HG8.out rfl (info_model rfl) (mdL_one hov7 rfl) ?_; rintro w9 hB9 hm9; refine Hid.out ?_)
    refine Lib.hid ?_
    have HG9 := Lib.hid hB9
    have HM9 := Lib.hid hm9
    have e1 := (hB9.cell 1).trans (rfl : _ = some (Value.int .u64 (M.trim : Int)))
    have f1 := hB9.free 1
    have hB10 : Blk (w9.setCell ⟨g8, 1, none⟩ (.int .u64 (T1 : Int))) g8 45 (mdL { ownM M with trim := T1 } vl7 (.slice (some ⟨g7, 0, none⟩) 3 3)).toArray := hB9.put 1 _
    have hm10 : Mod (fun b => b = g8) w9 (w9.setCell ⟨g8, 1, none⟩ (.int .u64 (T1 : Int))) := Mod.set (S := fun b => b = g8) (Mod.refl _ _) (p := ⟨g8, 1, none⟩) (fun _ => rfl) _
    have hm8 : Below wr.heap.size wr w9 := (HT7.out.trans (HT8.out.mono HT7.out.size)).trans (HM9.out.to_below (Nat.le_trans HT7.out.size HT8.out.size) fun b hb e => by have := HGZ.out; have := HT7.out.size; omega)
    have HT10 : Hid (Below wr.heap.size wr (w9.setCell ⟨g8, 1, none⟩ (.int .u64 (T1 : Int)))) := hm8.trans (hm10.to_below hm8.size fun b hb e => by have := HGZ.out; have := HT7.out.size; omega)
    have HB10 := Lib.hid hB10
    have HM10 := Lib.hid hm10
    have hT9 : T ≤ 100000 := by have h1 := HLT.out; have h2 := HNN.out; have h3 := HHH.out.1; omega
    have hw1 : IntKind.u64.wrap ((T : Int) + 1) = (T1 : Int) := by have := HTE.out; rw [IntKind.wrap_u64]; omega
    obtain ⟨E, ho, hE, hall⟩ := HOS.out
    have HE := Lib.hid hE
    have HALL := Lib.hid hall
    have HOE := Lib.hid ho
    have hEl : E.length = T - M.trim := by have := congrArg List.length hE; simpa using this
    obtain ⟨Ao, co, rfl, _, _⟩ := own_slice ho
    have hlo := ho.lt
    have HLO := Lib.hid hlo
    have hEb : E.length ≤ 100000 := by omega
    have a0 := (hB10.cell 0).trans (rfl : _ = some vl7)
    have a1 := (hB10.cell 1).trans (rfl : _ = some (Value.int .u64 (T1 : Int)))
    have a2 := (hB10.cell 2).trans (rfl : _ = some (Value.slice (some ⟨g7, 0, none⟩) 3 3))
    have hzz : (w9.setCell ⟨g8, 1, none⟩ (.int .u64 (T1 : Int))).heap.size = w9.heap.size := by simp [World.setCell]
    have hr : Reads ((w9.setCell ⟨g8, 1, none⟩ (.int .u64 (T1 : Int))).alloc (.cells (mdL { ownM M with trim := T1 } vl7 (.slice (some ⟨g7, 0, none⟩) 3 3)).toArray 45)) 3 (some ⟨w9.heap.size, 0, none⟩) 1 (mdL { ownM M with trim := T1 } vl7 (.slice (some ⟨g7, 0, none⟩) 3 3)) := by
     have h := reads_blockN (w9.setCell ⟨g8, 1, none⟩ (.int .u64 (T1 : Int))) 45 (mdL { ownM M with trim := T1 } vl7 (.slice (some ⟨g7, 0, none⟩) 3 3)) 3 rfl
     rw [hzz] at h
     exact h
    have hW : Below wr.heap.size wr ((w9.setCell ⟨g8, 1, none⟩ (.int .u64 (T1 : Int))).alloc (.cells (mdL { ownM M with trim := T1 } vl7 (.slice (some ⟨g7, 0, none⟩) 3 3)).toArray 45)) := HT10.out.trans ((below_new _ _).mono HT10.out.size)
    have HW := Lib.hid hW
    have hwz : w5.heap.size ≤ ((w9.setCell ⟨g8, 1, none⟩ (.int .u64 (T1 : Int))).alloc (.cells (mdL { ownM M with trim := T1 } vl7 (.slice (some ⟨g7, 0, none⟩) 3 3)).toArray 45)).heap.size := Nat.le_trans HSZ.out hW.size
    have hon := mdL_oneL (M := { ownM M with trim := T1 }) (vl := vl7) (vc := .slice (some ⟨g7, 0, none⟩) 3 3) hov7 rfl
    have hoW := own_call ho hW
    have HZZ := Lib.hid hzz
    have HEL := Lib.hid hEl
    clear hB10 hm10 hm8 hE hall ho hlo hW hzz hEl
    go_wp2_with (first | (at_builtin; refine app_list model_ty rfl rfl hoW rfl hr rfl hon (by omega) hwz ?_; intro v11 w11 ho11 hg11 hv11; have HO11 := Lib.hid ho11; have HG11 := Lib.hid hg11; have HV11 := Lib.hid hv11; clear ho11 hg11 hv11))
    go_roundw
    case rel =>
     have h1 := HT1.out; have h2 := HT2.out; have h3 := HLT.out; have h4 := HSZ.out
     have hm11 : Mod (fun b => w5.heap.size ≤ b) wr w11 := (mod_below HW.out).trans ((mod_grownO HG11.out).mono fun b _ e => (HLO.out b e).1)
     have hX : ∀ b, w.heap.size + 1 + 1 ≤ b → ¬ (False ∨ w5.heap.size ≤ b) → ¬ w5.heap.size ≤ b := fun b _ h e => h (.inr e)
     have hz5 := HZ5.out
     have h9 := HTE.out
     refine ⟨T1, by omega, by omega, rfl, HB.out.trans (hm11.to_below HB.out.size fun b hb e => by omega), Nat.le_trans h4 hm11.size, HB1.out.mod hm11 fun e => by omega, HB2.out.mod hm11 fun e => by omega, HOF.out.mod hm11 hX, ?_⟩
     have hm := OwS.more (M := { ownM M with trim := T1 }) (vl := vl7) (vc := .slice (some ⟨g7, 0, none⟩) 3 3) E HE.out HALL.out HW.out ((HOF7.out.mdw.weak (K' := fun b => wr.heap.size ≤ b ∧ b < w7.heap.size) fun b hb h => ⟨h.1, hb⟩).below (w' := w8) HT8.out |>.mod HM9.out (fun b hb e => by have := HGZ.out; have := hb.2; omega) |>.mod HM10.out (fun b hb e => by have := HGZ.out; have := hb.2; omega) |>.below (below_new _ (.cells (mdL { ownM M with trim := T1 } vl7 (.slice (some ⟨g7, 0, none⟩) 3 3)).toArray 45))) (Nat.le_refl _) (Nat.le_trans HT8.out.size (Nat.le_trans HM9.out.size (Nat.le_trans HM10.out.size (below_new _ (.cells (mdL { ownM M with trim := T1 } vl7 (.slice (some ⟨g7, 0, none⟩) 3 3)).toArray 45)).size))) HSZ.out (fun b hb => (HLO.out b hb).2) HO11.out HG11.out HV11.out
     rw [show T1 - M.trim = (T - M.trim) + 1 by omega, List.range_succ, List.map_append]
     have e : M.trim + (T - M.trim) + 1 = T1 := by omega
     simp only [List.map_cons, List.map_nil, e]
     exact hm
    case measure => simp [intOf]; have := HLT.out; have := HTE.out; have := HT2.out; omega
   ·have g0 : decide (T < min C.at_ E5.length) = false := decide_eq_false (by rw [← hn]; exact hlt)
    have g1 : decide ((T : Int) < min (C.at_ : Int) (E5.length : Int)) = false := decide_eq_false (by rw [hn] at hlt; omega)
    have HLT := Lib.hid hlt
    clear hlt hn hT1 hT2
    go_wp2_with fail
    go_ret
    refine ⟨⟨_, rfl, ?_⟩, HB.out⟩
    have h1 := HT1.out; have h2 := HT2.out; have h3 := HLT.out
    rw [HP.out, show n - M.trim = T - M.trim by omega]
    exact HOS.out.low HT5X.out
 ·have HP : Hid (mightM M C = if subOk C then [setC (ownM M) C (curTo (ownM M) C)] else []) := by show _ = _; rw [HD.out]; unfold mightO; rw [if_neg (by omega), if_neg (by omega), if_pos (by omega)]
  have p1 : (C.kind == 1) = false := beq_eq_false_iff_ne.2 (by omega)
  have p3 : (C.kind == 3) = false := beq_eq_false_iff_ne.2 (by omega)
  have p4 : (C.kind == 4) = true := beq_iff_eq.2 hk
  have p5 : (C.kind == 5) = false := beq_eq_false_iff_ne.2 (by omega)
  have HCT : Hid (curTo (ownM M) C = max (getC (ownM M) C) C.at_) := by show _ = _; unfold curTo; rw [if_pos hk]
  clear hk
  go_wp2_with (refine wpList_load_blk rfl (ty := 45) rfl rfl HB15.out Tryz.underlying45 rfl (info_model rfl) ?_; refine Hid.out ?_)
  refine Lib.hid ?_
  go_wp2_with (refine wpList_load_blk rfl (ty := 25) rfl rfl HB25.out Tryz.underlying25 rfl (info_call rfl) ?_; refine Hid.out ?_)
  refine Lib.hid ?_
  go_wp2_with fail
  refine (cursor_any (M := ownM M) (g := g) (C := C) hov (HV.out.below HT5.out)).mono ?_
  rintro e w6 ⟨rfl, hb6⟩
  have HT6 := Tt HT5 hb6
  have HB16 := Bb HB15 hb6
  have HB26 := Bb HB25 hb6
  have HOF6 := Lib.hid (HOF5.out.below hb6)
  have HGB : Hid (w.heap.size + 1 + 1 ≤ g) := HOF5.out.2.2.2.1
  have k36 := (HB26.out.cell 3).trans (rfl : _ = some (Value.int .i64 C.kind))
  have k76 := (HB26.out.cell 7).trans (rfl : _ = some (Value.int .u64 (C.at_ : Int)))
  clear hb6 k3
  cases hso : subOk C with
  | false =>
   have hcv : curV C g = .pointer none := by unfold curV; rw [hso]; rfl
   have HQ : Hid (mightM M C = []) := by show _ = _; rw [HP.out, hso]; rfl
   rw [hcv]
   clear hso hcv
   go_wp2_with fail
   go_ret
   refine ⟨⟨_, rfl, ?_⟩, HT6.out⟩
   rw [HQ.out]
   exact OwS.nil _ _
  | true =>
   obtain ⟨k, hk3, hkx⟩ : ∃ k, k < 3 ∧ (C.sub - 1).toNat = k := ⟨(C.sub - 1).toNat, by unfold subOk at hso; simp at hso; omega, rfl⟩
   have hcv : curV C g = .pointer (some ⟨g, k, none⟩) := by unfold curV; rw [hso, hkx]; rfl
   rw [hcv]
   clear hcv
   obtain ⟨x, hx⟩ : ∃ x, getC (ownM M) C = x := ⟨_, rfl⟩
   have hxc : (ownM M).cur.getD k 0 = x := by rw [← hx]; unfold getC; rw [hkx]
   have ck := cur_cell HOF6.out.2.1 (k := k) (by rw [HOF6.out.2.2.1]; exact hk3)
   rw [hxc] at ck
   have fk := HOF6.out.2.1.free k
   try rw [hx] at HCT
   have HN : Hid (mightM M C = [] ++ [{ ownM M with cur := (ownM M).cur.set k (curTo (ownM M) C) }]) := by show _ = _; rw [HP.out, hso]; simp only [if_true, List.nil_append]; unfold setC; rw [hkx]
   have hp7 := HOF6.out.putC k C.at_
   have HOF7 := Lib.hid hp7.1
   have HM7 := Lib.hid hp7.2
   clear hp7
   by_cases ha : x < C.at_
   ·skip
    have a0 : decide (x < C.at_) = true := decide_eq_true ha
    have a1 : decide ((x : Int) < (C.at_ : Int)) = true := decide_eq_true (by omega)
    have hct : curTo (ownM M) C = C.at_ := by rw [HCT.out]; omega
    have HQ := HN
    rw [hct] at HQ
    have b0 : (w6.setCell ⟨g, k, none⟩ (.int .u64 (C.at_ : Int))).cell? ⟨w.heap.size, 0, none⟩ = some vl := ((HB16.out.mod HM7.out fun e => by have := HGB.out; omega).cell 0).trans rfl
    have b1 : (w6.setCell ⟨g, k, none⟩ (.int .u64 (C.at_ : Int))).cell? ⟨w.heap.size, 1, none⟩ = some (.int .u64 (M.trim : Int)) := ((HB16.out.mod HM7.out fun e => by have := HGB.out; omega).cell 1).trans rfl
    have b2 : (w6.setCell ⟨g, k, none⟩ (.int .u64 (C.at_ : Int))).cell? ⟨w.heap.size, 2, none⟩ = some (.slice (some ⟨g, 0, none⟩) 3 3) := ((HB16.out.mod HM7.out fun e => by have := HGB.out; omega).cell 2).trans rfl
    have HT7 : Hid (Below w.heap.size w (w6.setCell ⟨g, k, none⟩ (.int .u64 (C.at_ : Int)))) := HT6.out.trans (HM7.out.to_below HT6.out.size fun b hb e => by have := HGB.out; omega)
    have HN7 : Hid (MdW (fun b => w.heap.size ≤ b) (w6.setCell ⟨g, k, none⟩ (.int .u64 (C.at_ : Int))) vl (.slice (some ⟨g, 0, none⟩) 3 3) ({ ownM M with cur := (ownM M).cur.set k C.at_ })) := HOF7.out.mdw.weak fun b _ h => by have := h.1; show _ ≤ _; omega
    clear ha hct hso hx hxc hk3 hkx
    go_wp2_with fail
    refine PF.b (by kernel_rfl) (fun _ _ _ _ _ h => h) ?_
    refine PF.t 0 (by kernel_rfl) rfl (by go_simp; try rfl) ?_
    try simp only [pz]
    refine PF.t 1 (by kernel_rfl) rfl (by go_simp; try rfl) ?_
    try simp only [pz]
    refine PF.m 2 (g) (by kernel_rfl) rfl (fun hcu => by go_simp; try rfl) ?_
    try simp only [pz]
    refine PF.t 3 (by kernel_rfl) rfl (by go_simp; try rfl) ?_
    try simp only [pz]
    refine PF.m 4 ((w.heap.size+1)) (by kernel_rfl) rfl (fun hcu => by go_simp; try rfl) ?_
    try simp only [pz]
    refine PF.t 5 (by kernel_rfl) rfl (by go_simp; try rfl) ?_
    try simp only [pz]
    refine PF.t 6 (by kernel_rfl) rfl (by go_simp; try rfl) ?_
    try simp only [pz]
    refine PF.s 7 (by kernel_rfl) rfl ?_
    refine PF.s 8 (by kernel_rfl) rfl ?_
    refine PF.s 9 (by kernel_rfl) rfl ?_
    try simp only [pz]
    refine PF.t 10 (by kernel_rfl) rfl (by go_simp; try rfl) ?_
    try simp only [pz]
    refine PF.d (by kernel_rfl) ?_
    try rw [show Value.agg (mdL ({ ownM M with cur := (ownM M).cur.set k C.at_ }) vl (.slice (some ⟨g, 0, none⟩) 3 3)).toArray = .agg #[vl, .int .u64 ((({ ownM M with cur := (ownM M).cur.set k C.at_ }).trim : Nat) : Int), (.slice (some ⟨g, 0, none⟩) 3 3)] from rfl]
    have hr : Reads (((w6.setCell ⟨g, k, none⟩ (.int .u64 (C.at_ : Int))).alloc (.cells (mdL ({ ownM M with cur := (ownM M).cur.set k C.at_ }) vl (.slice (some ⟨g, 0, none⟩) 3 3)).toArray 45)).drew) 3 (some ⟨w6.heap.size, 0, none⟩) 1 (mdL ({ ownM M with cur := (ownM M).cur.set k C.at_ }) vl (.slice (some ⟨g, 0, none⟩) 3 3)) := by have h := reads_blockN (w6.setCell ⟨g, k, none⟩ (.int .u64 (C.at_ : Int))) 45 (mdL ({ ownM M with cur := (ownM M).cur.set k C.at_ }) vl (.slice (some ⟨g, 0, none⟩) 3 3)) 3 rfl; rw [show (w6.setCell ⟨g, k, none⟩ (.int .u64 (C.at_ : Int))).heap.size = w6.heap.size from by first | rfl | simp [World.setCell]] at h; exact h
    have hW : Below (w6.setCell ⟨g, k, none⟩ (.int .u64 (C.at_ : Int))).heap.size (w6.setCell ⟨g, k, none⟩ (.int .u64 (C.at_ : Int))) (((w6.setCell ⟨g, k, none⟩ (.int .u64 (C.at_ : Int))).alloc (.cells (mdL ({ ownM M with cur := (ownM M).cur.set k C.at_ }) vl (.slice (some ⟨g, 0, none⟩) 3 3)).toArray 45)).drew) := (below_new (w6.setCell ⟨g, k, none⟩ (.int .u64 (C.at_ : Int))) (.cells (mdL ({ ownM M with cur := (ownM M).cur.set k C.at_ }) vl (.slice (some ⟨g, 0, none⟩) 3 3)).toArray 45)).drew
    have HWN := Lib.hid hW
    have hwz : w.heap.size ≤ (((w6.setCell ⟨g, k, none⟩ (.int .u64 (C.at_ : Int))).alloc (.cells (mdL ({ ownM M with cur := (ownM M).cur.set k C.at_ }) vl (.slice (some ⟨g, 0, none⟩) 3 3)).toArray 45)).drew).heap.size := Nat.le_trans HT7.out.size hW.size
    have hon := mdL_oneL (M := { ownM M with cur := (ownM M).cur.set k C.at_ }) (vl := vl) (vc := (.slice (some ⟨g, 0, none⟩) 3 3)) hov rfl
    clear hW
    go_wp2_with (first | (at_builtin; refine app_list model_ty rfl rfl (World.ownsRow_nil _ w.heap.size _ _) rfl hr rfl hon (by decide) hwz ?_; intro v9 w9 ho9 hg9 hv9; have HO9 := Lib.hid ho9; have HG9 := Lib.hid hg9; have HV9 := Lib.hid hv9; clear ho9 hg9 hv9))
    go_ret
    refine ⟨⟨_, rfl, ?_⟩, (HT7.out.trans (HWN.out.mono HT7.out.size)).grown HG9.out hwz (fun b e => by cases e)⟩
    rw [HQ.out]
    exact OwS.one (HN7.out.below HWN.out) hwz HO9.out HG9.out HV9.out
   ·skip
    have a0 : decide (x < C.at_) = false := decide_eq_false ha
    have a1 : decide ((x : Int) < (C.at_ : Int)) = false := decide_eq_false (by omega)
    have hct : curTo (ownM M) C = x := by rw [HCT.out]; omega
    have HQ := HN
    rw [hct, ← hxc, set_same] at HQ
    have HOF7 := HOF6
    have HM7 : Hid (Mod (fun b => b = g) w6 w6) := Mod.refl _ _
    have b0 : w6.cell? ⟨w.heap.size, 0, none⟩ = some vl := ((HB16.out.mod HM7.out fun e => by have := HGB.out; omega).cell 0).trans rfl
    have b1 : w6.cell? ⟨w.heap.size, 1, none⟩ = some (.int .u64 (M.trim : Int)) := ((HB16.out.mod HM7.out fun e => by have := HGB.out; omega).cell 1).trans rfl
    have b2 : w6.cell? ⟨w.heap.size, 2, none⟩ = some (.slice (some ⟨g, 0, none⟩) 3 3) := ((HB16.out.mod HM7.out fun e => by have := HGB.out; omega).cell 2).trans rfl
    have HT7 : Hid (Below w.heap.size w w6) := HT6.out.trans (HM7.out.to_below HT6.out.size fun b hb e => by have := HGB.out; omega)
    have HN7 : Hid (MdW (fun b => w.heap.size ≤ b) w6 vl (.slice (some ⟨g, 0, none⟩) 3 3) (ownM M)) := HOF7.out.mdw.weak fun b _ h => by have := h.1; show _ ≤ _; omega
    clear ha hct hso hx hxc hk3 hkx
    go_wp2_with fail
    refine PF.b (by kernel_rfl) (fun _ _ _ _ _ h => h) ?_
    refine PF.t 0 (by kernel_rfl) rfl (by go_simp; try rfl) ?_
    try simp only [pz]
    refine PF.t 1 (by kernel_rfl) rfl (by go_simp; try rfl) ?_
    try simp only [pz]
    refine PF.m 2 (g) (by kernel_rfl) rfl (fun hcu => by go_simp; try rfl) ?_
    try simp only [pz]
    refine PF.t 3 (by kernel_rfl) rfl (by go_simp; try rfl) ?_
    try simp only [pz]
    refine PF.m 4 ((w.heap.size+1)) (by kernel_rfl) rfl (fun hcu => by go_simp; try rfl) ?_
    try simp only [pz]
    refine PF.t 5 (by kernel_rfl) rfl (by go_simp; try rfl) ?_
    try simp only [pz]
    refine PF.t 6 (by kernel_rfl) rfl (by go_simp; try rfl) ?_
    try simp only [pz]
    refine PF.t 7 (by kernel_rfl) rfl (by go_simp; try rfl) ?_
    try simp only [pz]
    refine PF.m 8 ((w.heap.size+1)) (by kernel_rfl) rfl (fun hcu => by go_simp; try rfl) ?_
    try simp only [pz]
    refine PF.t 9 (by kernel_rfl) rfl (by go_simp; try rfl) ?_
    try simp only [pz]
    refine PF.t 10 (by kernel_rfl) rfl (by go_simp; try rfl) ?_
    try simp only [pz]
    refine PF.d (by kernel_rfl) ?_
    try rw [show Value.agg (mdL (ownM M) vl (.slice (some ⟨g, 0, none⟩) 3 3)).toArray = .agg #[vl, .int .u64 (((ownM M).trim : Nat) : Int), (.slice (some ⟨g, 0, none⟩) 3 3)] from rfl]
    have hr : Reads ((w6.alloc (.cells (mdL (ownM M) vl (.slice (some ⟨g, 0, none⟩) 3 3)).toArray 45)).drew) 3 (some ⟨w6.heap.size, 0, none⟩) 1 (mdL (ownM M) vl (.slice (some ⟨g, 0, none⟩) 3 3)) := by have h := reads_blockN w6 45 (mdL (ownM M) vl (.slice (some ⟨g, 0, none⟩) 3 3)) 3 rfl; rw [show w6.heap.size = w6.heap.size from by first | rfl | simp [World.setCell]] at h; exact h
    have hW : Below w6.heap.size w6 ((w6.alloc (.cells (mdL (ownM M) vl (.slice (some ⟨g, 0, none⟩) 3 3)).toArray 45)).drew) := (below_new w6 (.cells (mdL (ownM M) vl (.slice (some ⟨g, 0, none⟩) 3 3)).toArray 45)).drew
    have HWN := Lib.hid hW
    have hwz : w.heap.size ≤ ((w6.alloc (.cells (mdL (ownM M) vl (.slice (some ⟨g, 0, none⟩) 3 3)).toArray 45)).drew).heap.size := Nat.le_trans HT7.out.size hW.size
    have hon := mdL_oneL (M := ownM M) (vl := vl) (vc := (.slice (some ⟨g, 0, none⟩) 3 3)) hov rfl
    clear hW
    go_wp2_with (first | (at_builtin; refine app_list model_ty rfl rfl (World.ownsRow_nil _ w.heap.size _ _) rfl hr rfl hon (by decide) hwz ?_; intro v9 w9 ho9 hg9 hv9; have HO9 := Lib.hid ho9; have HG9 := Lib.hid hg9; have HV9 := Lib.hid hv9; clear ho9 hg9 hv9))
    go_ret
    refine ⟨⟨_, rfl, ?_⟩, (HT7.out.trans (HWN.out.mono HT7.out.size)).grown HG9.out hwz (fun b e => by cases e)⟩
    rw [HQ.out]
    exact OwS.one (HN7.out.below HWN.out) hwz HO9.out HG9.out HV9.out
 ·have HP : Hid (mightM M C = if subOk C then [setC (ownM M) C (curTo (ownM M) C)] else []) := by show _ = _; rw [HD.out]; unfold mightO; rw [if_neg (by omega), if_neg (by omega), if_pos (by omega)]
  have p1 : (C.kind == 1) = false := beq_eq_false_iff_ne.2 (by omega)
  have p3 : (C.kind == 3) = false := beq_eq_false_iff_ne.2 (by omega)
  have p4 : (C.kind == 4) = false := beq_eq_false_iff_ne.2 (by omega)
  have p5 : (C.kind == 5) = true := beq_iff_eq.2 hk
  have HCT : Hid (curTo (ownM M) C = C.at_) := by show _ = _; unfold curTo; rw [if_neg (by omega), if_pos hk]
  clear hk
  go_wp2_with (refine wpList_load_blk rfl (ty := 45) rfl rfl HB15.out Tryz.underlying45 rfl (info_model rfl) ?_; refine Hid.out ?_)
  refine Lib.hid ?_
  go_wp2_with (refine wpList_load_blk rfl (ty := 25) rfl rfl HB25.out Tryz.underlying25 rfl (info_call rfl) ?_; refine Hid.out ?_)
  refine Lib.hid ?_
  go_wp2_with fail
  refine (cursor_any (M := ownM M) (g := g) (C := C) hov (HV.out.below HT5.out)).mono ?_
  rintro e w6 ⟨rfl, hb6⟩
  have HT6 := Tt HT5 hb6
  have HB16 := Bb HB15 hb6
  have HB26 := Bb HB25 hb6
  have HOF6 := Lib.hid (HOF5.out.below hb6)
  have HGB : Hid (w.heap.size + 1 + 1 ≤ g) := HOF5.out.2.2.2.1
  have k36 := (HB26.out.cell 3).trans (rfl : _ = some (Value.int .i64 C.kind))
  have k76 := (HB26.out.cell 7).trans (rfl : _ = some (Value.int .u64 (C.at_ : Int)))
  clear hb6 k3
  cases hso : subOk C with
  | false =>
   have hcv : curV C g = .pointer none := by unfold curV; rw [hso]; rfl
   have HQ : Hid (mightM M C = []) := by show _ = _; rw [HP.out, hso]; rfl
   rw [hcv]
   clear hso hcv
   go_wp2_with fail
   go_ret
   refine ⟨⟨_, rfl, ?_⟩, HT6.out⟩
   rw [HQ.out]
   exact OwS.nil _ _
  | true =>
   obtain ⟨k, hk3, hkx⟩ : ∃ k, k < 3 ∧ (C.sub - 1).toNat = k := ⟨(C.sub - 1).toNat, by unfold subOk at hso; simp at hso; omega, rfl⟩
   have hcv : curV C g = .pointer (some ⟨g, k, none⟩) := by unfold curV; rw [hso, hkx]; rfl
   rw [hcv]
   clear hcv
   obtain ⟨x, hx⟩ : ∃ x, getC (ownM M) C = x := ⟨_, rfl⟩
   have hxc : (ownM M).cur.getD k 0 = x := by rw [← hx]; unfold getC; rw [hkx]
   have ck := cur_cell HOF6.out.2.1 (k := k) (by rw [HOF6.out.2.2.1]; exact hk3)
   rw [hxc] at ck
   have fk := HOF6.out.2.1.free k
   try rw [hx] at HCT
   have HN : Hid (mightM M C = [] ++ [{ ownM M with cur := (ownM M).cur.set k (curTo (ownM M) C) }]) := by show _ = _; rw [HP.out, hso]; simp only [if_true, List.nil_append]; unfold setC; rw [hkx]
   have hp7 := HOF6.out.putC k C.at_
   have HOF7 := Lib.hid hp7.1
   have HM7 := Lib.hid hp7.2
   clear hp7
   by_cases ha : x < C.at_
   ·skip
    have a0 : decide (x < C.at_) = true := decide_eq_true ha
    have a1 : decide ((x : Int) < (C.at_ : Int)) = true := decide_eq_true (by omega)
    have hct : curTo (ownM M) C = C.at_ := by rw [HCT.out]
    have HQ := HN
    rw [hct] at HQ
    have b0 : (w6.setCell ⟨g, k, none⟩ (.int .u64 (C.at_ : Int))).cell? ⟨w.heap.size, 0, none⟩ = some vl := ((HB16.out.mod HM7.out fun e => by have := HGB.out; omega).cell 0).trans rfl
    have b1 : (w6.setCell ⟨g, k, none⟩ (.int .u64 (C.at_ : Int))).cell? ⟨w.heap.size, 1, none⟩ = some (.int .u64 (M.trim : Int)) := ((HB16.out.mod HM7.out fun e => by have := HGB.out; omega).cell 1).trans rfl
    have b2 : (w6.setCell ⟨g, k, none⟩ (.int .u64 (C.at_ : Int))).cell? ⟨w.heap.size, 2, none⟩ = some (.slice (some ⟨g, 0, none⟩) 3 3) := ((HB16.out.mod HM7.out fun e => by have := HGB.out; omega).cell 2).trans rfl
    have HT7 : Hid (Below w.heap.size w (w6.setCell ⟨g, k, none⟩ (.int .u64 (C.at_ : Int)))) := HT6.out.trans (HM7.out.to_below HT6.out.size fun b hb e => by have := HGB.out; omega)
    have HN7 : Hid (MdW (fun b => w.heap.size ≤ b) (w6.setCell ⟨g, k, none⟩ (.int .u64 (C.at_ : Int))) vl (.slice (some ⟨g, 0, none⟩) 3 3) ({ ownM M with cur := (ownM M).cur.set k C.at_ })) := HOF7.out.mdw.weak fun b _ h => by have := h.1; show _ ≤ _; omega
    clear ha hct hso hx hxc hk3 hkx
    go_wp2_with fail
    refine PF.b (by kernel_rfl) (fun _ _ _ _ _ h => h) ?_
    refine PF.t 0 (by kernel_rfl) rfl (by go_simp; try rfl) ?_
    try simp only [pz]
    refine PF.t 1 (by kernel_rfl) rfl (by go_simp; try rfl) ?_
    try simp only [pz]
    refine PF.m 2 (g) (by kernel_rfl) rfl (fun hcu => by go_simp; try rfl) ?_
    try simp only [pz]
    refine PF.t 3 (by kernel_rfl) rfl (by go_simp; try rfl) ?_
    try simp only [pz]
    refine PF.m 4 ((w.heap.size+1)) (by kernel_rfl) rfl (fun hcu => by go_simp; try rfl) ?_
    try simp only [pz]
    refine PF.t 5 (by kernel_rfl) rfl (by go_simp; try rfl) ?_
    try simp only [pz]
    refine PF.t 6 (by kernel_rfl) rfl (by go_simp; try rfl) ?_
    try simp only [pz]
    refine PF.s 7 (by kernel_rfl) rfl ?_
    refine PF.s 8 (by kernel_rfl) rfl ?_
    refine PF.s 9 (by kernel_rfl) rfl ?_
    try simp only [pz]
    refine PF.t 10 (by kernel_rfl) rfl (by go_simp; try rfl) ?_
    try simp only [pz]
    refine PF.d (by kernel_rfl) ?_
    try rw [show Value.agg (mdL ({ ownM M with cur := (ownM M).cur.set k C.at_ }) vl (.slice (some ⟨g, 0, none⟩) 3 3)).toArray = .agg #[vl, .int .u64 ((({ ownM M with cur := (ownM M).cur.set k C.at_ }).trim : Nat) : Int), (.slice (some ⟨g, 0, none⟩) 3 3)] from rfl]
    have hr : Reads (((w6.setCell ⟨g, k, none⟩ (.int .u64 (C.at_ : Int))).alloc (.cells (mdL ({ ownM M with cur := (ownM M).cur.set k C.at_ }) vl (.slice (some ⟨g, 0, none⟩) 3 3)).toArray 45)).drew) 3 (some ⟨w6.heap.size, 0, none⟩) 1 (mdL ({ ownM M with cur := (ownM M).cur.set k C.at_ }) vl (.slice (some ⟨g, 0, none⟩) 3 3)) := by have h := reads_blockN (w6.setCell ⟨g, k, none⟩ (.int .u64 (C.at_ : Int))) 45 (mdL ({ ownM M with cur := (ownM M).cur.set k C.at_ }) vl (.slice (some ⟨g, 0, none⟩) 3 3)) 3 rfl; rw [show (w6.setCell ⟨g, k, none⟩ (.int .u64 (C.at_ : Int))).heap.size = w6.heap.size from by first | rfl | simp [World.setCell]] at h; exact h
    have hW : Below (w6.setCell ⟨g, k, none⟩ (.int .u64 (C.at_ : Int))).heap.size (w6.setCell ⟨g, k, none⟩ (.int .u64 (C.at_ : Int))) (((w6.setCell ⟨g, k, none⟩ (.int .u64 (C.at_ : Int))).alloc (.cells (mdL ({ ownM M with cur := (ownM M).cur.set k C.at_ }) vl (.slice (some ⟨g, 0, none⟩) 3 3)).toArray 45)).drew) := (below_new (w6.setCell ⟨g, k, none⟩ (.int .u64 (C.at_ : Int))) (.cells (mdL ({ ownM M with cur := (ownM M).cur.set k C.at_ }) vl (.slice (some ⟨g, 0, none⟩) 3 3)).toArray 45)).drew
    have HWN := Lib.hid hW
    have hwz : w.heap.size ≤ (((w6.setCell ⟨g, k, none⟩ (.int .u64 (C.at_ : Int))).alloc (.cells (mdL ({ ownM M with cur := (ownM M).cur.set k C.at_ }) vl (.slice (some ⟨g, 0, none⟩) 3 3)).toArray 45)).drew).heap.size := Nat.le_trans HT7.out.size hW.size
    have hon := mdL_oneL (M := { ownM M with cur := (ownM M).cur.set k C.at_ }) (vl := vl) (vc := (.slice (some ⟨g, 0, none⟩) 3 3)) hov rfl
    clear hW
    go_wp2_with (first | (at_builtin; refine app_list model_ty rfl rfl (World.ownsRow_nil _ w.heap.size _ _) rfl hr rfl hon (by decide) hwz ?_; intro v9 w9 ho9 hg9 hv9; have HO9 := Lib.hid ho9; have HG9 := Lib.hid hg9; have HV9 := Lib.hid hv9; clear ho9 hg9 hv9))
    go_ret
    refine ⟨⟨_, rfl, ?_⟩, (HT7.out.trans (HWN.out.mono HT7.out.size)).grown HG9.out hwz (fun b e => by cases e)⟩
    rw [HQ.out]
    exact OwS.one (HN7.out.below HWN.out) hwz HO9.out HG9.out HV9.out
   ·skip
    have a0 : decide (x < C.at_) = false := decide_eq_false ha
    have a1 : decide ((x : Int) < (C.at_ : Int)) = false := decide_eq_false (by omega)
    have hct : curTo (ownM M) C = C.at_ := by rw [HCT.out]
    have HQ := HN
    rw [hct] at HQ
    have b0 : (w6.setCell ⟨g, k, none⟩ (.int .u64 (C.at_ : Int))).cell? ⟨w.heap.size, 0, none⟩ = some vl := ((HB16.out.mod HM7.out fun e => by have := HGB.out; omega).cell 0).trans rfl
    have b1 : (w6.setCell ⟨g, k, none⟩ (.int .u64 (C.at_ : Int))).cell? ⟨w.heap.size, 1, none⟩ = some (.int .u64 (M.trim : Int)) := ((HB16.out.mod HM7.out fun e => by have := HGB.out; omega).cell 1).trans rfl
    have b2 : (w6.setCell ⟨g, k, none⟩ (.int .u64 (C.at_ : Int))).cell? ⟨w.heap.size, 2, none⟩ = some (.slice (some ⟨g, 0, none⟩) 3 3) := ((HB16.out.mod HM7.out fun e => by have := HGB.out; omega).cell 2).trans rfl
    have HT7 : Hid (Below w.heap.size w (w6.setCell ⟨g, k, none⟩ (.int .u64 (C.at_ : Int)))) := HT6.out.trans (HM7.out.to_below HT6.out.size fun b hb e => by have := HGB.out; omega)
    have HN7 : Hid (MdW (fun b => w.heap.size ≤ b) (w6.setCell ⟨g, k, none⟩ (.int .u64 (C.at_ : Int))) vl (.slice (some ⟨g, 0, none⟩) 3 3) ({ ownM M with cur := (ownM M).cur.set k C.at_ })) := HOF7.out.mdw.weak fun b _ h => by have := h.1; show _ ≤ _; omega
    clear ha hct hso hx hxc hk3 hkx
    go_wp2_with fail
    refine PF.b (by kernel_rfl) (fun _ _ _ _ _ h => h) ?_
    refine PF.t 0 (by kernel_rfl) rfl (by go_simp; try rfl) ?_
    try simp only [pz]
    refine PF.t 1 (by kernel_rfl) rfl (by go_simp; try rfl) ?_
    try simp only [pz]
    refine PF.m 2 (g) (by kernel_rfl) rfl (fun hcu => by go_simp; try rfl) ?_
    try simp only [pz]
    refine PF.t 3 (by kernel_rfl) rfl (by go_simp; try rfl) ?_
    try simp only [pz]
    refine PF.m 4 ((w.heap.size+1)) (by kernel_rfl) rfl (fun hcu => by go_simp; try rfl) ?_
    try simp only [pz]
    refine PF.t 5 (by kernel_rfl) rfl (by go_simp; try rfl) ?_
    try simp only [pz]
    refine PF.t 6 (by kernel_rfl) rfl (by go_simp; try rfl) ?_
    try simp only [pz]
    refine PF.t 7 (by kernel_rfl) rfl (by go_simp; try rfl) ?_
    try simp only [pz]
    refine PF.m 8 ((w.heap.size+1)) (by kernel_rfl) rfl (fun hcu => by go_simp; try rfl) ?_
    try simp only [pz]
    refine PF.t 9 (by kernel_rfl) rfl (by go_simp; try rfl) ?_
    try simp only [pz]
    refine PF.t 10 (by kernel_rfl) rfl (by go_simp; try rfl) ?_
    try simp only [pz]
    refine PF.d (by kernel_rfl) ?_
    try rw [show Value.agg (mdL ({ ownM M with cur := (ownM M).cur.set k C.at_ }) vl (.slice (some ⟨g, 0, none⟩) 3 3)).toArray = .agg #[vl, .int .u64 ((({ ownM M with cur := (ownM M).cur.set k C.at_ }).trim : Nat) : Int), (.slice (some ⟨g, 0, none⟩) 3 3)] from rfl]
    have hr : Reads (((w6.setCell ⟨g, k, none⟩ (.int .u64 (C.at_ : Int))).alloc (.cells (mdL ({ ownM M with cur := (ownM M).cur.set k C.at_ }) vl (.slice (some ⟨g, 0, none⟩) 3 3)).toArray 45)).drew) 3 (some ⟨w6.heap.size, 0, none⟩) 1 (mdL ({ ownM M with cur := (ownM M).cur.set k C.at_ }) vl (.slice (some ⟨g, 0, none⟩) 3 3)) := by have h := reads_blockN (w6.setCell ⟨g, k, none⟩ (.int .u64 (C.at_ : Int))) 45 (mdL ({ ownM M with cur := (ownM M).cur.set k C.at_ }) vl (.slice (some ⟨g, 0, none⟩) 3 3)) 3 rfl; rw [show (w6.setCell ⟨g, k, none⟩ (.int .u64 (C.at_ : Int))).heap.size = w6.heap.size from by first | rfl | simp [World.setCell]] at h; exact h
    have hW : Below (w6.setCell ⟨g, k, none⟩ (.int .u64 (C.at_ : Int))).heap.size (w6.setCell ⟨g, k, none⟩ (.int .u64 (C.at_ : Int))) (((w6.setCell ⟨g, k, none⟩ (.int .u64 (C.at_ : Int))).alloc (.cells (mdL ({ ownM M with cur := (ownM M).cur.set k C.at_ }) vl (.slice (some ⟨g, 0, none⟩) 3 3)).toArray 45)).drew) := (below_new (w6.setCell ⟨g, k, none⟩ (.int .u64 (C.at_ : Int))) (.cells (mdL ({ ownM M with cur := (ownM M).cur.set k C.at_ }) vl (.slice (some ⟨g, 0, none⟩) 3 3)).toArray 45)).drew
    have HWN := Lib.hid hW
    have hwz : w.heap.size ≤ (((w6.setCell ⟨g, k, none⟩ (.int .u64 (C.at_ : Int))).alloc (.cells (mdL ({ ownM M with cur := (ownM M).cur.set k C.at_ }) vl (.slice (some ⟨g, 0, none⟩) 3 3)).toArray 45)).drew).heap.size := Nat.le_trans HT7.out.size hW.size
    have hon := mdL_oneL (M := { ownM M with cur := (ownM M).cur.set k C.at_ }) (vl := vl) (vc := (.slice (some ⟨g, 0, none⟩) 3 3)) hov rfl
    clear hW
    go_wp2_with (first | (at_builtin; refine app_list model_ty rfl rfl (World.ownsRow_nil _ w.heap.size _ _) rfl hr rfl hon (by decide) hwz ?_; intro v9 w9 ho9 hg9 hv9; have HO9 := Lib.hid ho9; have HG9 := Lib.hid hg9; have HV9 := Lib.hid hv9; clear ho9 hg9 hv9))
    go_ret
    refine ⟨⟨_, rfl, ?_⟩, (HT7.out.trans (HWN.out.mono HT7.out.size)).grown HG9.out hwz (fun b e => by cases e)⟩
    rw [HQ.out]
    exact OwS.one (HN7.out.below HWN.out) hwz HO9.out HG9.out HV9.out
 ·have HQ : Hid (mightM M C = []) := by show _ = _; rw [HD.out]; unfold mightO; rw [if_neg n1, if_neg n3, if_neg (fun h => h.elim n4 n5)]
  have p1 : (C.kind == 1) = false := beq_eq_false_iff_ne.2 n1
  have p3 : (C.kind == 3) = false := beq_eq_false_iff_ne.2 n3
  have p4 : (C.kind == 4) = false := beq_eq_false_iff_ne.2 n4
  have p5 : (C.kind == 5) = false := beq_eq_false_iff_ne.2 n5
  clear n1 n3 n4 n5
  go_wp2_with fail
  go_ret
  refine ⟨⟨_, rfl, ?_⟩, HT5.out⟩
  rw [HQ.out]
  exact OwS.nil _ _
theorem might_any {K K1 : Nat → Prop} {w : World} {vl0 vc0 v : Value} {M : Mdl} {C : Cal} (h : MdF K w vl0 vc0 M) (hv : SlB K1 w v C.body) (hn : M.log.length ≤ 100000) (hbl : ∀ e ∈ M.log, e.body.length ≤ 1000000) (hnb : C.body.length ≤ 1000000) (htr : M.trim < 18446744073709551616) (hat : C.at_ < 18446744073709551616) :
  Calls Tryz.prog 26 #[.agg (mdL M vl0 vc0).toArray, .agg (calL C v).toArray] w fun e w' => (∃ v', e = .returned v' ∧ SlM (fun b => w.heap.size ≤ b) w' v' (mightM M C)) ∧ Below w.heap.size w w' :=
 (might_wide h hv hn hbl hnb htr hat).mono fun e w' ⟨⟨v', e1, h1⟩, hb⟩ => ⟨⟨v', e1, h1.slm⟩, hb⟩
end Go.Proofs.YtpjmolnkmlpfeaaGreatDoor
