/- Joined texts: JuX, JuY. -/
import Derived.Test.YtpjmolnkmlpfeaaGreatDoorJBD
/- What comes next, made as it is asked for. -/
set_option linter.unusedVariables false
set_option linter.unusedSimpArgs false
namespace Go.Proofs.YtpjmolnkmlpfeaaGreatDoor
set_option maxRecDepth 100000
open Go.RowKit
@[go_sem] theorem wide_fn (f : FuncId) : Fence.wide.fn f = True := rfl
@[go_sem] theorem wide_depth : Fence.wide.depth = none := rfl
@[go_sem] theorem wide_round : Fence.wide.round = none := rfl
set_option maxHeartbeats 2000000 in
theorem next1_any {K K1 K2 Z : Nat → Prop} {w : World} {bo bm l : Nat} {o : Opr} {v vr vl vc : Value} {M : Mdl} {Ms : List Mdl} (J : Nat → World → Prop) (Jx : World → Prop)
  (hO : Blk w bo 95 (opL o v vr).toArray) (hM : Blk w bm 45 (mdL M vl vc).toArray) (hm : MdF K w vl vc M) (hv : SlB K1 w v o.call.body) (hvr : SlB K2 w vr o.rep.body)
  (hn : M.log.length ≤ 100000) (hbl : ∀ e ∈ M.log, e.body.length ≤ 1000000) (hnb : o.call.body.length ≤ 1000000) (hnr : o.rep.body.length ≤ 1000000) (htr : M.trim < 18446744073709551616) (hat : o.call.at_ < 18446744073709551616)
  (hMs : Ms = nxM o M) (hJb : ∀ i A B, J i A → Below A.heap.size A B → J i B) (hZ : ∀ b, Z b → b < w.heap.size)
  (hY : ∀ i vM W, (hi : i < Ms.length) → J i W → w.heap.size ≤ W.heap.size → MdV (fun b => w.heap.size ≤ b) W vM Ms[i] →
   YieldAt Fence.wide 0 Tryz.prog l #[vM] W fun e W' => (e = .returned (.bool true) ∧ J (i + 1) W' ∧ Mod Z W W') ∨ (e = .returned (.bool false) ∧ Jx W'))
  (h0 : J 0 w) :
  Calls Tryz.prog 77 #[.func (.yield l) #[] #[], .pointer (some ⟨bo, 0, none⟩), .pointer (some ⟨bm, 0, none⟩)] w fun e W' => (∃ v, e = .returned v) ∧ (J Ms.length W' ∨ Jx W') := by
 have c18 := (hO.cell 18).trans (rfl : _ = some (Value.bool o.known))
 obtain ⟨Db, cb, eb, _⟩ := id hv
 subst eb
 obtain ⟨Dr, cr, er, _⟩ := id hvr
 subst er
 go_enter Tryz.func77, Tryz.ntmps77
 cases hk : o.known with
 | true =>
  have HM : Hid (Ms = (doesM M o.call o.rep).toList) := by show _ = _; rw [hMs]; unfold nxM; rw [hk]; rfl
  rw [hk] at c18
  have m0 := (hM.cell 0).trans (rfl : _ = some vl)
  have m1 := (hM.cell 1).trans (rfl : _ = some (Value.int .u64 (M.trim : Int)))
  have m2 := (hM.cell 2).trans (rfl : _ = some vc)
  have b0 := (hO.cell 0).trans (rfl : _ = some (Value.int .i64 o.call.cl))
  have b1 := (hO.cell 1).trans (rfl : _ = some (Value.int .u64 (o.call.inc : Int)))
  have b2 := (hO.cell 2).trans (rfl : _ = some (Value.int .u64 (o.call.n : Int)))
  have b3 := (hO.cell 3).trans (rfl : _ = some (Value.int .i64 o.call.kind))
  have b4 := (hO.cell 4).trans (rfl : _ = some (Value.int .i64 o.call.ch))
  have b5 := (hO.cell 5).trans (rfl : _ = some (Value.int .i64 o.call.sub))
  have b6 := (hO.cell 6).trans (rfl : _ = some (Value.int .u64 (o.call.seq : Int)))
  have b7 := (hO.cell 7).trans (rfl : _ = some (Value.int .u64 (o.call.at_ : Int)))
  have b8 := (hO.cell 8).trans (rfl : _ = some (Value.slice Db o.call.body.length cb))
  have r0 := (hO.cell 9).trans (rfl : _ = some (Value.int .i64 o.rep.cl))
  have r1 := (hO.cell 10).trans (rfl : _ = some (Value.int .u64 (o.rep.inc : Int)))
  have r2 := (hO.cell 11).trans (rfl : _ = some (Value.int .u64 (o.rep.n : Int)))
  have r3 := (hO.cell 12).trans (rfl : _ = some (Value.int .i64 o.rep.res))
  have r4 := (hO.cell 13).trans (rfl : _ = some (Value.int .u64 (o.rep.at_ : Int)))
  have r5 := (hO.cell 14).trans (rfl : _ = some (Value.int .i64 o.rep.own))
  have r6 := (hO.cell 15).trans (rfl : _ = some (Value.int .i64 o.rep.prod))
  have r7 := (hO.cell 16).trans (rfl : _ = some (Value.int .u64 (o.rep.seq : Int)))
  have r8 := (hO.cell 17).trans (rfl : _ = some (Value.slice Dr o.rep.body.length cr))
  have HH : Hid (Calls Tryz.prog 17 #[.agg (mdL M vl vc).toArray, .agg (calL o.call (.slice Db o.call.body.length cb)).toArray, .agg (repL o.rep (.slice Dr o.rep.body.length cr)).toArray] w fun e w' => DoesPost w.heap.size (doesM M o.call o.rep) e w' ∧ Below w.heap.size w w') := does_any hm hv hvr hn hbl hnb hnr
  have HZ := Lib.hid hZ
  have HJ := Lib.hid hJb
  have HY := Lib.hid hY
  have H0 := Lib.hid h0
  clear hO hM hm hv hvr hn hbl hnb hnr htr hat hJb hZ hY h0 hk hMs
  refine (wpIn_wide (n := 0)).1 ?_
  gi_wp2_with (gi_at_call 17; refine (callsIn_wide.2 HH.out).mono ?_; rintro e w1 ⟨⟨v1, rfl, vl1, vc1, rfl, hM1⟩, hb1⟩; refine Hid.out ?_)
  have ho1 : ∀ v ∈ (mdL ((doesM M o.call o.rep).getD zMdl) vl1 vc1).toArray.toList, v.oneCell' = true := mdL_one hM1.1.one hM1.2.one
  have HM1 := Lib.hid hM1
  have HB1 := Lib.hid hb1
  clear hM1 hb1
  generalize hT : doesM M o.call o.rep = T at ho1 HM1
  rw [hT] at HM
  clear hT
  refine Lib.hid ?_
  gi_wp2_with (first
   | (refine listIn_alloc .wide rfl rfl zero_model ?_; intro g w2 e hB2 hb2; have HE := Lib.hid e; clear e)
   | (refine listIn_store .wide rfl rfl rfl rfl hB2 rfl (info_model rfl) ho1 ?_; intro w3 hB3 hm3; refine Hid.out ?_))
  have hb3 : Below w1.heap.size w1 w3 := hb2.trans (hm3.to_below hb2.size fun b hb e => by have := HE.out; omega)
  have hbb : Below w.heap.size w w3 := HB1.out.trans (hb3.mono HB1.out.size)
  have hmd : MdF (fun b => w.heap.size ≤ b) w3 vl1 vc1 (T.getD zMdl) := HM1.out.below hb3
  have hj : J 0 w3 := HJ.out 0 w w3 H0.out hbb
  have HS : Hid (w.heap.size ≤ w3.heap.size) := hbb.size
  have k0 := (hB3.cell 0).trans (rfl : _ = some vl1)
  have k1 := (hB3.cell 1).trans (rfl : _ = some (Value.int .u64 ((T.getD zMdl).trim : Int)))
  have k2 := (hB3.cell 2).trans (rfl : _ = some vc1)
  have HMD := Lib.hid hmd
  have HJ3 := Lib.hid hj
  clear hB2 hb2 hm3 hB3 hb3 hbb hmd hj ho1 HE HM1 HB1
  cases T with
  | none =>
   have hl : Ms.length = 0 := by rw [HM.out]; rfl
   have HL := Lib.hid hl
   clear hl
   refine Lib.hid ?_
   gi_wp2_with fail
   refine bodyPost_ret (results_none rfl _ _ _) rfl ?_
   exact ⟨⟨_, rfl⟩, .inl (by rw [HL.out]; exact HJ3.out)⟩
  | some M1 =>
   have hM1 : Ms = [M1] := HM.out
   subst hM1
   obtain ⟨fn, tmps, assign, body, hy, hR⟩ := HY.out 0 (.agg (mdL M1 vl1 vc1).toArray) w3 (by simp) HJ3.out HS.out ⟨vl1, vc1, rfl, HMD.out⟩
   simp only [Option.getD_some] at k1
   refine Lib.hid ?_
   unfold mdL at hy
   gi_wp2_with fail
   refine hR.mono ?_
   rintro e w4 (⟨rfl, hJ4, hm4⟩ | ⟨rfl, hJx⟩)
   ·gi_wp2_with fail
    refine bodyPost_ret (results_none rfl _ _ _) rfl ?_
    exact ⟨⟨_, rfl⟩, .inl hJ4⟩
   ·gi_wp2_with fail
    refine bodyPost_ret (results_none rfl _ _ _) rfl ?_
    exact ⟨⟨_, rfl⟩, .inr hJx⟩
 | false =>
  have HM : Hid (Ms = mightM M o.call) := by show _ = _; rw [hMs]; unfold nxM; rw [hk]; rfl
  rw [hk] at c18
  have m0 := (hM.cell 0).trans (rfl : _ = some vl)
  have m1 := (hM.cell 1).trans (rfl : _ = some (Value.int .u64 (M.trim : Int)))
  have m2 := (hM.cell 2).trans (rfl : _ = some vc)
  have b0 := (hO.cell 0).trans (rfl : _ = some (Value.int .i64 o.call.cl))
  have b1 := (hO.cell 1).trans (rfl : _ = some (Value.int .u64 (o.call.inc : Int)))
  have b2 := (hO.cell 2).trans (rfl : _ = some (Value.int .u64 (o.call.n : Int)))
  have b3 := (hO.cell 3).trans (rfl : _ = some (Value.int .i64 o.call.kind))
  have b4 := (hO.cell 4).trans (rfl : _ = some (Value.int .i64 o.call.ch))
  have b5 := (hO.cell 5).trans (rfl : _ = some (Value.int .i64 o.call.sub))
  have b6 := (hO.cell 6).trans (rfl : _ = some (Value.int .u64 (o.call.seq : Int)))
  have b7 := (hO.cell 7).trans (rfl : _ = some (Value.int .u64 (o.call.at_ : Int)))
  have b8 := (hO.cell 8).trans (rfl : _ = some (Value.slice Db o.call.body.length cb))
  have HH : Hid (Calls Tryz.prog 26 #[.agg (mdL M vl vc).toArray, .agg (calL o.call (.slice Db o.call.body.length cb)).toArray] w fun e w' => (∃ v', e = .returned v' ∧ SlM (fun b => w.heap.size ≤ b) w' v' (mightM M o.call)) ∧ Below w.heap.size w w') := might_any hm hv hn hbl hnb htr hat
  have HZ := Lib.hid hZ
  have HJ := Lib.hid hJb
  have HY := Lib.hid hY
  have H0 := Lib.hid h0
  clear hO hM hm hv hvr hn hbl hnb hnr htr hat hJb hZ hY h0 hk hMs
  refine (wpIn_wide (n := 0)).1 ?_
  gi_wp2_with (gi_at_call 26; refine (callsIn_wide.2 HH.out).mono ?_; rintro e w1 ⟨⟨v1, rfl, A, c, E, rfl, hE, hr, hall, hc1, hc2, hKA⟩, hb1⟩; rw [← HM.out] at hE; refine Hid.out ?_)
  have HE := Lib.hid hE
  have HR := Lib.hid hr
  have HA := Lib.hid hall
  have HKA := Lib.hid hKA
  have HB1 := Lib.hid hb1
  have HJ1 := Lib.hid (HJ.out 0 w w1 H0.out hb1)
  have HL : Hid (E.length = Ms.length) := by show _ = _; rw [← hE, List.length_map]
  clear hE hr hall hb1 hKA b0 b1 b2 b3 b4 b5 b6 b7 b8 m0 m1 m2 c18
  refine Lib.hid ?_
  gi_wp2_with fail
  gi_loopw [28] (fun i wr => ∃ k : Nat, k ≤ E.length ∧ i = .int .i64 k ∧ J k wr ∧ Mod Z w1 wr) (fun i _ => E.length - (intOf i).toNat)
  case atStart => exact ⟨0, by omega, rfl, HJ1.out, Mod.refl _ _⟩
  case round =>
   obtain ⟨k, hk, rfl, hj, hm⟩ := hrel
   have HJK := Lib.hid hj
   have HMK := Lib.hid hm
   clear hj hm
   by_cases hlt : k < E.length
   ·have HLT := Lib.hid hlt
    have hZ1 : ∀ b, w.heap.size ≤ b → ¬ Z b := fun b hb hz => by have := HZ.out b hz; omega
    obtain ⟨b, off, rfl, hbl, hcell⟩ := rows_range mdE_len (by decide) (reads_mod HR.out HMK.out fun h0 ad ea => hZ1 _ (HKA.out h0 ad ea)) hlt
    have hmk := (HA.out E[k] (List.getElem_mem hlt)).mod HMK.out hZ1
    have HME : Hid (∃ hi : k < Ms.length, E[k].1 = Ms[k]) := ⟨by rw [← HL.out]; exact hlt, by have h := HE.out; subst h; exact (List.getElem_map (fun x : MdE => x.1)).symm⟩
    generalize E[k] = ek at hcell hmk HME
    obtain ⟨Mk, vk, ck⟩ := ek
    have k0 : wr.cell? ⟨b, off + k * 3, none⟩ = some vk := hcell 0 vk rfl
    have k1 := hcell 1 (.int .u64 (Mk.trim : Int)) rfl
    have k2 := hcell 2 ck rfl
    have ho1 : ∀ v ∈ (mdL Mk vk ck).toArray.toList, v.oneCell' = true := mdL_one hmk.1.one hmk.2.one
    have HMD := Lib.hid hmk
    clear hcell hmk hZ1
    gi_wp2_with (first
     | (refine listIn_alloc .wide rfl rfl zero_model ?_; intro g w2 e hB2 hb2; have HE2 := Lib.hid e; clear e)
     | (refine listIn_store .wide rfl rfl rfl (cs := (mdL Mk vk ck).toArray) rfl hB2 rfl (info_model rfl) ho1 ?_; intro w3 hB3 hm3; refine Hid.out ?_))
    have hb3 : Below wr.heap.size wr w3 := hb2.trans (hm3.to_below hb2.size fun b hb e => by have := HE2.out; omega)
    have hm13 : Mod Z w1 w3 := HMK.out.trans (mod_below hb3)
    have HM3 := Lib.hid hm13
    have HS : Hid (w.heap.size ≤ w3.heap.size) := Nat.le_trans HB1.out.size hm13.size
    have hmd : MdF (fun b => w.heap.size ≤ b) w3 vk ck Mk := HMD.out.below hb3
    have HMD3 := Lib.hid hmd
    have HJ3 := Lib.hid (HJ.out k wr w3 HJK.out hb3)
    have q0 := (hB3.cell 0).trans (rfl : _ = some vk)
    have q1 := (hB3.cell 1).trans (rfl : _ = some (Value.int .u64 (Mk.trim : Int)))
    have q2 := (hB3.cell 2).trans (rfl : _ = some ck)
    clear hB2 hb2 hm3 hB3 hb3 hm13 hmd ho1 HE2 HMD k0 k1 k2
    obtain ⟨hi, hMk⟩ := HME.out
    obtain ⟨fn, tmps, assign, body, hy, hR⟩ := HY.out k (.agg (mdL Mk vk ck).toArray) w3 hi HJ3.out HS.out ⟨vk, ck, by rw [← hMk], by rw [← hMk]; exact HMD3.out⟩
    clear HME hi hMk
    unfold mdL at hy
    refine Lib.hid ?_
    gi_wp2_with fail
    refine hR.mono ?_
    rintro e w4 (⟨rfl, hJ4, hm4⟩ | ⟨rfl, hJx⟩)
    ·gi_wp2_with fail
     go_roundw
     case rel => exact ⟨k + 1, HLT.out, by go_num, hJ4, HM3.out.trans hm4⟩
     case measure => have := HLT.out; simp [intOf]; omega
    ·gi_wp2_with fail
     refine bodyPost_ret (results_none rfl _ _ _) rfl ?_
     exact ⟨⟨_, rfl⟩, .inr hJx⟩
   ·obtain rfl : k = E.length := by omega
    gi_wp2_with fail
    go_end0
    exact ⟨⟨_, rfl⟩, .inl (by rw [← HL.out]; exact HJK.out)⟩
end Go.Proofs.YtpjmolnkmlpfeaaGreatDoor

/- A range over what comes next. -/
namespace Go.Proofs.YtpjmolnkmlpfeaaGreatDoor
set_option maxRecDepth 100000
open Go.RowKit

/-- How a round may be left. -/
def lazyPost (Z : Nat → Prop) (I : Nat → World → Prop) (Ix : World → Prop) (i : Nat) (U : World) : Exit → Act → World → Prop
 | .normal, _, W' => Mod Z U W' ∧ I (i + 1) W'
 | .ret, _, W' => Mod Z U W' ∧ Ix W'
 | _, _, _ => False
theorem mod_putObj (w : World) (l : Nat) (o : Obj) : Mod (fun b => b = l) w (w.putObj l o) := ⟨rfl, rfl, rfl, by simp, fun _ _ hn => World.putObj_heap_other hn⟩
theorem putObj_lt {w : World} {l : Nat} {o o' : Obj} (h : w.heap[l]? = some o) : (w.putObj l o').heap[l]? = some o' := World.putObj_heap_same (Array.getElem?_eq_some_iff.1 h).1
theorem below_at {A B : World} {k : Nat} {o : Obj} (h : A.heap[k]? = some o) (hb : Below A.heap.size A B) : B.heap[k]? = some o := (hb.block k (Array.getElem?_eq_some_iff.1 h).1).trans h
theorem mod_at {S : Nat → Prop} {A B : World} {k : Nat} {o : Obj} (h : A.heap[k]? = some o) (hm : Mod S A B) (hk : ¬ S k) : B.heap[k]? = some o := (hm.block k (Array.getElem?_eq_some_iff.1 h).1 hk).trans h
/-- The activation behind the loop. -/
abbrev Act.marked (a : Act) (D : Nat) : Act := { a with defers := { target := .collected D, args := #[] } :: a.defers }
set_option maxHeartbeats 1000000 in
theorem range_next {K K1 K2 Z : Nat → Prop} {w : World} {bo bm : Nat} {o : Opr} {v vr vl vc : Value} {M : Mdl} {Ms : List Mdl} {g : Operand} {p : Tmp} {assign body : Code} {Q : Exit → Act → World → Prop} {a : Act}
  (hg : a.eval g = .func (.func 77) #[] #[.pointer (some ⟨bo, 0, none⟩), .pointer (some ⟨bm, 0, none⟩)]) (eg : ∀ args w, (callFunc 77 args).run Tryz.prog w = .ok (.enter 77 args) w)
  (hO : Blk w bo 95 (opL o v vr).toArray) (hM : Blk w bm 45 (mdL M vl vc).toArray) (hm : MdF K w vl vc M) (hv : SlB K1 w v o.call.body) (hvr : SlB K2 w vr o.rep.body)
  (hn : M.log.length ≤ 100000) (hbl : ∀ e ∈ M.log, e.body.length ≤ 1000000) (hnb : o.call.body.length ≤ 1000000) (hnr : o.rep.body.length ≤ 1000000) (htr : M.trim < 18446744073709551616) (hat : o.call.at_ < 18446744073709551616)
  (hMs : Ms = nxM o M) (I : Nat → World → Prop) (Ix : World → Prop) (hIb : ∀ i A B, I i A → Below A.heap.size A B → I i B) (hIl : ∀ i A ob, I i A → I i (A.putObj (w.heap.size + 1) ob)) (hXl : ∀ A ob, Ix A → Ix (A.putObj (w.heap.size + 1) ob)) (hZ : ∀ b, Z b → b < w.heap.size)
  (h0 : I 0 w)
  (hround : ∀ i vM W, (hi : i < Ms.length) → I i W → w.heap.size + 2 ≤ W.heap.size → MdV (fun b => w.heap.size + 2 ≤ b) W vM Ms[i] →
   assign.wpIn (Fence.wide.inRound (w.heap.size + 1)) 0 Tryz.prog (Exit.then (fun a₁ w₁ => Below W.heap.size W w₁ ∧ ∀ ob, body.wpIn (Fence.wide.inRound (w.heap.size + 1)) 0 Tryz.prog (lazyPost Z I Ix i (w₁.putObj (w.heap.size + 1) ob)) a₁ (w₁.putObj (w.heap.size + 1) ob)) (fun _ _ _ => False))
    { tmps := a.tmps.setIfInBounds p vM, defers := [] } W)
  (hdone : ∀ W, I Ms.length W → W.heap[w.heap.size]? = some (.deferred (some [])) → w.heap.size + 2 ≤ W.heap.size → Q .normal (Act.marked a w.heap.size) W)
  (hstop : ∀ W, Ix W → W.heap[w.heap.size]? = some (.deferred (some [])) → w.heap.size + 2 ≤ W.heap.size → Q .ret (Act.marked a w.heap.size) W) :
  (Code.rangeFunc g #[p] assign body).wp Tryz.prog Q a w := by
 refine (wpIn_wide (n := 0)).1 (wpIn_rangeFunc ?_)
 intro fn _
 obtain ⟨rec, hrec⟩ : ∃ rec : LoopState → Option Code → Loop, rec = fun st pe => { state := st, pending := pe, fn, tmps := a.tmps, params := #[p], assign, body, defers := w.heap.size } := ⟨_, rfl⟩
 obtain ⟨W1, hW1⟩ : ∃ W1, (w.alloc (.deferred (some []))).alloc (.loop (rec .ready none)) = W1 := ⟨_, rfl⟩
 have hL1 : W1.heap[w.heap.size + 1]? = some (.loop (rec .ready none)) := by
  rw [← hW1]; have := World.alloc_heap_new (w.alloc (.deferred (some []))) (.loop (rec .ready none)); rwa [World.size_alloc] at this
 have hK1 : W1.heap[w.heap.size]? = some (.deferred (some [])) := by
  rw [← hW1]; exact (Below.heap_alloc _ _ _ (by simp)).trans (World.alloc_heap_new w _)
 have hb1 : Below w.heap.size w W1 := by
  rw [← hW1]; exact ((Below.refl _ w).alloc (Nat.le_refl _) _).alloc (by simp) _
 have hs1 : W1.heap.size = w.heap.size + 2 := by rw [← hW1]; simp
 refine ⟨w.heap.size + 1, [{ target := .collected w.heap.size, args := #[] }], W1, { target := .fn (.func 77) #[.pointer (some ⟨bo, 0, none⟩), .pointer (some ⟨bm, 0, none⟩)], args := #[.func (.yield (w.heap.size + 1)) #[] #[]] }, W1, 77,
  #[.func (.yield (w.heap.size + 1)) #[] #[]] ++ #[.pointer (some ⟨bo, 0, none⟩), .pointer (some ⟨bm, 0, none⟩)], W1, ?_, ?_, ?_, ?_, ?_, ?_⟩
 ·rw [← hW1, hrec]; exact run_enterLoop_outer _ _ _ _ _
 ·simp only [resolve, hg]
  simp [go_sem]
 ·intro f' _; trivial
 ·simp [invoke, go_sem, eg]
 ·intro h; cases h
 ·refine callsIn_wide.2 ((next1_any (Z := fun b => Z b ∨ b = w.heap.size + 1) (l := w.heap.size + 1) (Ms := Ms)
   (fun i W => I i W ∧ W.heap[w.heap.size + 1]? = some (.loop (rec .ready none)) ∧ W.heap[w.heap.size]? = some (.deferred (some [])))
   (fun W => Ix W ∧ W.heap[w.heap.size + 1]? = some (.loop (rec .done (some .ret))) ∧ W.heap[w.heap.size]? = some (.deferred (some [])))
   (hO.below hb1 hO.lt) (hM.below hb1 hM.lt) (hm.below hb1) (hv.below hb1) (hvr.below hb1) hn hbl hnb hnr htr hat hMs
   (fun i A B hA hb => ⟨hIb i A B hA.1 hb, below_at hA.2.1 hb, below_at hA.2.2 hb⟩)
   (fun b hb => by rcases hb with hb | hb; (have := hZ b hb; omega); omega)
   ?_ ⟨hIb 0 w W1 h0 hb1, hL1, hK1⟩).mono ?_)
  ·rintro i vM W hi ⟨hI, hl, hd⟩ hsz hMv
   have hy := run_yield (P := Tryz.prog) (args := #[vM]) hl (by rw [hrec]; rfl)
   rw [hrec] at hy
   rw [hs1] at hsz hMv
   have he : (#[p].zip #[vM]).foldl (fun t (x : Tmp × Value) => t.setIfInBounds x.1 x.2) a.tmps = a.tmps.setIfInBounds p vM := by simp
   refine ⟨fn, a.tmps.setIfInBounds p vM, assign, body, by rw [← he]; exact hy, roundIn_of_wpIn (F := Fence.wide) (n := 0) trivial (wpIn_mono (hround i vM W hi hI hsz hMv) ?_)⟩
   clear hy he
   intro e a1 w1 hq
   cases e with
   | normal =>
    obtain ⟨hbw, hbody⟩ := hq
    have hl1 := below_at hl hbw
    have hd1 := below_at hd hbw
    refine ⟨_, run_beginRound hl1 (by rw [hrec]), wpIn_mono (hbody _) ?_⟩
    have hl2 : (w1.putObj (w.heap.size + 1) (.loop { rec .ready none with state := .busy })).heap[w.heap.size + 1]? = some (.loop { rec .ready none with state := .busy }) := putObj_lt hl1
    have hd2 : (w1.putObj (w.heap.size + 1) (.loop { rec .ready none with state := .busy })).heap[w.heap.size]? = some (.deferred (some [])) := (World.putObj_heap_other (by omega)).trans hd1
    have hZl : ¬ Z (w.heap.size + 1) := fun h => by have := hZ _ h; omega
    have hZd : ¬ Z w.heap.size := fun h => by have := hZ _ h; omega
    intro e2 a2 w2 hp
    cases e2 with
    | normal =>
     obtain ⟨hm2, hI2⟩ := hp
     have hl3 := mod_at hl2 hm2 hZl
     have hd3 := mod_at hd2 hm2 hZd
     have hr := run_endRound (P := Tryz.prog) none hl3
     refine ⟨_, _, hr, .inl ⟨rfl, ⟨hIl _ _ _ hI2, ?_, (World.putObj_heap_other (by omega)).trans hd3⟩, ?_⟩⟩
     ·rw [putObj_lt hl3, hrec]; rfl
     ·have m1 : Mod (fun b => Z b ∨ b = w.heap.size + 1) W w1 := mod_below hbw
      have m2 := (mod_putObj w1 (w.heap.size + 1) (.loop { rec .ready none with state := .busy })).mono (T := fun b => Z b ∨ b = w.heap.size + 1) fun b _ e => .inr e
      have m3 := hm2.mono (T := fun b => Z b ∨ b = w.heap.size + 1) fun b _ e => .inl e
      exact ((m1.trans m2).trans m3).trans ((mod_putObj _ _ _).mono fun b _ e => .inr e)
    | ret =>
     obtain ⟨hm2, hI2⟩ := hp
     have hl3 := mod_at hl2 hm2 hZl
     have hd3 := mod_at hd2 hm2 hZd
     have hr := run_endRound (P := Tryz.prog) (some .ret) hl3
     refine ⟨_, _, hr, .inr ⟨rfl, hXl _ _ hI2, ?_, (World.putObj_heap_other (by omega)).trans hd3⟩⟩
     rw [putObj_lt hl3, hrec]; rfl
    | exit id => exact hp.elim
    | goto t => exact hp.elim
    | panic ch => exact hp.elim
    | outgrown => exact hp.elim
   | exit id => exact hq.elim
   | goto t => exact hq.elim
   | ret => exact hq.elim
   | panic ch => exact hq.elim
   | outgrown => exact hq.elim
  ·rintro e W2 ⟨⟨v, rfl⟩, ⟨hI, hl, hd⟩ | ⟨hI, hl, hd⟩⟩
   ·have hr := run_endLoop (P := Tryz.prog) hl (by rw [hrec]; simp)
    refine ⟨none, _, by rw [hrec] at hr; exact hr, hdone _ (hIl _ _ _ hI) ((World.putObj_heap_other (by omega)).trans hd) ?_⟩
    rw [World.putObj_size]
    exact (Array.getElem?_eq_some_iff.1 hl).1
   ·have hr := run_endLoop (P := Tryz.prog) hl (by rw [hrec]; simp)
    refine ⟨some .ret, _, by rw [hrec] at hr; exact hr, ?_⟩
    refine wpIn_ret (hstop _ (hXl _ _ hI) ((World.putObj_heap_other (by omega)).trans hd) ?_)
    rw [World.putObj_size]
    exact (Array.getElem?_eq_some_iff.1 hl).1
end Go.Proofs.YtpjmolnkmlpfeaaGreatDoor
