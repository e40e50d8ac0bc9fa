/- Is. -/
import Derived.Test.YtpjmolnkmlpfeaaGreatDoorJBE
namespace Go.Proofs.YtpjmolnkmlpfeaaGreatDoor
set_option linter.unusedVariables false
set_option linter.unusedSimpArgs false
set_option maxRecDepth 100000
open Go.RowKit
open Go.Maps (Keyed)

theorem zero_int (w : World) : (zeroValue 3).run Tryz.prog w = .ok (.int .i64 0) w := by kernel_rfl
set_option maxHeartbeats 32000000 in
theorem is_any {K : Nat → Prop} {w : World} {v : Value} {h : List Nte} (hh : SlH K w v h) (hok : ∀ x ∈ h, NtOk x) (hn : h.length ≤ 1000000) :
  Calls Tryz.prog 16 #[v] w fun e w' => e = .returned (.bool (decide (IsH h))) ∧ Below w.heap.size w w' := by
 have hmm := @run_makeMap Tryz.prog
 have hgd := id_guard
 obtain ⟨A, c, H, rfl, hH, hr, hall, _⟩ := hh
 have hl : h.length = H.length := by rw [← hH, List.length_map]
 rw [hl] at hn
 have HR := Lib.hid hr
 have HALL := Lib.hid hall
 have HH := Lib.hid hH
 have HOK := Lib.hid hok
 have HL := Lib.hid hl
 have HM1 : Hid (MapW 77 ((w.alloc (.map #[] 0)).alloc (.map #[] 0)) w.heap.size []) := (MapW.made _ w).same (Below.heap_alloc _ _ _ (by simp))
 have HM2 : Hid (MapW 77 ((w.alloc (.map #[] 0)).alloc (.map #[] 0)) (w.heap.size + 1) []) := by
  have := MapW.made 77 (w.alloc (.map #[] 0))
  rw [alloc_size] at this
  exact this
 have HT0 : Hid (Below w.heap.size w ((w.alloc (.map #[] 0)).alloc (.map #[] 0))) := ((Below.refl _ _).alloc (Nat.le_refl _) _).alloc (by simp) _
 clear hr hall hH hok hl
 go_enter Tryz.func16, Tryz.ntmps16
 go_wp2_with fail
 go_loopw [15] (fun i wr => ∃ k : Nat, k ≤ H.length ∧ i = .int .i64 k ∧ Below w.heap.size w wr ∧ w.heap.size + 1 < wr.heap.size ∧ IsH (h.take k) ∧ ∃ E1 E2, MapW 77 wr w.heap.size E1 ∧ MapW 77 wr (w.heap.size + 1) E2 ∧ IsInv E1 E2 (h.take k)) (fun i _ => H.length - (intOf i).toNat)
 case atStart => exact ⟨0, by omega, rfl, HT0.out, by simp, trivial, [], [], HM1.out, HM2.out, IsInv.nil⟩
 case round =>
  obtain ⟨k, hk, rfl, hb, hsz, hIs, E1, E2, hm1, hm2, hinv⟩ := hrel
  clear hmm HM1 HM2 HT0
  have HB := Lib.hid hb
  have HSZ := Lib.hid hsz
  have HIS := Lib.hid hIs
  have HM1 := Lib.hid hm1
  have HM2 := Lib.hid hm2
  have HIV := Lib.hid hinv
  clear hb hsz hIs hm1 hm2 hinv
  by_cases hlt : k < H.length
  ·obtain ⟨b, o, rfl, hbl, hrg⟩ := rows_range ntL_len (by decide) (HR.out.below (HB.out.mono (Nat.le_refl _))) hlt
   have hkh : k < h.length := by rw [HL.out]; exact hlt
   have hxn : h[k] = H[k].n := by
    have : h[k]? = some H[k].n := by rw [← HH.out, List.getElem?_map, List.getElem?_eq_getElem hlt]; rfl
    rw [List.getElem?_eq_getElem hkh] at this
    injection this
   have htk : h.take (k + 1) = h.take k ++ [H[k].n] := by rw [List.take_succ_eq_append_getElem hkh, hxn]
   have hnt := HOK.out _ (List.getElem_mem hkh)
   have hisk : IsH h → isAt (h.take k) H[k].n := fun hi => by have := hi.at_ hkh; rwa [hxn] at this
   rw [hxn] at hnt
   have hsb := HALL.out _ (List.getElem_mem hlt)
   have HTK := Lib.hid htk
   have HNT := Lib.hid hnt
   have HSB : Hid (SlB K wr H[k].vc H[k].n.call.body ∧ SlB K wr H[k].vr H[k].n.rep.body) := ⟨hsb.1.below (HB.out.mono (Nat.le_refl _)), hsb.2.below (HB.out.mono (Nat.le_refl _))⟩
   have HISK := Lib.hid hisk
   have HRG := Lib.hid hrg
   generalize H[k] = x at HTK HNT HSB HISK HRG
   have ho1 := HSB.out.1.one
   have ho2 := HSB.out.2.one
   clear hxn htk hnt hsb hisk hrg
   have HKH := Lib.hid hkh
   clear hkh
   go_wp2_with (refine wpList_load_rg rfl (ty := 38) rfl (vs := ntL x) rfl HRG.out Tryz.underlying38 rfl (info_note19 rfl) ?_; refine Hid.out ?_)
   refine Lib.hid ?_
   go_wp2_with (refine wpList_alloc_blk rfl rfl zero_note ?_; rintro g6 w6 hgz6 hB6 hb6; refine Hid.out ?_)
   refine Lib.hid ?_
   have HZ6 := Lib.hid hgz6
   have HT6 := Lib.hid hb6
   have HB6 := Lib.hid hB6
   clear hgz6 hB6 hb6
   go_wp2_with (refine wpList_store_blk rfl rfl rfl rfl HB6.out rfl (info_note rfl) (nt_one ho1 ho2) ?_; rintro w7 hB7 hm7; refine Hid.out ?_)
   refine Lib.hid ?_
   have HT7 : Hid (Below wr.heap.size wr w7) := HT6.out.trans (hm7.to_below HT6.out.size fun b hb e => by have := HZ6.out; omega)
   have HB7 := Lib.hid hB7
   clear hB7 hm7 HB6 HT6
   go_wp2_with (refine wpList_load_rg rfl (ty := 25) rfl (vs := calL x.n.call x.vc) rfl (nt_call HB7.out) Tryz.underlying25 rfl (infoj_call9 rfl) ?_; refine Hid.out ?_)
   refine Lib.hid ?_
   go_wp2_with fail
   refine (of_any ho1).mono ?_
   rintro e w8 ⟨rfl, hb8⟩
   have HT8 : Hid (Below wr.heap.size wr w8) := HT7.out.trans (hb8.mono HT7.out.size)
   have HB8 := Bb HB7 hb8
   have HG68 : Hid (g6 < w8.heap.size) := HB8.out.lt
   clear hb8 HB7 HT7
   rw [show idV (idOf x.n.call) = .agg #[.int .i64 x.n.call.cl, .int .u64 (x.n.call.inc : Int), .int .u64 (x.n.call.n : Int)] from rfl]
   go_wp2_with (refine wpList_alloc_blk rfl rfl zero_id ?_; rintro g7 w9 hgz7 hB9 hb9; refine Hid.out ?_)
   refine Lib.hid ?_
   have HZ7 := Lib.hid hgz7
   have HT9 := Tt HT8 hb9
   have HB9 := Bb HB8 hb9
   have HG9 := Lib.hid hB9
   clear hgz7 hB9 hb9 HB8
   go_wp2_with (refine wpList_store_blk (cs := #[.int .i64 x.n.call.cl, .int .u64 (x.n.call.inc : Int), .int .u64 (x.n.call.n : Int)]) rfl rfl rfl rfl HG9.out rfl (info_id rfl) (by intro v hv; simp only [List.mem_cons, List.not_mem_nil, or_false] at hv; rcases hv with rfl | rfl | rfl <;> rfl) ?_; rintro w10 hB10 hm10; refine Hid.out ?_)
   refine Lib.hid ?_
   have HZ10 : Hid (wr.heap.size ≤ g6 ∧ g6 < w8.heap.size ∧ g7 = w8.heap.size ∧ wr.heap.size ≤ w8.heap.size ∧ g7 < w10.heap.size) := by
    have h1 := HZ6.out; have h2 := HZ7.out; have h3 := HT8.out.size; have h4 := hB10.lt
    have h5 := HB9.out.lt
    have h6 := HG68.out
    exact ⟨by omega, h6, by omega, h3, h4⟩
   have HT10 : Hid (Below wr.heap.size wr w10) := HT9.out.trans (hm10.to_below HT9.out.size fun b hb e => by have := HZ10.out; omega)
   have HG10 := Lib.hid hB10
   have HB10 := Lib.hid (HB9.out.mod hm10 fun e => by have := HZ10.out; omega)
   have HM1' := Lib.hid (HM1.out.below HT10.out)
   have HM2' := Lib.hid (HM2.out.below HT10.out)
   have HSB' : Hid (SlB K w10 x.vc x.n.call.body ∧ SlB K w10 x.vr x.n.rep.body) := ⟨HSB.out.1.below HT10.out, HSB.out.2.below HT10.out⟩
   have hkey := id_key HNT.out.id
   have hlk := HM1'.out.look_ok idK Tryz.underlying75 zero_int hkey
   rw [HIV.out.b _ HNT.out.id] at hlk
   obtain ⟨q, hq⟩ : ∃ q, begunAt (h.take k) (idOf x.n.call) = q := ⟨_, rfl⟩
   rw [hq] at hlk
   have HQ := Lib.hid hq
   clear hq
   have HKEY := Lib.hid hkey
   have i0 := (hB10.cell 0).trans (rfl : _ = some (Value.int .i64 x.n.call.cl))
   have i1 := (hB10.cell 1).trans (rfl : _ = some (Value.int .u64 (x.n.call.inc : Int)))
   have i2 := (hB10.cell 2).trans (rfl : _ = some (Value.int .u64 (x.n.call.n : Int)))
   have n0 := (HB10.out.cell 0).trans (rfl : _ = some (Value.int .i64 x.n.kind))
   clear hB10 hm10 HB9 HG9 HT9 HT8 hkey
   unfold idV at hlk
   unfold idOf at hlk
   by_cases h1 : x.n.kind = 1
   ·skip
    have p1 : (x.n.kind == 1) = true := beq_iff_eq.2 h1
    cases q with
    | some j =>
     simp only [Option.map_some, Option.getD_some, Option.isSome_some] at hlk
     have HK1 := Lib.hid h1
     clear h1
     go_wp2_with fail
     go_ret
     refine ⟨by rw [decide_eq_false fun hi => by have := ((is1 HK1.out).1 (HISK.out hi)).1; rw [HQ.out] at this; cases this]; rfl, ?_⟩
     have := HB.out.trans (HT10.out.mono HB.out.size)
     first | exact this | exact this.drew
    | none =>
     simp only [Option.map_none, Option.getD_none, Option.isSome_none] at hlk
     have HK1 := Lib.hid h1
     clear h1
     go_wp2_with (refine load_rgGJ (by kernel_rfl) (ty := 25) rfl (vs := calL x.n.call x.vc) rfl (nt_call HB10.out) Tryz.underlying25 rfl (infoj_call9 rfl) ?_; refine Hid.out ?_)
     refine Lib.hid ?_
     go_wp2_with fail
     refine (may_any HSB'.out.1).mono ?_
     rintro e w11 ⟨rfl, hb11⟩
     have HT11 := Tt HT10 hb11
     have HM11 := Lib.hid (HM1'.out.below hb11)
     have HM21 := Lib.hid (HM2'.out.below hb11)
     have HG11 := Bb HG10 hb11
     have j0 := (HG11.out.cell 0).trans (rfl : _ = some (Value.int .i64 x.n.call.cl))
     have j1 := (HG11.out.cell 1).trans (rfl : _ = some (Value.int .u64 (x.n.call.inc : Int)))
     have j2 := (HG11.out.cell 2).trans (rfl : _ = some (Value.int .u64 (x.n.call.n : Int)))
     clear hb11 i0 i1 i2 n0 hlk
     cases hmay : mayC x.n.call with
     | false =>
      have HMY := Lib.hid hmay
      clear hmay
      go_wp2_with fail
      go_ret
      refine ⟨by rw [decide_eq_false fun hi => by have := ((is1 HK1.out).1 (HISK.out hi)).2; have h2 := HMY.out; unfold mayC at h2; exact absurd this (of_decide_eq_false h2)]; rfl, ?_⟩
      have := HB.out.trans (HT11.out.mono HB.out.size)
      first | exact this | exact this.drew
     | true =>
      have HMY := Lib.hid hmay
      clear hmay
      have hE1 : E1.length < 9223372036854775807 := by have := HIV.out.l1; rw [List.length_take] at this; omega
      go_wp2_with (first | (at_mapUpdate; refine mw_update rfl rfl rfl rfl rfl idK Tryz.underlying75 HM11.out HKEY.out hE1 ?_; intro w12 hm12 hg12; have HM12 := Lib.hid hm12; have HG12 := Lib.hid hg12; clear hm12 hg12))
      go_roundw
      case rel =>
       have hmo := mod_ofW HG12.out
       have hs1 := HSZ.out
       have hkl : (h.take k).length = k := by rw [List.length_take]; have := HKH.out; omega
       refine ⟨k + 1, by omega, by go_num, (HB.out.trans (HT11.out.mono HB.out.size)).trans (hmo.to_below (Nat.le_trans HB.out.size HT11.out.size) fun b hb e => by omega), ?_, ?_, _, E2, HM12.out, HM21.out.mod hmo (by omega), ?_⟩
       ·have := HT11.out.size; have := hmo.size; omega
       ·rw [HTK.out]
        refine (isFrom_app _ _ _).2 ⟨HIS.out, ?_, trivial⟩
        rw [List.nil_append]
        exact (is1 HK1.out).2 ⟨HQ.out, of_decide_eq_true HMY.out⟩
       ·rw [HTK.out]
        have := HIV.out.begin (HM1.out.srt idK) HK1.out HQ.out HNT.out.id
        rw [hkl] at this
        exact this
      case measure => simp [intOf]; omega
   ·skip
    have p1 : (x.n.kind == 1) = false := beq_eq_false_iff_ne.2 h1
    have hlk' : (Instr.lookup 75 (.map (some w.heap.size)) (.agg #[.int .i64 x.n.call.cl, .int .u64 (x.n.call.inc : Int), .int .u64 (x.n.call.n : Int)]) true).run Tryz.prog w10 = .ok (.tuple #[.int .i64 ((q.getD 0 : Nat) : Int), .bool q.isSome]) w10 := by
     rw [hlk]
     cases q <;> rfl
    clear hlk
    by_cases h2 : x.n.kind = 2
    ·skip
     have p2 : (x.n.kind == 2) = true := beq_iff_eq.2 h2
     have HK2 := Lib.hid h2
     clear h1 h2
     go_wp2_with (refine wpList_load_rg rfl (ty := 32) rfl (vs := repL x.n.rep x.vr) rfl (nt_rep HB10.out) Tryz.underlying32 rfl (infoj_reply9 rfl) ?_; refine Hid.out ?_)
     refine Lib.hid ?_
     go_wp2_with (refine wpList_alloc_blk rfl rfl zero_reply ?_; rintro g8 w12 hgz8 hB12 hb12; refine Hid.out ?_)
     refine Lib.hid ?_
     have HR12 := Lib.hid hB12
     have HZ8 := Lib.hid hgz8
     have HT12 := Tt HT10 hb12
     have HB12 := Bb HB10 hb12
     have HG12 := Bb HG10 hb12
     clear hgz8 hB12 hb12
     go_wp2_with (refine wpList_store_blk rfl rfl rfl rfl HR12.out rfl (info_reply rfl) (repL_one ho2) ?_; rintro w13 hB13 hm13; refine Hid.out ?_)
     refine Lib.hid ?_
     have HZ13 : Hid (g8 = w10.heap.size ∧ g6 < g8 ∧ g7 < g8 ∧ wr.heap.size ≤ g8 ∧ g8 < w13.heap.size) := by
      have h1 := HZ8.out; have h2 := HZ10.out; have h3 := HB10.out.lt; have h4 := hB13.lt; have h5 := HT10.out.size
      exact ⟨by omega, by omega, by omega, by omega, h4⟩
     have HT13 : Hid (Below wr.heap.size wr w13) := HT12.out.trans (hm13.to_below HT12.out.size fun b hb e => by have := HZ13.out; omega)
     have HR13 := Lib.hid hB13
     have HB13 := Lib.hid (HB12.out.mod hm13 fun e => by have := HZ13.out; omega)
     have HG13 := Lib.hid (HG12.out.mod hm13 fun e => by have := HZ13.out; omega)
     have HM23 := Lib.hid (HM2.out.below HT13.out)
     have HM13 := Lib.hid (HM1.out.below HT13.out)
     have HSB13 : Hid (SlB K w13 x.vc x.n.call.body) := HSB.out.1.below HT13.out
     have HRR := Lib.hid (HR.out.below ((HB.out.trans (HT13.out.mono HB.out.size)).mono (Nat.le_refl _)))
     clear hB13 hm13 HR12 HB12 HG12 HT12 i0 i1 i2 n0 hlk'
     cases q with
     | none =>
      simp only [Option.isSome_none]
      go_wp2_with fail
      refine PF.b (by kernel_rfl) (fun _ _ _ _ _ h => h) ?_
      refine PF.t 0 (by kernel_rfl) rfl (by go_simp; try rfl) ?_
      try simp only [pz]
      refine PF.t 1 (by kernel_rfl) rfl (by go_simp; try rfl) ?_
      try simp only [pz]
      refine PF.t 2 (by kernel_rfl) rfl (by go_simp; try rfl) ?_
      try simp only [pz]
      refine PF.s 3 (by kernel_rfl) rfl ?_
      refine PF.s 4 (by kernel_rfl) rfl ?_
      refine PF.s 5 (by kernel_rfl) rfl ?_
      refine PF.s 6 (by kernel_rfl) rfl ?_
      try simp only [pz]
      refine PF.t 7 (by kernel_rfl) rfl (by go_simp; try rfl) ?_
      try simp only [pz]
      refine PF.t 8 (by kernel_rfl) rfl (by go_simp; try rfl) ?_
      try simp only [pz]
      refine PF.s 9 (by kernel_rfl) rfl ?_
      refine PF.s 10 (by kernel_rfl) rfl ?_
      refine PF.s 11 (by kernel_rfl) rfl ?_
      refine PF.s 12 (by kernel_rfl) rfl ?_
      refine PF.s 13 (by kernel_rfl) rfl ?_
      refine PF.s 14 (by kernel_rfl) rfl ?_
      refine PF.s 15 (by kernel_rfl) rfl ?_
      refine PF.k 16 (by kernel_rfl) rfl ?_
      refine PF.s 17 (by kernel_rfl) rfl ?_
      try simp only [pz]
      refine PF.t 18 (by kernel_rfl) rfl (by go_simp; try rfl) ?_
      try simp only [pz]
      refine PF.t 19 (by kernel_rfl) rfl (by go_simp; try rfl) ?_
      try simp only [pz]
      refine PF.s 20 (by kernel_rfl) rfl ?_
      refine PF.s 21 (by kernel_rfl) rfl ?_
      refine PF.s 23 (by kernel_rfl) rfl ?_
      refine PF.s 24 (by kernel_rfl) rfl ?_
      refine PF.s 25 (by kernel_rfl) rfl ?_
      refine PF.s 26 (by kernel_rfl) rfl ?_
      refine PF.s 27 (by kernel_rfl) rfl ?_
      refine PF.s 28 (by kernel_rfl) rfl ?_
      refine PF.s 29 (by kernel_rfl) rfl ?_
      refine PF.k 22 (by kernel_rfl) rfl ?_
      refine PF.s 30 (by kernel_rfl) rfl ?_
      try simp only [pz]
      refine PF.t 31 (by kernel_rfl) rfl (by go_simp; try rfl) ?_
      try simp only [pz]
      refine PF.d (by kernel_rfl) ?_
      go_wp2_with fail
      go_ret
      refine ⟨by rw [decide_eq_false fun hi => by obtain ⟨⟨j, y, h1, _⟩, _⟩ := (is2 HIS.out HK2.out).1 (HISK.out hi); rw [HQ.out] at h1; cases h1]; rfl, ?_⟩
      have := HB.out.trans (HT13.out.mono HB.out.size)
      first | exact this | exact this.drew
     | some j =>
      obtain ⟨y, hy, hyk, hyi⟩ := begun_some HQ.out
      have hjk : j < (h.take k).length := (List.getElem?_eq_some_iff.1 hy).1
      have hjH : j < H.length := by rw [List.length_take] at hjk; omega
      obtain ⟨b', o', e', _, hrj⟩ := rows_range ntL_len (by decide) HRR.out hjH
      injection e' with e'
      injection e' with e1 e2 e3
      subst e1 e2
      have hsj := HALL.out _ (List.getElem_mem hjH)
      have hyn : H[j].n = y := by
       have h1 : h[j]? = some H[j].n := by rw [← HH.out, List.getElem?_map, List.getElem?_eq_getElem hjH]; rfl
       rw [List.getElem?_take_of_lt (by rw [List.length_take] at hjk; omega)] at hy
       rw [h1] at hy
       injection hy
      have hyb : y.call.body.length ≤ 1000000 := by
       have hj2 : j < h.length := by rw [List.length_take] at hjk; omega
       have := HOK.out _ (List.getElem_mem hj2)
       rw [List.getElem?_take_of_lt (by rw [List.length_take] at hjk; omega), List.getElem?_eq_getElem hj2] at hy
       injection hy with hy
       rw [hy] at this
       exact this.body
      have HRJ := Lib.hid (nt_callR hrj)
      have HSJ : Hid (SlB K w13 H[j].vc H[j].n.call.body) := hsj.1.below ((HB.out.trans (HT13.out.mono HB.out.size)).mono (Nat.le_refl _))
      generalize H[j] = z at HRJ HSJ hyn
      subst hyn
      have hoz := HSJ.out.one
      have HYB := Lib.hid hyb
      have HY := Lib.hid hy
      have hji : (j : Int) < (H.length : Int) := by omega
      have hlk2 : ∀ u, PF.Same (w.heap.size + 1) w13 u → (Instr.lookup 75 (.map (some (w.heap.size + 1))) (.agg #[.int .i64 x.n.call.cl, .int .u64 (x.n.call.inc : Int), .int .u64 (x.n.call.n : Int)]) false).run Tryz.prog u = .ok (.int .i64 (if endedIn (h.take k) (idOf x.n.call) then 1 else 0)) u := fun u hu => by
       have h1 := (HM23.out.same hu).look idK Tryz.underlying75 zero_int HKEY.out
       rw [HIV.out.e _ HNT.out.id] at h1
       unfold idV idOf at h1
       unfold idOf
       rw [h1]
       split <;> rfl
      simp only [Option.getD_some, Option.isSome_some]
      clear hyk hyi hjk hrj hsj hyb hy e3
      cases hen : endedIn (h.take k) (idOf x.n.call) with
      | true =>
       rw [hen] at hlk2
       simp only [if_true] at hlk2
       have HEN := Lib.hid hen
       clear hen
       go_wp2_with fail
       refine PF.b (by kernel_rfl) (fun _ _ _ _ _ h => h) ?_
       refine PF.t 0 (by kernel_rfl) rfl (by go_simp; try rfl) ?_
       try simp only [pz]
       refine PF.t 1 (by kernel_rfl) rfl (by go_simp; try rfl) ?_
       try simp only [pz]
       refine PF.t 2 (by kernel_rfl) rfl (by go_simp; try rfl) ?_
       try simp only [pz]
       refine PF.t 3 (by kernel_rfl) rfl (by go_simp; try rfl) ?_
       try simp only [pz]
       refine PF.u 4 ((fun u => Blk u g7 77 #[.int .i64 x.n.call.cl, .int .u64 (x.n.call.inc : Int), .int .u64 (x.n.call.n : Int)])) (by kernel_rfl) rfl (HG13.out) (fun u hu => exec_load_blk rfl rfl hu Tryz.underlying77 rfl (info_id rfl)) ?_
       try simp only [pz]
       refine PF.u 5 (PF.Same ((w.heap.size+1)) _) (by kernel_rfl) rfl (PF.Same.refl _ _) (fun u hu => by have hcu := hu.cell; have hlu := hlk2 u hu; go_simp; try rfl) ?_
       try simp only [pz]
       refine PF.t 6 (by kernel_rfl) rfl (by go_simp; try rfl) ?_
       try simp only [pz]
       refine PF.t 7 (by kernel_rfl) rfl (by go_simp; try rfl) ?_
       try simp only [pz]
       refine PF.t 8 (by kernel_rfl) rfl (by go_simp; try rfl) ?_
       try simp only [pz]
       refine PF.s 9 (by kernel_rfl) rfl ?_
       refine PF.s 10 (by kernel_rfl) rfl ?_
       refine PF.s 11 (by kernel_rfl) rfl ?_
       refine PF.s 12 (by kernel_rfl) rfl ?_
       refine PF.s 13 (by kernel_rfl) rfl ?_
       refine PF.s 14 (by kernel_rfl) rfl ?_
       refine PF.s 15 (by kernel_rfl) rfl ?_
       refine PF.k 16 (by kernel_rfl) rfl ?_
       refine PF.s 17 (by kernel_rfl) rfl ?_
       try simp only [pz]
       refine PF.t 18 (by kernel_rfl) rfl (by go_simp; try rfl) ?_
       try simp only [pz]
       refine PF.t 19 (by kernel_rfl) rfl (by go_simp; try rfl) ?_
       try simp only [pz]
       refine PF.s 20 (by kernel_rfl) rfl ?_
       refine PF.s 21 (by kernel_rfl) rfl ?_
       refine PF.s 23 (by kernel_rfl) rfl ?_
       refine PF.s 24 (by kernel_rfl) rfl ?_
       refine PF.s 25 (by kernel_rfl) rfl ?_
       refine PF.s 26 (by kernel_rfl) rfl ?_
       refine PF.s 27 (by kernel_rfl) rfl ?_
       refine PF.s 28 (by kernel_rfl) rfl ?_
       refine PF.s 29 (by kernel_rfl) rfl ?_
       refine PF.k 22 (by kernel_rfl) rfl ?_
       refine PF.s 30 (by kernel_rfl) rfl ?_
       try simp only [pz]
       refine PF.t 31 (by kernel_rfl) rfl (by go_simp; try rfl) ?_
       try simp only [pz]
       refine PF.d (by kernel_rfl) ?_
       go_wp2_with fail
       go_ret
       refine ⟨by rw [decide_eq_false fun hi => by have h1 := ((is2 HIS.out HK2.out).1 (HISK.out hi)).2.1; rw [HEN.out] at h1; cases h1]; rfl, ?_⟩
       have := HB.out.trans (HT13.out.mono HB.out.size)
       first | exact this | exact this.drew
      | false =>
       rw [hen] at hlk2
       simp only [Bool.false_eq_true, if_false] at hlk2
       have HEN := Lib.hid hen
       clear hen
       by_cases hal : z.n.call = x.n.call
       ·have dal : decide (z.n.call = x.n.call) = true := decide_eq_true hal
        have HAL := Lib.hid hal
        clear hal
        by_cases hrp : idOf x.n.call = repId x.n.rep
        ·have hne := fun u => ne_id u (idOf x.n.call) (repId x.n.rep) true (decide_eq_true hrp)
         have HRP := Lib.hid hrp
         unfold idOf repId at hne
         simp only [Bool.not_true] at hne
         clear hrp
         go_wp2_with fail
         refine PF.b (by kernel_rfl) (fun _ _ _ _ _ h => h) ?_
         refine PF.t 0 (by kernel_rfl) rfl (by go_simp; try rfl) ?_
         try simp only [pz]
         refine PF.t 1 (by kernel_rfl) rfl (by go_simp; try rfl) ?_
         try simp only [pz]
         refine PF.t 2 (by kernel_rfl) rfl (by go_simp; try rfl) ?_
         try simp only [pz]
         refine PF.t 3 (by kernel_rfl) rfl (by go_simp; try rfl) ?_
         try simp only [pz]
         refine PF.u 4 ((fun u => Blk u g7 77 #[.int .i64 x.n.call.cl, .int .u64 (x.n.call.inc : Int), .int .u64 (x.n.call.n : Int)])) (by kernel_rfl) rfl (HG13.out) (fun u hu => exec_load_blk rfl rfl hu Tryz.underlying77 rfl (info_id rfl)) ?_
         try simp only [pz]
         refine PF.u 5 (PF.Same ((w.heap.size+1)) _) (by kernel_rfl) rfl (PF.Same.refl _ _) (fun u hu => by have hcu := hu.cell; have hlu := hlk2 u hu; go_simp; try rfl) ?_
         try simp only [pz]
         refine PF.t 6 (by kernel_rfl) rfl (by go_simp; try rfl) ?_
         try simp only [pz]
         refine PF.t 7 (by kernel_rfl) rfl (by go_simp; try rfl) ?_
         try simp only [pz]
         refine PF.t 8 (by kernel_rfl) rfl (by go_simp; try rfl) ?_
         try simp only [pz]
         refine PF.t 9 (by kernel_rfl) rfl (by go_simp; try rfl) ?_
         try simp only [pz]
         refine PF.t 10 (by kernel_rfl) rfl (by go_simp; try rfl) ?_
         try simp only [pz]
         refine PF.t 11 (by kernel_rfl) rfl (by go_simp; try rfl) ?_
         try simp only [pz]
         refine PF.t 12 (by kernel_rfl) rfl (by go_simp; try rfl) ?_
         try simp only [pz]
         refine PF.u 13 ((fun u => u.rangeAt b (o + j * 19 + 1) (calL z.n.call z.vc))) (by kernel_rfl) rfl (HRJ.out) (fun u hu => exec_load_rg rfl rfl hu Tryz.underlying25 rfl (infoj_call9 rfl)) ?_
         try simp only [pz]
         refine PF.t 14 (by kernel_rfl) rfl (by go_simp; try rfl) ?_
         try simp only [pz]
         refine PF.u 15 ((fun u => Blk u g6 38 (ntL x).toArray)) (by kernel_rfl) rfl (HB13.out) (fun u hu => exec_load_rg rfl rfl (nt_call hu) Tryz.underlying25 rfl (infoj_call9 rfl)) ?_
         try simp only [pz]
         refine PF.e 16 (by kernel_rfl) rfl fun K hK => ?_
         go_simp
         refine (alike_any (HSJ.out.below ((Below.refl _ _).drew)) (HSB13.out.below ((Below.refl _ _).drew)) HYB.out HNT.out.body).mono ?_
         rintro e w14 ⟨rfl, hb14⟩
         have HT14 : Hid (Below w13.heap.size w13 w14) := ((Below.refl _ w13).drew).trans hb14
         have HB14 := Lib.hid (HB13.out.below HT14.out HB13.out.lt)
         have HR14 := Lib.hid (HR13.out.below HT14.out HR13.out.lt)
         clear hb14
         rw [dal]
         have r0 := (HR14.out.cell 0).trans (rfl : _ = some (Value.int .i64 x.n.rep.cl))
         have r1 := (HR14.out.cell 1).trans (rfl : _ = some (Value.int .u64 (x.n.rep.inc : Int)))
         have r2 := (HR14.out.cell 2).trans (rfl : _ = some (Value.int .u64 (x.n.rep.n : Int)))
         refine hK (by repeat (first | exact PF.n | refine PF.l ?_ | refine PF.o (by decide +kernel) ?_ | refine PF.y (by first | rfl | assumption | go_simp) ?_)) ?_
         clear hK K
         try simp only [pz]
         refine PF.t 17 (by kernel_rfl) rfl (by go_simp; try rfl) ?_
         try simp only [pz]
         refine PF.t 18 (by kernel_rfl) rfl (by go_simp; try rfl) ?_
         try simp only [pz]
         refine PF.t 19 (by kernel_rfl) rfl (by go_simp; try rfl) ?_
         try simp only [pz]
         refine PF.t 20 (by kernel_rfl) rfl (by go_simp; try rfl) ?_
         try simp only [pz]
         refine PF.u 21 ((fun u => Blk u g6 38 (ntL x).toArray)) (by kernel_rfl) rfl (HB14.out) (fun u hu => exec_load_rg rfl rfl (nt_call hu) Tryz.underlying25 rfl (infoj_call9 rfl)) ?_
         try simp only [pz]
         refine PF.t 23 (by kernel_rfl) rfl (by go_simp; try rfl) ?_
         try simp only [pz]
         refine PF.m 24 (g8) (by kernel_rfl) rfl (fun hcu => by go_simp; try rfl) ?_
         try simp only [pz]
         refine PF.t 25 (by kernel_rfl) rfl (by go_simp; try rfl) ?_
         try simp only [pz]
         refine PF.m 26 (g8) (by kernel_rfl) rfl (fun hcu => by go_simp; try rfl) ?_
         try simp only [pz]
         refine PF.t 27 (by kernel_rfl) rfl (by go_simp; try rfl) ?_
         try simp only [pz]
         refine PF.m 28 (g8) (by kernel_rfl) rfl (fun hcu => by go_simp; try rfl) ?_
         try simp only [pz]
         refine PF.t 29 (by kernel_rfl) rfl (by go_simp; try rfl) ?_
         try simp only [pz]
         refine PF.e 22 (by kernel_rfl) rfl fun K hK => ?_
         go_simp
         refine (of_any ho1).mono ?_
         rintro e w15 ⟨rfl, hb15⟩
         have HT15 : Hid (Below w14.heap.size w14 w15) := hb15
         rw [show idV (idOf x.n.call) = .agg #[.int .i64 x.n.call.cl, .int .u64 (x.n.call.inc : Int), .int .u64 (x.n.call.n : Int)] from rfl]
         clear hb15
         refine hK (by repeat (first | exact PF.n | refine PF.l ?_ | refine PF.o (by decide +kernel) ?_ | refine PF.y (by exact HT15.out.block _ HR14.out.lt) ?_)) ?_
         clear hK K
         try simp only [pz]
         refine PF.t 30 (by kernel_rfl) rfl (by go_simp; try rfl) ?_
         try simp only [pz]
         refine PF.t 31 (by kernel_rfl) rfl (by go_simp; try rfl) ?_
         try simp only [pz]
         refine PF.d (by kernel_rfl) ?_
         have HT15' : Hid (Below wr.heap.size wr w15) := (HT13.out.trans (HT14.out.mono HT13.out.size)).trans (HT15.out.mono (Nat.le_trans HT13.out.size HT14.out.size))
         have HG15 : Hid (Blk w15.drew g7 77 #[.int .i64 x.n.call.cl, .int .u64 (x.n.call.inc : Int), .int .u64 (x.n.call.n : Int)]) := ((HG13.out.below HT14.out HG13.out.lt).below HT15.out (by have := HG13.out.lt; have := HT14.out.size; omega)).drew
         have HM25 : Hid (MapW 77 w15.drew (w.heap.size + 1) E2) := HM2.out.below HT15'.out.drew
         have hE2 : E2.length < 9223372036854775807 := by have := HIV.out.l2; rw [List.length_take] at this; omega
         have hf0 : (fget (idKey (idOf x.n.call)) E2).getD (.int .i64 0) = .int .i64 0 := by rw [HIV.out.e _ HNT.out.id, HEN.out]; rfl
         have hl0 := HM25.out.look idK Tryz.underlying75 zero_int HKEY.out
         rw [hf0] at hl0
         obtain ⟨v0, st, w17, hr4, hg4, hl4, hs4⟩ := HM25.out.entry idLaw Tryz.underlying75 zero_int HKEY.out hE2 hf0
         obtain ⟨w18, hr6, hm6, hg6⟩ := hs4 w17 (.int .i64 (IntKind.i64.wrap 1)) rfl
         rw [show IntKind.i64.wrap 1 = 1 from rfl] at hm6
         unfold goInt at hr4 hr6
         have hlf := hl4 w17 rfl
         unfold idV idOf at hl0 hr4 hlf
         have HL0 := Lib.hid hl0
         have HLF := Lib.hid hlf
         have HG4 := Lib.hid hg4
         have HM6 := Lib.hid hm6
         have HG6 := Lib.hid hg6
         clear hl0 hlf hg4 hm6 hg6 hl4 hs4 hf0 hE2 r0 r1 r2 hne dal hlk2
         go_wp2_with fail
         refine PF.b (by kernel_rfl) (fun _ _ _ _ _ h => h) ?_
         refine PF.t 0 (by kernel_rfl) rfl (by go_simp; try rfl) ?_
         try simp only [pz]
         refine PF.u 1 ((fun u => Blk u g7 77 #[.int .i64 x.n.call.cl, .int .u64 (x.n.call.inc : Int), .int .u64 (x.n.call.n : Int)])) (by kernel_rfl) rfl (HG15.out) (fun u hu => exec_load_blk rfl rfl hu Tryz.underlying77 rfl (info_id rfl)) ?_
         try simp only [pz]
         refine PF.u 2 ((fun u => (Instr.lookup 75 (.map (some (w.heap.size + 1))) (.agg #[.int .i64 x.n.call.cl, .int .u64 (x.n.call.inc : Int), .int .u64 (x.n.call.n : Int)]) false).run Tryz.prog u = .ok (.int .i64 0) u)) (by kernel_rfl) rfl (HL0.out) (fun u hu => by (go_simp; try rfl)) ?_
         try simp only [pz]
         refine PF.t 3 (by kernel_rfl) rfl (by go_simp; try rfl) ?_
         try simp only [pz]
         refine PF.e 4 (by kernel_rfl) rfl fun K hK => ?_
         go_simp
         refine hK (by repeat (first | exact PF.n | refine PF.l ?_ | refine PF.o (by decide +kernel) ?_ | refine PF.y (by first | exact HLF.out | exact HG15.out.grown HG4.out (by intro e; injection e with e; have := HZ13.out; have := HSZ.out; omega)) ?_)) ?_
         clear hK K
         try simp only [pz]
         refine PF.t 5 (by kernel_rfl) rfl (by go_simp; try rfl) ?_
         try simp only [pz]
         refine PF.e 6 (by kernel_rfl) rfl fun K hK => ?_
         go_simp
         refine hK (by repeat (first | exact PF.n | refine PF.l ?_ | refine PF.o (by decide +kernel) ?_ | refine PF.y (by first | rfl | assumption | go_simp) ?_)) ?_
         clear hK K
         try simp only [pz]
         refine PF.d (by kernel_rfl) ?_
         have hm17 := (mod_ofW HG4.out).trans (mod_ofW HG6.out)
         have HX := Lib.hid hm17
         clear hm17 hr4 hr6
         go_wp2_with fail
         go_roundw
         case rel =>
          have hs1 := HSZ.out
          have hmo : Mod (fun b => b = w.heap.size + 1) w15 w18 := ((Mod.refl _ w15).drew).trans HX.out
          refine ⟨k + 1, by omega, by go_num, (HB.out.trans (HT15'.out.mono HB.out.size)).trans (hmo.to_below (Nat.le_trans HB.out.size HT15'.out.size) fun b hb e => by omega), ?_, ?_, E1, _, (HM1.out.below HT15'.out).mod hmo (by omega), HM6.out, ?_⟩
          ·have := HT15'.out.size; have := hmo.size; omega
          ·rw [HTK.out]
           refine (isFrom_app _ _ _).2 ⟨HIS.out, ?_, trivial⟩
           rw [List.nil_append]
           exact (is2 HIS.out HK2.out).2 ⟨⟨j, z.n, HQ.out, HY.out, HAL.out⟩, HEN.out, HRP.out⟩
          ·rw [HTK.out]
           exact HIV.out.fin (HM2.out.srt idK) HK2.out HNT.out.id
         case measure => simp [intOf]; omega
        ·have hne := fun u => ne_id u (idOf x.n.call) (repId x.n.rep) false (decide_eq_false hrp)
         have HRP := Lib.hid hrp
         unfold idOf repId at hne
         simp only [Bool.not_false] at hne
         clear hrp
         go_wp2_with fail
         refine PF.b (by kernel_rfl) (fun _ _ _ _ _ h => h) ?_
         refine PF.t 0 (by kernel_rfl) rfl (by go_simp; try rfl) ?_
         try simp only [pz]
         refine PF.t 1 (by kernel_rfl) rfl (by go_simp; try rfl) ?_
         try simp only [pz]
         refine PF.t 2 (by kernel_rfl) rfl (by go_simp; try rfl) ?_
         try simp only [pz]
         refine PF.t 3 (by kernel_rfl) rfl (by go_simp; try rfl) ?_
         try simp only [pz]
         refine PF.u 4 ((fun u => Blk u g7 77 #[.int .i64 x.n.call.cl, .int .u64 (x.n.call.inc : Int), .int .u64 (x.n.call.n : Int)])) (by kernel_rfl) rfl (HG13.out) (fun u hu => exec_load_blk rfl rfl hu Tryz.underlying77 rfl (info_id rfl)) ?_
         try simp only [pz]
         refine PF.u 5 (PF.Same ((w.heap.size+1)) _) (by kernel_rfl) rfl (PF.Same.refl _ _) (fun u hu => by have hcu := hu.cell; have hlu := hlk2 u hu; go_simp; try rfl) ?_
         try simp only [pz]
         refine PF.t 6 (by kernel_rfl) rfl (by go_simp; try rfl) ?_
         try simp only [pz]
         refine PF.t 7 (by kernel_rfl) rfl (by go_simp; try rfl) ?_
         try simp only [pz]
         refine PF.t 8 (by kernel_rfl) rfl (by go_simp; try rfl) ?_
         try simp only [pz]
         refine PF.t 9 (by kernel_rfl) rfl (by go_simp; try rfl) ?_
         try simp only [pz]
         refine PF.t 10 (by kernel_rfl) rfl (by go_simp; try rfl) ?_
         try simp only [pz]
         refine PF.t 11 (by kernel_rfl) rfl (by go_simp; try rfl) ?_
         try simp only [pz]
         refine PF.t 12 (by kernel_rfl) rfl (by go_simp; try rfl) ?_
         try simp only [pz]
         refine PF.u 13 ((fun u => u.rangeAt b (o + j * 19 + 1) (calL z.n.call z.vc))) (by kernel_rfl) rfl (HRJ.out) (fun u hu => exec_load_rg rfl rfl hu Tryz.underlying25 rfl (infoj_call9 rfl)) ?_
         try simp only [pz]
         refine PF.t 14 (by kernel_rfl) rfl (by go_simp; try rfl) ?_
         try simp only [pz]
         refine PF.u 15 ((fun u => Blk u g6 38 (ntL x).toArray)) (by kernel_rfl) rfl (HB13.out) (fun u hu => exec_load_rg rfl rfl (nt_call hu) Tryz.underlying25 rfl (infoj_call9 rfl)) ?_
         try simp only [pz]
         refine PF.e 16 (by kernel_rfl) rfl fun K hK => ?_
         go_simp
         refine (alike_any (HSJ.out.below ((Below.refl _ _).drew)) (HSB13.out.below ((Below.refl _ _).drew)) HYB.out HNT.out.body).mono ?_
         rintro e w14 ⟨rfl, hb14⟩
         have HT14 : Hid (Below w13.heap.size w13 w14) := ((Below.refl _ w13).drew).trans hb14
         have HB14 := Lib.hid (HB13.out.below HT14.out HB13.out.lt)
         have HR14 := Lib.hid (HR13.out.below HT14.out HR13.out.lt)
         clear hb14
         rw [dal]
         have r0 := (HR14.out.cell 0).trans (rfl : _ = some (Value.int .i64 x.n.rep.cl))
         have r1 := (HR14.out.cell 1).trans (rfl : _ = some (Value.int .u64 (x.n.rep.inc : Int)))
         have r2 := (HR14.out.cell 2).trans (rfl : _ = some (Value.int .u64 (x.n.rep.n : Int)))
         refine hK (by repeat (first | exact PF.n | refine PF.l ?_ | refine PF.o (by decide +kernel) ?_ | refine PF.y (by first | rfl | assumption | go_simp) ?_)) ?_
         clear hK K
         try simp only [pz]
         refine PF.t 17 (by kernel_rfl) rfl (by go_simp; try rfl) ?_
         try simp only [pz]
         refine PF.t 18 (by kernel_rfl) rfl (by go_simp; try rfl) ?_
         try simp only [pz]
         refine PF.t 19 (by kernel_rfl) rfl (by go_simp; try rfl) ?_
         try simp only [pz]
         refine PF.t 20 (by kernel_rfl) rfl (by go_simp; try rfl) ?_
         try simp only [pz]
         refine PF.u 21 ((fun u => Blk u g6 38 (ntL x).toArray)) (by kernel_rfl) rfl (HB14.out) (fun u hu => exec_load_rg rfl rfl (nt_call hu) Tryz.underlying25 rfl (infoj_call9 rfl)) ?_
         try simp only [pz]
         refine PF.t 23 (by kernel_rfl) rfl (by go_simp; try rfl) ?_
         try simp only [pz]
         refine PF.m 24 (g8) (by kernel_rfl) rfl (fun hcu => by go_simp; try rfl) ?_
         try simp only [pz]
         refine PF.t 25 (by kernel_rfl) rfl (by go_simp; try rfl) ?_
         try simp only [pz]
         refine PF.m 26 (g8) (by kernel_rfl) rfl (fun hcu => by go_simp; try rfl) ?_
         try simp only [pz]
         refine PF.t 27 (by kernel_rfl) rfl (by go_simp; try rfl) ?_
         try simp only [pz]
         refine PF.m 28 (g8) (by kernel_rfl) rfl (fun hcu => by go_simp; try rfl) ?_
         try simp only [pz]
         refine PF.t 29 (by kernel_rfl) rfl (by go_simp; try rfl) ?_
         try simp only [pz]
         refine PF.e 22 (by kernel_rfl) rfl fun K hK => ?_
         go_simp
         refine (of_any ho1).mono ?_
         rintro e w15 ⟨rfl, hb15⟩
         have HT15 : Hid (Below w14.heap.size w14 w15) := hb15
         rw [show idV (idOf x.n.call) = .agg #[.int .i64 x.n.call.cl, .int .u64 (x.n.call.inc : Int), .int .u64 (x.n.call.n : Int)] from rfl]
         clear hb15
         refine hK (by repeat (first | exact PF.n | refine PF.l ?_ | refine PF.o (by decide +kernel) ?_ | refine PF.y (by exact HT15.out.block _ HR14.out.lt) ?_)) ?_
         clear hK K
         try simp only [pz]
         refine PF.t 30 (by kernel_rfl) rfl (by go_simp; try rfl) ?_
         try simp only [pz]
         refine PF.t 31 (by kernel_rfl) rfl (by go_simp; try rfl) ?_
         try simp only [pz]
         refine PF.d (by kernel_rfl) ?_
         go_wp2_with fail
         go_ret
         refine ⟨by rw [decide_eq_false fun hi => HRP.out ((is2 HIS.out HK2.out).1 (HISK.out hi)).2.2]; rfl, ?_⟩
         have := HB.out.trans (((HT13.out.trans (HT14.out.mono HT13.out.size)).trans (HT15.out.mono (Nat.le_trans HT13.out.size HT14.out.size))).mono HB.out.size)
         first | exact this | exact this.drew
       ·have dal : decide (z.n.call = x.n.call) = false := decide_eq_false hal
        have HAL := Lib.hid hal
        clear hal
        go_wp2_with fail
        refine PF.b (by kernel_rfl) (fun _ _ _ _ _ h => h) ?_
        refine PF.t 0 (by kernel_rfl) rfl (by go_simp; try rfl) ?_
        try simp only [pz]
        refine PF.t 1 (by kernel_rfl) rfl (by go_simp; try rfl) ?_
        try simp only [pz]
        refine PF.t 2 (by kernel_rfl) rfl (by go_simp; try rfl) ?_
        try simp only [pz]
        refine PF.t 3 (by kernel_rfl) rfl (by go_simp; try rfl) ?_
        try simp only [pz]
        refine PF.u 4 ((fun u => Blk u g7 77 #[.int .i64 x.n.call.cl, .int .u64 (x.n.call.inc : Int), .int .u64 (x.n.call.n : Int)])) (by kernel_rfl) rfl (HG13.out) (fun u hu => exec_load_blk rfl rfl hu Tryz.underlying77 rfl (info_id rfl)) ?_
        try simp only [pz]
        refine PF.u 5 (PF.Same ((w.heap.size+1)) _) (by kernel_rfl) rfl (PF.Same.refl _ _) (fun u hu => by have hcu := hu.cell; have hlu := hlk2 u hu; go_simp; try rfl) ?_
        try simp only [pz]
        refine PF.t 6 (by kernel_rfl) rfl (by go_simp; try rfl) ?_
        try simp only [pz]
        refine PF.t 7 (by kernel_rfl) rfl (by go_simp; try rfl) ?_
        try simp only [pz]
        refine PF.t 8 (by kernel_rfl) rfl (by go_simp; try rfl) ?_
        try simp only [pz]
        refine PF.t 9 (by kernel_rfl) rfl (by go_simp; try rfl) ?_
        try simp only [pz]
        refine PF.t 10 (by kernel_rfl) rfl (by go_simp; try rfl) ?_
        try simp only [pz]
        refine PF.t 11 (by kernel_rfl) rfl (by go_simp; try rfl) ?_
        try simp only [pz]
        refine PF.t 12 (by kernel_rfl) rfl (by go_simp; try rfl) ?_
        try simp only [pz]
        refine PF.u 13 ((fun u => u.rangeAt b (o + j * 19 + 1) (calL z.n.call z.vc))) (by kernel_rfl) rfl (HRJ.out) (fun u hu => exec_load_rg rfl rfl hu Tryz.underlying25 rfl (infoj_call9 rfl)) ?_
        try simp only [pz]
        refine PF.t 14 (by kernel_rfl) rfl (by go_simp; try rfl) ?_
        try simp only [pz]
        refine PF.u 15 ((fun u => Blk u g6 38 (ntL x).toArray)) (by kernel_rfl) rfl (HB13.out) (fun u hu => exec_load_rg rfl rfl (nt_call hu) Tryz.underlying25 rfl (infoj_call9 rfl)) ?_
        try simp only [pz]
        refine PF.e 16 (by kernel_rfl) rfl fun K hK => ?_
        go_simp
        refine (alike_any (HSJ.out.below ((Below.refl _ _).drew)) (HSB13.out.below ((Below.refl _ _).drew)) HYB.out HNT.out.body).mono ?_
        rintro e w14 ⟨rfl, hb14⟩
        have HT14 : Hid (Below w13.heap.size w13 w14) := ((Below.refl _ w13).drew).trans hb14
        have HB14 := Lib.hid (HB13.out.below HT14.out HB13.out.lt)
        have HR14 := Lib.hid (HR13.out.below HT14.out HR13.out.lt)
        clear hb14
        rw [dal]
        refine hK (by repeat (first | exact PF.n | refine PF.l ?_ | refine PF.o (by decide +kernel) ?_ | refine PF.y (by first | rfl | assumption | go_simp) ?_)) ?_
        clear hK K
        try simp only [pz]
        refine PF.t 17 (by kernel_rfl) rfl (by go_simp; try rfl) ?_
        try simp only [pz]
        refine PF.t 18 (by kernel_rfl) rfl (by go_simp; try rfl) ?_
        try simp only [pz]
        refine PF.t 19 (by kernel_rfl) rfl (by go_simp; try rfl) ?_
        try simp only [pz]
        refine PF.s 20 (by kernel_rfl) rfl ?_
        refine PF.s 21 (by kernel_rfl) rfl ?_
        refine PF.s 23 (by kernel_rfl) rfl ?_
        refine PF.s 24 (by kernel_rfl) rfl ?_
        refine PF.s 25 (by kernel_rfl) rfl ?_
        refine PF.s 26 (by kernel_rfl) rfl ?_
        refine PF.s 27 (by kernel_rfl) rfl ?_
        refine PF.s 28 (by kernel_rfl) rfl ?_
        refine PF.s 29 (by kernel_rfl) rfl ?_
        refine PF.k 22 (by kernel_rfl) rfl ?_
        refine PF.s 30 (by kernel_rfl) rfl ?_
        try simp only [pz]
        refine PF.t 31 (by kernel_rfl) rfl (by go_simp; try rfl) ?_
        try simp only [pz]
        refine PF.d (by kernel_rfl) ?_
        go_wp2_with fail
        go_ret
        have hni : ¬ IsH h := fun hi => by
         obtain ⟨⟨j2, y2, h1, h2, h3⟩, _⟩ := (is2 HIS.out HK2.out).1 (HISK.out hi)
         rw [HQ.out] at h1
         injection h1 with h1
         subst h1
         rw [HY.out] at h2
         injection h2 with h2
         rw [← h2] at h3
         exact HAL.out h3
        refine ⟨by rw [decide_eq_false hni]; rfl, ?_⟩
        have := HB.out.trans ((HT13.out.trans (HT14.out.mono HT13.out.size)).mono HB.out.size)
        first | exact this | exact this.drew
    ·skip
     have p2 : (x.n.kind == 2) = false := beq_eq_false_iff_ne.2 h2
     have HKN := Lib.hid (isN (p := h.take k) h1 h2)
     clear h1 h2
     go_wp2_with fail
     go_ret
     refine ⟨by rw [decide_eq_false fun hi => HKN.out (HISK.out hi)]; rfl, ?_⟩
     have := HB.out.trans (HT10.out.mono HB.out.size)
     first | exact this | exact this.drew
  ·obtain rfl : k = H.length := by omega
   go_wp2_with fail
   go_ret
   have := HIS.out
   rw [← HL.out, List.take_length] at this
   exact ⟨by rw [decide_eq_true this]; rfl, HB.out⟩
end Go.Proofs.YtpjmolnkmlpfeaaGreatDoor
