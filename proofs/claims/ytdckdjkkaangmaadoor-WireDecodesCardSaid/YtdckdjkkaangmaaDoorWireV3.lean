/- The document's Decode: kind 2. -/
import Derived.Test.YtdckdjkkaangmaaDoorJK
namespace Go.Proofs.YtdckdjkkaangmaaDoor
set_option linter.unusedVariables false
set_option linter.unusedSimpArgs false
set_option maxRecDepth 100000
open Go.RowKit

set_option maxRecDepth 100000 in
set_option maxHeartbeats 16000000 in
theorem ddec_says (A : Option Addr) (cap : Nat) (l : List UInt8) (w : World) (hp : Bytes w A l) (hn : l.length ≤ 1000000) (hc1 : l.length ≤ cap) {c0 : UInt8} {t : List UInt8} (ho : Crc.opened l = some (c0 :: t)) (hbig : ¬ 16384 < l.length) (hk : c0.toNat = 2) :
    Calls Tryd.prog 9 #[.slice A l.length cap] w fun e w' => DDec l e w' ∧ Below w.heap.size w w' := by
  have HF := Lib.hid (dec_fin ho hbig)
  have HO := Lib.hid ho
  have hgt : decide ((16384 : Int) < (l.length : Int)) = false := decide_eq_false (by omega)
  have HKD : Hid (decK (c0 :: t) = c0.toNat) := decK_head c0 t
  have HKK := Lib.hid hk
  clear ho hbig hk
  go_enter Tryd.func9, Tryd.ntmps9
  go_wp2_with (refine wpList_alloc_blk rfl rfl zero_pk ?_; rintro g w0 hg hB0 hb0; refine Hid.out ?_)
  refine Lib.hid ?_
  go_wp2_with fail
  refine (refopen_any A cap l w0 (hp.below hb0) hn hc1).mono ?_
  rintro e w1 ⟨hop, hb1⟩
  rw [HO.out] at hop
  have HG1 := Lib.hid (hB0.below hb1 hB0.lt)
  have HT1 := Lib.hid (below_call hb0 hb0.size hb1)
  have HGL : Hid (w.heap.size = g ∧ g < w1.heap.size) := ⟨hg, by have := hB0.lt; have := hb1.size; omega⟩
  have HW0 : Hid (w.heap.size ≤ w0.heap.size) := hb0.size
  clear hB0 hb0 hb1 hg hp
  obtain ⟨v, rfl, hown⟩ := hop
  obtain ⟨gi, c1, rfl, hgi, hl1, hl2⟩ := own_ptr hown (by simp)
  have hA1 : Bytes w1 (some ⟨gi, 0, none⟩) (c0 :: t) := own_bytes hown
  have hx0 : w1.cell? ⟨gi, 0, none⟩ = some (.int .u8 (c0.toNat : Int)) := by
    obtain ⟨b, o, e, _, hc⟩ := hA1.flat (by simp)
    injection e with e
    injection e with e1 e2
    subst e1 e2
    have h := hc 0 (by simp)
    simpa using h
  have hgl := (own_call hown (Below.refl _ _)).lt gi rfl
  have hlen : (c0 :: t).length = t.length + 1 := rfl
  have HLN : Hid ((c0 :: t).length ≤ 1000000 ∧ (c0 :: t).length ≤ l.length) := ⟨by have := opened_len HO.out; omega, opened_len HO.out⟩
  have hm1 : Bytes w1 (some ⟨gi, 1, none⟩) t := by
    refine ⟨by simp, fun h0 => ⟨_, rfl, hgl.2, fun j u hu => ?_⟩⟩
    obtain ⟨b, o, e, _, hc⟩ := hA1.flat (by simp)
    injection e with e
    injection e with e1 e2
    subst e1 e2
    have hj : j < t.length := by
      have := (List.getElem?_eq_some_iff.1 hu).1
      simpa using this
    have h := hc (j + 1) (by simp; omega)
    rw [add_flat, show 1 + j = 0 + (j + 1) by omega, h, ← hu, List.getElem?_map, List.getElem?_eq_getElem hj]
    rfl
  have HM1 := Lib.hid hm1
  have HGI : Hid (w.heap.size ≤ gi ∧ gi < w1.heap.size ∧ t.length + 1 ≤ c1 ∧ c1 ≤ 9223372036854775807) := ⟨Nat.le_trans HW0.out hgl.1, hgl.2, by simpa using hl1, by simpa [maxLen] using hl2⟩
  have hkw : IntKind.i64.wrap (c0.toNat : Int) = (c0.toNat : Int) := by have := c0.toNat_lt; rw [IntKind.wrap_i64]; omega
  rw [hlen] at *
  clear hown hA1 hgi hgl hl1 hl2 hm1
  have hx0' : ∀ o, (w1.alloc o).cell? ⟨gi, 0, none⟩ = some (.int .u8 (c0.toNat : Int)) := fun o => ((below_new w1 o).cell (p := ⟨gi, 0, none⟩) HGI.out.2.1).trans hx0
  clear hx0
  go_wp2_with (refine wpList_slice1 rfl rfl rfl HGI.out.2.2.1 Tryd.underlying22 size_u8 ?_; intro A2 c2 hac; refine Hid.out ?_)
  refine Lib.hid ?_
  have HR2 : Hid (Bytes w1 A2 t ∧ t.length ≤ c2 ∧ c2 ≤ 9223372036854775807 ∧ ∀ ad, A2 = some ad → ad.block = gi) := by
    have h1 := HGI.out.2.2
    rcases hac with ⟨h2, rfl, rfl⟩ | ⟨h2, rfl, rfl⟩
    · have ht : t = [] := List.eq_nil_of_length_eq_zero (by omega)
      subst ht
      exact ⟨Bytes.nil_ _ _, Nat.le_refl _, by omega, fun ad e => by injection e with e; rw [← e]⟩
    · exact ⟨HM1.out, by omega, by omega, fun ad e => by injection e with e; rw [← e]⟩
  clear hac
  go_wp2_with (refine wpList_build_pk (k := (c0.toNat : Int)) rfl ?_; refine Hid.out ?_)
  refine Lib.hid ?_
  have HRF : Hid (Rf (fun b => w.heap.size ≤ b) (w1.alloc (.cells #[.slice A2 t.length c2, .bool false] 71)) w1.heap.size t false) := by
    refine ⟨A2, c2, Blk.new _ _ _, HR2.out.1.below (below_new _ _), HR2.out.2.1, HR2.out.2.2.1, by have := HGI.out; show w.heap.size ≤ w1.heap.size; omega, fun ad e _ => ?_⟩
    have h := HR2.out.2.2.2 ad e
    have := HGI.out
    exact ⟨by show w.heap.size ≤ ad.block; omega, by omega⟩
  have HT2 : Hid (Below w.heap.size w (w1.alloc (.cells #[.slice A2 t.length c2, .bool false] 71))) := HT1.out.alloc (by have := HGI.out; omega) _
  have HG2 := Lib.hid (HG1.out.alloc (.cells #[.slice A2 t.length c2, .bool false] 71))
  have HS2 : Hid ((w1.alloc (.cells #[.slice A2 t.length c2, .bool false] 71)).heap.size = w1.heap.size + 1) := (by show _ = _; simp)
  go_wp2_with (refine wpList_alloc_blk rfl rfl zero_pk ?_; rintro pb w4 hpb hB4 hb4; refine Hid.out ?_)
  refine Lib.hid ?_
  clear hx0'
  generalize w1.alloc (.cells #[.slice A2 t.length c2, .bool false] 71) = w2 at *
  have HML : Hid (g < w1.heap.size ∧ w.heap.size ≤ w1.heap.size) := ⟨HGL.out.2, by have := HGI.out; omega⟩
  generalize w1.heap.size = m at *
  have hdc : decC (c0 :: t) = zPk.setIfInBounds 0 (.int .i64 (c0.toNat : Int)) := by unfold decC; rw [HKD.out]
  have hz0 : (zPk.setIfInBounds 0 (.int .i64 (c0.toNat : Int))).size = 56 := by rw [Array.size_setIfInBounds]; rfl
  go_wp2_with (refine wpList_store_blk rfl rfl rfl rfl hB4 (by rw [hz0]; rfl) (pk_size hz0) (by rw [← hdc]; exact decC_one _) ?_; rintro w5 hB5 hm5; refine Hid.out ?_)
  refine Lib.hid ?_
  have hs4 := hb4.size
  have hs5 := hm5.size
  have hb5 : Below w2.heap.size w2 w5 := hb4.trans (hm5.to_below hs4 fun b hb e => by omega)
  rw [← hdc] at hB5
  have HD0 : Hid (DSt w5 (fun b => w.heap.size ≤ b) m pb (c0 :: t) (dec0 (c0 :: t))) := by
    have h1 := HS2.out
    have h2 := HT2.out.size
    rw [dec0_head]
    exact ⟨HRF.out.below hb5, hB5, by omega, fun k hk => by show w.heap.size ≤ k; omega, (decC_good _).nou8⟩
  have HGd0 : Hid (Good (dec0 (c0 :: t)).1) := decC_good _
  have HG5 := Lib.hid (HG2.out.below hb5 HG2.out.lt)
  have HT5 := Lib.hid (below_call HT2.out HT2.out.size hb5)
  have HPB : Hid (m < pb ∧ g < pb ∧ w.heap.size ≤ m ∧ g ≠ m ∧ pb < w5.heap.size) := (by have h1 := HS2.out; have h2 := HML.out; have h3 := hB5.lt; exact ⟨by omega, by omega, by omega, by omega, h3⟩)
  have HTL : Hid ((c0 :: t).length ≤ 1000000) := (by have h := HLN.out.1; show _ ≤ _; simp only [List.length_cons] at h ⊢; omega)
  have kc0 := hB5.cell 0
  rw [decC_kind, HKD.out] at kc0
  have hkk : (c0.toNat : Int) = 2 := by have := HKK.out; omega
  clear HRF hB4 hB5 hb4 hm5 hs4 hs5 hb5 hdc hz0 hpb hkw HM1 HR2 HGI hc1 hn hgt hlen
  have HM0 : Hid (Mod (fun b => b = m ∨ b = pb) w5 w5) := Mod.refl _ _
  obtain ⟨T, hT⟩ : ∃ T, T = c0 :: t := ⟨_, rfl⟩
  rw [← hT] at HD0 HGd0 HTL HKD HF HO
  obtain ⟨S0, hS0⟩ : ∃ S, S = dec0 T := ⟨_, rfl⟩
  rw [← hS0] at HD0 HGd0
  have HE0 := Lib.hid hS0
  have HKT : Hid (decK T = 2) := (by show _ = _; rw [HKD.out]; exact HKK.out)
  clear hS0 hT
  have HC := Lib.hid (dsmall_any HD0.out HTL.out)
  go_wp2_with fail
  refine HC.out.mono ?_
  rintro e y0 ⟨rfl, hd, hm⟩
  clear HC kc0
  have cN0 := hd.pk.cell 7
  rw [Array.getElem?_eq_getElem (by show 7 < S0.1.size; rw [HGd0.out.size]; omega)] at cN0
  generalize S0.1[7]'_ = u0 at cN0
  have fN0 := hd.pk.free 7
  have HGd1 : Hid (Good (fInt T S0 7).1) := HGd0.out.fInt (by decide)
  have HD1 : Hid (DSt (y0.setCell ⟨pb, 7, none⟩ (.int .i64 ((rInt T S0.2).1 : Int))) (fun b => w.heap.size ≤ b) m pb T (fInt T S0 7)) := DSt.put hd.rd hd.pk hd.ne hd.bs hd.no 7 _ HGd1.out.nou8
  have HM1 : Hid (Mod (fun b => b = m ∨ b = pb) w5 (y0.setCell ⟨pb, 7, none⟩ (.int .i64 ((rInt T S0.2).1 : Int)))) := (HM0.out.trans (hm.mono fun b _ e => .inl e)).set (p := ⟨pb, 7, none⟩) (fun _ => .inr rfl) _
  obtain ⟨S1, hS⟩ : ∃ S, S = fInt T S0 7 := ⟨_, rfl⟩
  rw [← hS] at HD1 HGd1
  have HE1 := Lib.hid hS
  clear hS hd hm HD0 HGd0 HM0
  have HC := Lib.hid (dsmall_any HD1.out HTL.out)
  go_wp2_with fail
  refine HC.out.mono ?_
  rintro e y1 ⟨rfl, hd, hm⟩
  clear HC cN0 fN0
  have cN1 := hd.pk.cell 8
  rw [Array.getElem?_eq_getElem (by show 8 < S1.1.size; rw [HGd1.out.size]; omega)] at cN1
  generalize S1.1[8]'_ = u1 at cN1
  have fN1 := hd.pk.free 8
  have HGd2 : Hid (Good (fInt T S1 8).1) := HGd1.out.fInt (by decide)
  have HD2 : Hid (DSt (y1.setCell ⟨pb, 8, none⟩ (.int .i64 ((rInt T S1.2).1 : Int))) (fun b => w.heap.size ≤ b) m pb T (fInt T S1 8)) := DSt.put hd.rd hd.pk hd.ne hd.bs hd.no 8 _ HGd2.out.nou8
  have HM2 : Hid (Mod (fun b => b = m ∨ b = pb) w5 (y1.setCell ⟨pb, 8, none⟩ (.int .i64 ((rInt T S1.2).1 : Int)))) := (HM1.out.trans (hm.mono fun b _ e => .inl e)).set (p := ⟨pb, 8, none⟩) (fun _ => .inr rfl) _
  obtain ⟨S2, hS⟩ : ∃ S, S = fInt T S1 8 := ⟨_, rfl⟩
  rw [← hS] at HD2 HGd2
  have HE2 := Lib.hid hS
  clear hS hd hm HD1 HGd1 HM1
  have HC := Lib.hid (dballot_any HD2.out HTL.out)
  go_wp2_with fail
  refine HC.out.mono ?_
  rintro e y2 ⟨rfl, hd, hm⟩
  clear HC cN1 fN1
  have hth : y2.there pb 9 3 := hd.pk.there (by show 9 + 3 ≤ S2.1.size; rw [HGd2.out.size]; omega)
  go_wp2_with (refine wpList_store_rg rfl (ty := 26) rfl rfl (vs := [.int .u64 ((rUint T S2.2).1 : Int), .int .i64 ((rInt T (rUint T S2.2).2).1 : Int), .int .u64 ((rUint T (rInt T (rUint T S2.2).2).2).1 : Int)]) rfl hth info_bal (by intro v hv; simp only [List.mem_cons, List.not_mem_nil, or_false] at hv; rcases hv with rfl | rfl | rfl <;> rfl) ?_; refine Hid.out ?_)
  refine Lib.hid ?_
  have HGd3 : Hid (Good (fBal T S2 9).1) := HGd2.out.fBal (by decide) (by decide) (by decide)
  have HD3 : Hid (DSt (y2.setCells pb 9 [.int .u64 ((rUint T S2.2).1 : Int), .int .i64 ((rInt T (rUint T S2.2).2).1 : Int), .int .u64 ((rUint T (rInt T (rUint T S2.2).2).2).1 : Int)]) (fun b => w.heap.size ≤ b) m pb T (fBal T S2 9)) := DSt.put3 hd 9 _ _ _
  have HM3 : Hid (Mod (fun b => b = m ∨ b = pb) w5 (y2.setCells pb 9 [.int .u64 ((rUint T S2.2).1 : Int), .int .i64 ((rInt T (rUint T S2.2).2).1 : Int), .int .u64 ((rUint T (rInt T (rUint T S2.2).2).2).1 : Int)])) := (HM2.out.trans (hm.mono fun b _ e => .inl e)).trans ((mod_setCells _ _ _).mono fun b _ e => .inr e)
  clear hth
  obtain ⟨S3, hS⟩ : ∃ S, S = fBal T S2 9 := ⟨_, rfl⟩
  rw [← hS] at HD3 HGd3
  have HE3 := Lib.hid hS
  clear hS hd hm HD2 HGd2 HM2
  have HC := Lib.hid (dballot_any HD3.out HTL.out)
  go_wp2_with fail
  refine HC.out.mono ?_
  rintro e y3 ⟨rfl, hd, hm⟩
  clear HC
  have hth : y3.there pb 12 3 := hd.pk.there (by show 12 + 3 ≤ S3.1.size; rw [HGd3.out.size]; omega)
  go_wp2_with (refine wpList_store_rg rfl (ty := 26) rfl rfl (vs := [.int .u64 ((rUint T S3.2).1 : Int), .int .i64 ((rInt T (rUint T S3.2).2).1 : Int), .int .u64 ((rUint T (rInt T (rUint T S3.2).2).2).1 : Int)]) rfl hth info_bal (by intro v hv; simp only [List.mem_cons, List.not_mem_nil, or_false] at hv; rcases hv with rfl | rfl | rfl <;> rfl) ?_; refine Hid.out ?_)
  refine Lib.hid ?_
  have HGd4 : Hid (Good (fBal T S3 12).1) := HGd3.out.fBal (by decide) (by decide) (by decide)
  have HD4 : Hid (DSt (y3.setCells pb 12 [.int .u64 ((rUint T S3.2).1 : Int), .int .i64 ((rInt T (rUint T S3.2).2).1 : Int), .int .u64 ((rUint T (rInt T (rUint T S3.2).2).2).1 : Int)]) (fun b => w.heap.size ≤ b) m pb T (fBal T S3 12)) := DSt.put3 hd 12 _ _ _
  have HM4 : Hid (Mod (fun b => b = m ∨ b = pb) w5 (y3.setCells pb 12 [.int .u64 ((rUint T S3.2).1 : Int), .int .i64 ((rInt T (rUint T S3.2).2).1 : Int), .int .u64 ((rUint T (rInt T (rUint T S3.2).2).2).1 : Int)])) := (HM3.out.trans (hm.mono fun b _ e => .inl e)).trans ((mod_setCells _ _ _).mono fun b _ e => .inr e)
  clear hth
  obtain ⟨S4, hS⟩ : ∃ S, S = fBal T S3 12 := ⟨_, rfl⟩
  rw [← hS] at HD4 HGd4
  have HE4 := Lib.hid hS
  clear hS hd hm HD3 HGd3 HM3
  have HC := Lib.hid (dballot_any HD4.out HTL.out)
  go_wp2_with fail
  refine HC.out.mono ?_
  rintro e y4 ⟨rfl, hd, hm⟩
  clear HC
  have hth : y4.there pb 15 3 := hd.pk.there (by show 15 + 3 ≤ S4.1.size; rw [HGd4.out.size]; omega)
  go_wp2_with (refine wpList_store_rg rfl (ty := 26) rfl rfl (vs := [.int .u64 ((rUint T S4.2).1 : Int), .int .i64 ((rInt T (rUint T S4.2).2).1 : Int), .int .u64 ((rUint T (rInt T (rUint T S4.2).2).2).1 : Int)]) rfl hth info_bal (by intro v hv; simp only [List.mem_cons, List.not_mem_nil, or_false] at hv; rcases hv with rfl | rfl | rfl <;> rfl) ?_; refine Hid.out ?_)
  refine Lib.hid ?_
  have HGd5 : Hid (Good (fBal T S4 15).1) := HGd4.out.fBal (by decide) (by decide) (by decide)
  have HD5 : Hid (DSt (y4.setCells pb 15 [.int .u64 ((rUint T S4.2).1 : Int), .int .i64 ((rInt T (rUint T S4.2).2).1 : Int), .int .u64 ((rUint T (rInt T (rUint T S4.2).2).2).1 : Int)]) (fun b => w.heap.size ≤ b) m pb T (fBal T S4 15)) := DSt.put3 hd 15 _ _ _
  have HM5 : Hid (Mod (fun b => b = m ∨ b = pb) w5 (y4.setCells pb 15 [.int .u64 ((rUint T S4.2).1 : Int), .int .i64 ((rInt T (rUint T S4.2).2).1 : Int), .int .u64 ((rUint T (rInt T (rUint T S4.2).2).2).1 : Int)])) := (HM4.out.trans (hm.mono fun b _ e => .inl e)).trans ((mod_setCells _ _ _).mono fun b _ e => .inr e)
  clear hth
  obtain ⟨S5, hS⟩ : ∃ S, S = fBal T S4 15 := ⟨_, rfl⟩
  rw [← hS] at HD5 HGd5
  have HE5 := Lib.hid hS
  clear hS hd hm HD4 HGd4 HM4
  have HC := Lib.hid (dtext_any HD5.out HTL.out)
  go_wp2_with fail
  refine HC.out.mono ?_
  rintro e y5 ⟨⟨gt, ct, rfl, hw, ht1, ht2, hgt⟩, hd, hm⟩
  clear HC
  have cN := hd.pk.cell 18
  rw [Array.getElem?_eq_getElem (by show 18 < S5.1.size; rw [HGd5.out.size]; omega)] at cN
  generalize S5.1[18]'_ = uu at cN
  have fN := hd.pk.free 18
  have hsn := HM5.out.size
  have hpb := HPB.out
  have HDf : Hid (DSt (y5.setCell ⟨pb, 18, none⟩ (.slice (some ⟨gt, 0, none⟩) (rText T S5.2).1.length ct)) (fun b => w.heap.size ≤ b) m pb T (S5.1.setIfInBounds 18 (.slice (some ⟨gt, 0, none⟩) (rText T S5.2).1.length ct), (rText T S5.2).2)) := DSt.put hd.rd hd.pk hd.ne hd.bs hd.no 18 _ (hd.no.slice 18 _ _ _)
  have HWf : Hid (WRow (y5.setCell ⟨pb, 18, none⟩ (.slice (some ⟨gt, 0, none⟩) (rText T S5.2).1.length ct)) gt (rText T S5.2).1) := hw.mod (Mod.set (S := fun b => b = pb) (Mod.refl _ _) (p := ⟨pb, 18, none⟩) (fun _ => rfl) _) (fun e => by omega)
  have HMf : Hid (Mod (fun b => b = m ∨ b = pb) w5 (y5.setCell ⟨pb, 18, none⟩ (.slice (some ⟨gt, 0, none⟩) (rText T S5.2).1.length ct))) := (HM5.out.trans (hm.mono fun b _ e => .inl e)).set (p := ⟨pb, 18, none⟩) (fun _ => .inr rfl) _
  have HGf := Lib.hid (HG5.out.mod HMf.out fun e => by rcases e with e | e <;> omega)
  have HTf := Lib.hid (HT5.out.trans (HMf.out.to_below HT5.out.size fun b hb e => by rcases e with e | e <;> omega))
  have HSn : Hid (decS T = S5) := (by show _ = _; rw [dec_sch HKT.out, HE5.out, HE4.out, HE3.out, HE2.out, HE1.out, HE0.out]; rfl)
  have HXn : Hid (decX T = rText T S5.2) := (by show _ = _; unfold decX; rw [HSn.out])
  have HLn : Hid (decL T = ([], (rText T S5.2).2)) := (by show _ = _; unfold decL; rw [if_neg (by rw [HKT.out]; decide), HXn.out])
  have HX1 : Hid ((rText T S5.2).1.length ≤ ct ∧ ct ≤ 9223372036854775807 ∧ (rText T S5.2).1.length ≤ 16384 ∧ w5.heap.size ≤ gt) := ⟨ht1, ht2, rText_max _ _, by omega⟩
  have hend := rend_any (fun b => w.heap.size ≤ b) (y5.setCell ⟨pb, 18, none⟩ (.slice (some ⟨gt, 0, none⟩) (rText T S5.2).1.length ct)) m _ _ HDf.out.rd
  simp only [drop_left] at hend
  clear hw ht1 ht2 hgt hd hm hsn hpb HG5 HT5
  by_cases hf : ((rText T S5.2).2.2 || decide ((rText T S5.2).2.1 < T.length)) = true
  · rw [hf] at hend
    have HEND := Lib.hid hend
    have HDN : Hid (dec l = none) := (by show dec l = none; rw [HF.out]; unfold decT; rw [if_pos (by rw [HKT.out]; decide), HLn.out, if_pos hf])
    clear hend hf
    go_wp2_with fail
    refine HEND.out.mono ?_
    rintro e w8 ⟨rfl, hm8⟩
    have HG8 := Lib.hid (HGf.out.mod hm8 fun e => by have := HPB.out; omega)
    have HT8 := Lib.hid (HTf.out.trans (hm8.to_below HTf.out.size fun b hb e => by have := HPB.out; omega))
    clear hm8 cN fN
    go_wp2_with (refine wpList_build_pk0 ?_; refine Hid.out ?_)
    refine Lib.hid ?_
    go_wp2_with (refine wpList_store_blk rfl rfl rfl rfl HG8.out rfl info_pk zPk_oneL ?_; rintro wz hBz hmz; refine Hid.out ?_)
    refine Lib.hid ?_
    go_wp2_with fail
    refine bodyPost_ret (v := .tuple #[.agg zPk, .int .i64 2]) (results_blk_tmp Tryd.results9 _ hBz rfl Tryd.underlying44 rfl info_pk rfl) rfl ?_
    exact ⟨ddec_none HDN.out, HT8.out.trans (hmz.to_below HT8.out.size fun b hb e => by have := HGL.out.1; omega)⟩
  · have hff : ((rText T S5.2).2.2 || decide ((rText T S5.2).2.1 < T.length)) = false := by simpa using hf
    rw [hff] at hend
    have HEND := Lib.hid hend
    have HDN : Hid (dec l = some (readPk S5.1 18 (rText T S5.2).1 [])) := (by show dec l = _; rw [HF.out]; unfold decT; rw [if_pos (by rw [HKT.out]; decide), HLn.out, if_neg hf, HSn.out, HXn.out, HKT.out]; rfl)
    clear hend hf hff
    go_wp2_with fail
    refine HEND.out.mono ?_
    rintro e w8 ⟨rfl, hm8⟩
    have HG8 := Lib.hid (HGf.out.mod hm8 fun e => by have := HPB.out; omega)
    have HT8 := Lib.hid (HTf.out.trans (hm8.to_below HTf.out.size fun b hb e => by have := HPB.out; omega))
    have HB8 := Lib.hid (HDf.out.pk.mod hm8 fun e => by have := HPB.out; omega)
    have HW8 := Lib.hid (HWf.out.mod hm8 fun e => by have := HPB.out; have := HX1.out; omega)
    have HV8 : Hid (PkV w8 (S5.1.setIfInBounds 18 (.slice (some ⟨gt, 0, none⟩) (rText T S5.2).1.length ct)) (readPk S5.1 18 (rText T S5.2).1 [])) := HGd5.out.pkv (by decide) HW8.out.bytes HX1.out.1 HX1.out.2.1 (Nat.le_trans HX1.out.2.2.1 (by decide))
    have HZ8 := Lib.hid HV8.out.size
    clear hm8 cN fN
    go_wp2_with (refine wpList_load_blk rfl (ty := 44) rfl rfl HB8.out Tryd.underlying44 rfl (pk_size HZ8.out) ?_; refine Hid.out ?_)
    refine Lib.hid ?_
    go_wp2_with (refine wpList_store_blk rfl rfl rfl rfl HG8.out (by rw [HZ8.out]; rfl) (pk_size HZ8.out) HV8.out.one ?_; rintro w9 hB9 hm9; refine Hid.out ?_)
    refine Lib.hid ?_
    go_wp2_with fail
    refine bodyPost_ret (v := .tuple #[.agg (S5.1.setIfInBounds 18 (.slice (some ⟨gt, 0, none⟩) (rText T S5.2).1.length ct)), .int .i64 0]) (results_blk_tmp Tryd.results9 _ hB9 rfl Tryd.underlying44 rfl (pk_size HZ8.out) rfl) rfl ?_
    have hpb := HPB.out
    have hx1 := HX1.out
    have hw9 : WRow w9 gt (rText T S5.2).1 := HW8.out.mod hm9 fun e => by omega
    exact ⟨by unfold DDec; rw [HDN.out]; exact ⟨_, rfl, HGd5.out.pkv (by decide) hw9.bytes hx1.1 hx1.2.1 (Nat.le_trans hx1.2.2.1 (by decide))⟩, HT8.out.trans (hm9.to_below HT8.out.size fun b hb e => by have := HGL.out.1; omega)⟩
end Go.Proofs.YtdckdjkkaangmaaDoor
