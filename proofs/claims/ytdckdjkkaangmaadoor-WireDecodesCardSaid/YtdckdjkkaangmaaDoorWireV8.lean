/- The document's Decode: no kind. -/
import Derived.Test.YtdckdjkkaangmaaDoorJK
namespace Go.Proofs.YtdckdjkkaangmaaDoor
set_option linter.unusedVariables false
set_option linter.unusedSimpArgs false
set_option maxRecDepth 100000
open Go.RowKit

set_option maxRecDepth 100000 in
set_option maxHeartbeats 16000000 in
theorem ddec_nokind (A : Option Addr) (cap : Nat) (l : List UInt8) (w : World) (hp : Bytes w A l) (hn : l.length ≤ 1000000) (hc1 : l.length ≤ cap) {c0 : UInt8} {t : List UInt8} (ho : Crc.opened l = some (c0 :: t)) (hbig : ¬ 16384 < l.length) (hk : ¬ (1 ≤ c0.toNat ∧ c0.toNat ≤ 6)) :
    Calls Tryd.prog 9 #[.slice A l.length cap] w fun e w' => DDec l e w' ∧ Below w.heap.size w w' := by
  have HF := Lib.hid (dec_fin ho hbig)
  have HO := Lib.hid ho
  have hgt : decide ((16384 : Int) < (l.length : Int)) = false := decide_eq_false (by omega)
  have HKD : Hid (decK (c0 :: t) = c0.toNat) := decK_head c0 t
  have HKK := Lib.hid hk
  clear ho hbig hk
  go_enter Tryd.func9, Tryd.ntmps9
  go_wp2_with (refine wpList_alloc_blk rfl rfl zero_pk ?_; rintro g w0 hg hB0 hb0; refine Hid.out ?_)
  refine Lib.hid ?_
  go_wp2_with fail
  refine (refopen_any A cap l w0 (hp.below hb0) hn hc1).mono ?_
  rintro e w1 ⟨hop, hb1⟩
  rw [HO.out] at hop
  have HG1 := Lib.hid (hB0.below hb1 hB0.lt)
  have HT1 := Lib.hid (below_call hb0 hb0.size hb1)
  have HGL : Hid (w.heap.size = g ∧ g < w1.heap.size) := ⟨hg, by have := hB0.lt; have := hb1.size; omega⟩
  have HW0 : Hid (w.heap.size ≤ w0.heap.size) := hb0.size
  clear hB0 hb0 hb1 hg hp
  obtain ⟨v, rfl, hown⟩ := hop
  obtain ⟨gi, c1, rfl, hgi, hl1, hl2⟩ := own_ptr hown (by simp)
  have hA1 : Bytes w1 (some ⟨gi, 0, none⟩) (c0 :: t) := own_bytes hown
  have hx0 : w1.cell? ⟨gi, 0, none⟩ = some (.int .u8 (c0.toNat : Int)) := by
    obtain ⟨b, o, e, _, hc⟩ := hA1.flat (by simp)
    injection e with e
    injection e with e1 e2
    subst e1 e2
    have h := hc 0 (by simp)
    simpa using h
  have hgl := (own_call hown (Below.refl _ _)).lt gi rfl
  have hlen : (c0 :: t).length = t.length + 1 := rfl
  have HLN : Hid ((c0 :: t).length ≤ 1000000 ∧ (c0 :: t).length ≤ l.length) := ⟨by have := opened_len HO.out; omega, opened_len HO.out⟩
  have hm1 : Bytes w1 (some ⟨gi, 1, none⟩) t := by
    refine ⟨by simp, fun h0 => ⟨_, rfl, hgl.2, fun j u hu => ?_⟩⟩
    obtain ⟨b, o, e, _, hc⟩ := hA1.flat (by simp)
    injection e with e
    injection e with e1 e2
    subst e1 e2
    have hj : j < t.length := by
      have := (List.getElem?_eq_some_iff.1 hu).1
      simpa using this
    have h := hc (j + 1) (by simp; omega)
    rw [add_flat, show 1 + j = 0 + (j + 1) by omega, h, ← hu, List.getElem?_map, List.getElem?_eq_getElem hj]
    rfl
  have HM1 := Lib.hid hm1
  have HGI : Hid (w.heap.size ≤ gi ∧ gi < w1.heap.size ∧ t.length + 1 ≤ c1 ∧ c1 ≤ 9223372036854775807) := ⟨Nat.le_trans HW0.out hgl.1, hgl.2, by simpa using hl1, by simpa [maxLen] using hl2⟩
  have hkw : IntKind.i64.wrap (c0.toNat : Int) = (c0.toNat : Int) := by have := c0.toNat_lt; rw [IntKind.wrap_i64]; omega
  rw [hlen] at *
  clear hown hA1 hgi hgl hl1 hl2 hm1
  have hx0' : ∀ o, (w1.alloc o).cell? ⟨gi, 0, none⟩ = some (.int .u8 (c0.toNat : Int)) := fun o => ((below_new w1 o).cell (p := ⟨gi, 0, none⟩) HGI.out.2.1).trans hx0
  clear hx0
  go_wp2_with (refine wpList_slice1 rfl rfl rfl HGI.out.2.2.1 Tryd.underlying22 size_u8 ?_; intro A2 c2 hac; refine Hid.out ?_)
  refine Lib.hid ?_
  have HR2 : Hid (Bytes w1 A2 t ∧ t.length ≤ c2 ∧ c2 ≤ 9223372036854775807 ∧ ∀ ad, A2 = some ad → ad.block = gi) := by
    have h1 := HGI.out.2.2
    rcases hac with ⟨h2, rfl, rfl⟩ | ⟨h2, rfl, rfl⟩
    · have ht : t = [] := List.eq_nil_of_length_eq_zero (by omega)
      subst ht
      exact ⟨Bytes.nil_ _ _, Nat.le_refl _, by omega, fun ad e => by injection e with e; rw [← e]⟩
    · exact ⟨HM1.out, by omega, by omega, fun ad e => by injection e with e; rw [← e]⟩
  clear hac
  go_wp2_with (refine wpList_build_pk (k := (c0.toNat : Int)) rfl ?_; refine Hid.out ?_)
  refine Lib.hid ?_
  have HRF : Hid (Rf (fun b => w.heap.size ≤ b) (w1.alloc (.cells #[.slice A2 t.length c2, .bool false] 71)) w1.heap.size t false) := by
    refine ⟨A2, c2, Blk.new _ _ _, HR2.out.1.below (below_new _ _), HR2.out.2.1, HR2.out.2.2.1, by have := HGI.out; show w.heap.size ≤ w1.heap.size; omega, fun ad e _ => ?_⟩
    have h := HR2.out.2.2.2 ad e
    have := HGI.out
    exact ⟨by show w.heap.size ≤ ad.block; omega, by omega⟩
  have HT2 : Hid (Below w.heap.size w (w1.alloc (.cells #[.slice A2 t.length c2, .bool false] 71))) := HT1.out.alloc (by have := HGI.out; omega) _
  have HG2 := Lib.hid (HG1.out.alloc (.cells #[.slice A2 t.length c2, .bool false] 71))
  have HS2 : Hid ((w1.alloc (.cells #[.slice A2 t.length c2, .bool false] 71)).heap.size = w1.heap.size + 1) := (by show _ = _; simp)
  go_wp2_with (refine wpList_alloc_blk rfl rfl zero_pk ?_; rintro pb w4 hpb hB4 hb4; refine Hid.out ?_)
  refine Lib.hid ?_
  clear hx0'
  generalize w1.alloc (.cells #[.slice A2 t.length c2, .bool false] 71) = w2 at *
  have HML : Hid (g < w1.heap.size ∧ w.heap.size ≤ w1.heap.size) := ⟨HGL.out.2, by have := HGI.out; omega⟩
  generalize w1.heap.size = m at *
  have hdc : decC (c0 :: t) = zPk.setIfInBounds 0 (.int .i64 (c0.toNat : Int)) := by unfold decC; rw [HKD.out]
  have hz0 : (zPk.setIfInBounds 0 (.int .i64 (c0.toNat : Int))).size = 56 := by rw [Array.size_setIfInBounds]; rfl
  go_wp2_with (refine wpList_store_blk rfl rfl rfl rfl hB4 (by rw [hz0]; rfl) (pk_size hz0) (by rw [← hdc]; exact decC_one _) ?_; rintro w5 hB5 hm5; refine Hid.out ?_)
  refine Lib.hid ?_
  have hs4 := hb4.size
  have hs5 := hm5.size
  have hb5 : Below w2.heap.size w2 w5 := hb4.trans (hm5.to_below hs4 fun b hb e => by omega)
  rw [← hdc] at hB5
  have HD0 : Hid (DSt w5 (fun b => w.heap.size ≤ b) m pb (c0 :: t) (dec0 (c0 :: t))) := by
    have h1 := HS2.out
    have h2 := HT2.out.size
    rw [dec0_head]
    exact ⟨HRF.out.below hb5, hB5, by omega, fun k hk => by show w.heap.size ≤ k; omega, (decC_good _).nou8⟩
  have HGd0 : Hid (Good (dec0 (c0 :: t)).1) := decC_good _
  have HG5 := Lib.hid (HG2.out.below hb5 HG2.out.lt)
  have HT5 := Lib.hid (below_call HT2.out HT2.out.size hb5)
  have HPB : Hid (m < pb ∧ g < pb ∧ w.heap.size ≤ m ∧ g ≠ m ∧ pb < w5.heap.size) := (by have h1 := HS2.out; have h2 := HML.out; have h3 := hB5.lt; exact ⟨by omega, by omega, by omega, by omega, h3⟩)
  have HTL : Hid ((c0 :: t).length ≤ 1000000) := (by have h := HLN.out.1; show _ ≤ _; simp only [List.length_cons] at h ⊢; omega)
  have kc0 := hB5.cell 0
  rw [decC_kind, HKD.out] at kc0
  have k1 : decide ((c0.toNat : Int) = 1) = false := decide_eq_false (by have := HKK.out; omega)
  have k2 : decide ((c0.toNat : Int) = 2) = false := decide_eq_false (by have := HKK.out; omega)
  have k3 : decide ((c0.toNat : Int) = 3) = false := decide_eq_false (by have := HKK.out; omega)
  have k4 : decide ((c0.toNat : Int) = 4) = false := decide_eq_false (by have := HKK.out; omega)
  have k5 : decide ((c0.toNat : Int) = 5) = false := decide_eq_false (by have := HKK.out; omega)
  have k6 : decide ((c0.toNat : Int) = 6) = false := decide_eq_false (by have := HKK.out; omega)
  have b1 : ((c0.toNat : Int) == 1) = false := beq_eq_false_iff_ne.2 (of_decide_eq_false k1)
  have b2 : ((c0.toNat : Int) == 2) = false := beq_eq_false_iff_ne.2 (of_decide_eq_false k2)
  have b3 : ((c0.toNat : Int) == 3) = false := beq_eq_false_iff_ne.2 (of_decide_eq_false k3)
  have b4 : ((c0.toNat : Int) == 4) = false := beq_eq_false_iff_ne.2 (of_decide_eq_false k4)
  have b5 : ((c0.toNat : Int) == 5) = false := beq_eq_false_iff_ne.2 (of_decide_eq_false k5)
  have b6 : ((c0.toNat : Int) == 6) = false := beq_eq_false_iff_ne.2 (of_decide_eq_false k6)
  have HDN : Hid (dec l = none) := (by show dec l = none; rw [HF.out]; unfold decT; rw [if_neg (by rw [HKD.out]; exact HKK.out)])
  clear HRF hB4 hB5 hb4 hm5 hs4 hs5 hb5 hdc hz0 hpb hkw HM1 HR2 HGI hc1 hn hgt hlen HD0 HGd0 HPB HTL
  go_wp2_with (refine wpList_build_pk0 ?_; refine Hid.out ?_)
  refine Lib.hid ?_
  go_wp2_with (refine wpList_store_blk rfl rfl rfl rfl HG5.out rfl info_pk zPk_oneL ?_; rintro wz hBz hmz; refine Hid.out ?_)
  refine Lib.hid ?_
  go_wp2_with fail
  refine bodyPost_ret (v := .tuple #[.agg zPk, .int .i64 2]) (results_blk_tmp Tryd.results9 _ hBz rfl Tryd.underlying44 rfl info_pk rfl) rfl ?_
  exact ⟨ddec_none HDN.out, HT5.out.trans (hmz.to_below HT5.out.size fun b hb e => by have := HGL.out.1; omega)⟩
end Go.Proofs.YtdckdjkkaangmaaDoor
