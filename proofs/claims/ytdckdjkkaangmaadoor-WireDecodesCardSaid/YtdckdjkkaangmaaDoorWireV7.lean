/- The document's Decode: kind 3. -/
import Derived.Test.YtdckdjkkaangmaaDoorJK
import Derived.Test.YtdckdjkkaangmaaDoorJF
namespace Go.Proofs.YtdckdjkkaangmaaDoor
set_option linter.unusedVariables false
set_option linter.unusedSimpArgs false
set_option maxRecDepth 100000
open Go.RowKit

theorem Rf.step {S : Nat → Prop} {base base' : Nat → Prop} {w w' : World} {m : Nat} {xs : List UInt8} {f : Bool} (h : Rf base w m xs f) (hm : Mod S w w') (hS : ∀ k, base k → k < w.heap.size → ¬ S k ∧ base' k) : Rf base' w' m xs f := by
  have h' := h.mod hm fun k h1 h2 => (hS k h1 h2).1
  obtain ⟨A, c, h1, h2, h3, h4, h5, h6⟩ := h
  obtain ⟨A', c', k1, k2, k3, k4, k5, k6⟩ := h'
  have e := (h1.mod hm (hS m h5 h1.lt).1).cell 0
  rw [k1.cell 0] at e
  simp only [List.getElem?_toArray, List.getElem?_cons_zero, Option.some.injEq, Value.slice.injEq] at e
  obtain ⟨rfl, _, rfl⟩ := e
  refine ⟨A', c', k1, k2, k3, k4, (hS m h5 h1.lt).2, fun ad ea h0 => ⟨(hS _ (h6 ad ea h0).1 ?_).2, (h6 ad ea h0).2⟩⟩
  obtain ⟨b, o, e2, hb, _⟩ := h2.flat h0
  rw [ea] at e2
  injection e2 with e2
  subst e2
  exact hb
theorem DSt.step {S : Nat → Prop} {base base' : Nat → Prop} {w w' : World} {m pb : Nat} {t : List UInt8} {X : RS} (h : DSt w base m pb t X) (hm : Mod S w w') (hS : ∀ k, base k → k < w.heap.size → ¬ S k ∧ base' k) (hp : ¬ S pb) (hb : ∀ k, w'.heap.size ≤ k → base' k) : DSt w' base' m pb t X :=
  ⟨h.rd.step hm hS, h.pk.mod hm hp, h.ne, hb, h.no⟩
theorem own_base {w : World} {b b' : Nat} {e : TypeId} {size n : Nat} {v : Value} {xs : List Value} (h : w.ownsRow b e size v n xs) (hb : b' ≤ b) : w.ownsRow b' e size v n xs := by
  refine ⟨h.1, ?_⟩
  rcases h.2 with h2 | ⟨g, cap, cur, hv, hg, r⟩
  · exact .inl h2
  · exact .inr ⟨g, cap, cur, hv, by omega, r⟩
/-- The document's reader, a list on its way at work. -/
def LSt (wr : World) (B m pb : Nat) (t : List UInt8) (cs : Array Value) (k : Nat) (A : Option Addr) (c : Nat) (q : List Nat × (Nat × Bool)) : Prop :=
  ∃ base : Nat → Prop, wr.ownsRow B 24 1 (.slice A k c) k (q.1.map u64v) ∧ DSt wr base m pb t (cs.setIfInBounds 28 (.slice A k c), q.2) ∧ (∀ g, (Value.slice A k c).ownBlock = some g → ¬ base g)
theorem LSt.step {w3 w4 : World} {base : Nat → Prop} {B m pb k c c4 x : Nat} {A A4 : Option Addr} {t : List UInt8} {cs : Array Value} {qs : List Nat} {qt : Nat × Bool} {o : Obj}
    (hap : ∀ g, (Value.slice A k c).ownBlock = some g → ¬ base g ∧ g ≠ pb)
    (hd : DSt w3 base m pb t (cs.setIfInBounds 28 (.slice A k c), qt)) (ho : w4.ownsRow B 24 1 (.slice A4 (k + 1) c4) (k + 1) (qs.map u64v ++ [.int .u64 (x : Int)]))
    (hg : (w3.alloc o).grownBy w4 (Value.slice A k c).ownBlock) (hv : (Value.slice A4 (k + 1) c4).ownBlock = (Value.slice A k c).ownBlock ∨ (Value.slice A4 (k + 1) c4).ownBlock = some (w3.alloc o).heap.size) (hB : pb < B) :
    LSt (w4.setCell ⟨pb, 28, none⟩ (.slice A4 (k + 1) c4)) B m pb t cs (k + 1) A4 c4 (qs ++ [x], qt) := by
  have hal := hd.below (below_new w3 o)
  have hd4 : DSt w4 (fun b => base b ∧ (Value.slice A4 (k + 1) c4).ownBlock ≠ some b) m pb t (cs.setIfInBounds 28 (.slice A k c), qt) := by
    refine hal.step (Mod.grown (S := fun b => (Value.slice A k c).ownBlock = some b) hg fun g e _ => e) (fun b hb hlt => ⟨fun e => (hap b e).1 hb, hb, fun e => ?_⟩) (fun e => (hap pb e).2 rfl) fun b hb => ⟨hal.bs b (Nat.le_trans hg.size hb), fun e => ?_⟩
    · rcases hv with hv | hv
      · rw [hv] at e
        exact (hap b e).1 hb
      · rw [hv] at e
        injection e with e
        omega
    · have := (ho.lt b e).2
      omega
  have hM : Mod (fun b => b = pb) w4 (w4.setCell ⟨pb, 28, none⟩ (.slice A4 (k + 1) c4)) := Mod.set (S := fun b => b = pb) (Mod.refl _ _) (p := ⟨pb, 28, none⟩) (fun _ => rfl) _
  refine ⟨fun b => base b ∧ (Value.slice A4 (k + 1) c4).ownBlock ≠ some b, ?_, ?_, fun g e h => h.2 e⟩
  · rw [List.map_append]
    exact own_stay ho hM.size fun g e => Below.heap_setCell w4 ⟨pb, 28, none⟩ _ g fun e' => by have := (ho.lt g e).1; have e'' : g = pb := e'; omega
  · have := DSt.put hd4.rd hd4.pk hd4.ne hd4.bs hd4.no 28 _ (hd4.no.slice 28 A4 (k + 1) c4)
    rw [set_set] at this
    exact this
set_option maxRecDepth 100000 in
set_option maxHeartbeats 16000000 in
theorem ddec_req (A : Option Addr) (cap : Nat) (l : List UInt8) (w : World) (hp : Bytes w A l) (hn : l.length ≤ 1000000) (hc1 : l.length ≤ cap) {c0 : UInt8} {t : List UInt8} (ho : Crc.opened l = some (c0 :: t)) (hbig : ¬ 16384 < l.length) (hk : c0.toNat = 3) :
    Calls Tryd.prog 9 #[.slice A l.length cap] w fun e w' => DDec l e w' ∧ Below w.heap.size w w' := by
  have HF := Lib.hid (dec_fin ho hbig)
  have HO := Lib.hid ho
  have hgt : decide ((16384 : Int) < (l.length : Int)) = false := decide_eq_false (by omega)
  have HKD : Hid (decK (c0 :: t) = c0.toNat) := decK_head c0 t
  have HKK := Lib.hid hk
  clear ho hbig hk
  go_enter Tryd.func9, Tryd.ntmps9
  go_wp2_with (refine wpList_alloc_blk rfl rfl zero_pk ?_; rintro g w0 hg hB0 hb0; refine Hid.out ?_)
  refine Lib.hid ?_
  go_wp2_with fail
  refine (refopen_any A cap l w0 (hp.below hb0) hn hc1).mono ?_
  rintro e w1 ⟨hop, hb1⟩
  rw [HO.out] at hop
  have HG1 := Lib.hid (hB0.below hb1 hB0.lt)
  have HT1 := Lib.hid (below_call hb0 hb0.size hb1)
  have HGL : Hid (w.heap.size = g ∧ g < w1.heap.size) := ⟨hg, by have := hB0.lt; have := hb1.size; omega⟩
  have HW0 : Hid (w.heap.size ≤ w0.heap.size) := hb0.size
  clear hB0 hb0 hb1 hg hp
  obtain ⟨v, rfl, hown⟩ := hop
  obtain ⟨gi, c1, rfl, hgi, hl1, hl2⟩ := own_ptr hown (by simp)
  have hA1 : Bytes w1 (some ⟨gi, 0, none⟩) (c0 :: t) := own_bytes hown
  have hx0 : w1.cell? ⟨gi, 0, none⟩ = some (.int .u8 (c0.toNat : Int)) := by
    obtain ⟨b, o, e, _, hc⟩ := hA1.flat (by simp)
    injection e with e
    injection e with e1 e2
    subst e1 e2
    have h := hc 0 (by simp)
    simpa using h
  have hgl := (own_call hown (Below.refl _ _)).lt gi rfl
  have hlen : (c0 :: t).length = t.length + 1 := rfl
  have HLN : Hid ((c0 :: t).length ≤ 1000000 ∧ (c0 :: t).length ≤ l.length) := ⟨by have := opened_len HO.out; omega, opened_len HO.out⟩
  have hm1 : Bytes w1 (some ⟨gi, 1, none⟩) t := by
    refine ⟨by simp, fun h0 => ⟨_, rfl, hgl.2, fun j u hu => ?_⟩⟩
    obtain ⟨b, o, e, _, hc⟩ := hA1.flat (by simp)
    injection e with e
    injection e with e1 e2
    subst e1 e2
    have hj : j < t.length := by
      have := (List.getElem?_eq_some_iff.1 hu).1
      simpa using this
    have h := hc (j + 1) (by simp; omega)
    rw [add_flat, show 1 + j = 0 + (j + 1) by omega, h, ← hu, List.getElem?_map, List.getElem?_eq_getElem hj]
    rfl
  have HM1 := Lib.hid hm1
  have HGI : Hid (w.heap.size ≤ gi ∧ gi < w1.heap.size ∧ t.length + 1 ≤ c1 ∧ c1 ≤ 9223372036854775807) := ⟨Nat.le_trans HW0.out hgl.1, hgl.2, by simpa using hl1, by simpa [maxLen] using hl2⟩
  have hkw : IntKind.i64.wrap (c0.toNat : Int) = (c0.toNat : Int) := by have := c0.toNat_lt; rw [IntKind.wrap_i64]; omega
  rw [hlen] at *
  clear hown hA1 hgi hgl hl1 hl2 hm1
  have hx0' : ∀ o, (w1.alloc o).cell? ⟨gi, 0, none⟩ = some (.int .u8 (c0.toNat : Int)) := fun o => ((below_new w1 o).cell (p := ⟨gi, 0, none⟩) HGI.out.2.1).trans hx0
  clear hx0
  go_wp2_with (refine wpList_slice1 rfl rfl rfl HGI.out.2.2.1 Tryd.underlying22 size_u8 ?_; intro A2 c2 hac; refine Hid.out ?_)
  refine Lib.hid ?_
  have HR2 : Hid (Bytes w1 A2 t ∧ t.length ≤ c2 ∧ c2 ≤ 9223372036854775807 ∧ ∀ ad, A2 = some ad → ad.block = gi) := by
    have h1 := HGI.out.2.2
    rcases hac with ⟨h2, rfl, rfl⟩ | ⟨h2, rfl, rfl⟩
    · have ht : t = [] := List.eq_nil_of_length_eq_zero (by omega)
      subst ht
      exact ⟨Bytes.nil_ _ _, Nat.le_refl _, by omega, fun ad e => by injection e with e; rw [← e]⟩
    · exact ⟨HM1.out, by omega, by omega, fun ad e => by injection e with e; rw [← e]⟩
  clear hac
  go_wp2_with (refine wpList_build_pk (k := (c0.toNat : Int)) rfl ?_; refine Hid.out ?_)
  refine Lib.hid ?_
  have HRF : Hid (Rf (fun b => w.heap.size ≤ b) (w1.alloc (.cells #[.slice A2 t.length c2, .bool false] 71)) w1.heap.size t false) := by
    refine ⟨A2, c2, Blk.new _ _ _, HR2.out.1.below (below_new _ _), HR2.out.2.1, HR2.out.2.2.1, by have := HGI.out; show w.heap.size ≤ w1.heap.size; omega, fun ad e _ => ?_⟩
    have h := HR2.out.2.2.2 ad e
    have := HGI.out
    exact ⟨by show w.heap.size ≤ ad.block; omega, by omega⟩
  have HT2 : Hid (Below w.heap.size w (w1.alloc (.cells #[.slice A2 t.length c2, .bool false] 71))) := HT1.out.alloc (by have := HGI.out; omega) _
  have HG2 := Lib.hid (HG1.out.alloc (.cells #[.slice A2 t.length c2, .bool false] 71))
  have HS2 : Hid ((w1.alloc (.cells #[.slice A2 t.length c2, .bool false] 71)).heap.size = w1.heap.size + 1) := (by show _ = _; simp)
  go_wp2_with (refine wpList_alloc_blk rfl rfl zero_pk ?_; rintro pb w4 hpb hB4 hb4; refine Hid.out ?_)
  refine Lib.hid ?_
  clear hx0'
  generalize w1.alloc (.cells #[.slice A2 t.length c2, .bool false] 71) = w2 at *
  have HML : Hid (g < w1.heap.size ∧ w.heap.size ≤ w1.heap.size) := ⟨HGL.out.2, by have := HGI.out; omega⟩
  generalize w1.heap.size = m at *
  have hdc : decC (c0 :: t) = zPk.setIfInBounds 0 (.int .i64 (c0.toNat : Int)) := by unfold decC; rw [HKD.out]
  have hz0 : (zPk.setIfInBounds 0 (.int .i64 (c0.toNat : Int))).size = 56 := by rw [Array.size_setIfInBounds]; rfl
  go_wp2_with (refine wpList_store_blk rfl rfl rfl rfl hB4 (by rw [hz0]; rfl) (pk_size hz0) (by rw [← hdc]; exact decC_one _) ?_; rintro w5 hB5 hm5; refine Hid.out ?_)
  refine Lib.hid ?_
  have hs4 := hb4.size
  have hs5 := hm5.size
  have hb5 : Below w2.heap.size w2 w5 := hb4.trans (hm5.to_below hs4 fun b hb e => by omega)
  rw [← hdc] at hB5
  have HD0 : Hid (DSt w5 (fun b => w.heap.size ≤ b) m pb (c0 :: t) (dec0 (c0 :: t))) := by
    have h1 := HS2.out
    have h2 := HT2.out.size
    rw [dec0_head]
    exact ⟨HRF.out.below hb5, hB5, by omega, fun k hk => by show w.heap.size ≤ k; omega, (decC_good _).nou8⟩
  have HGd0 : Hid (Good (dec0 (c0 :: t)).1) := decC_good _
  have HG5 := Lib.hid (HG2.out.below hb5 HG2.out.lt)
  have HT5 := Lib.hid (below_call HT2.out HT2.out.size hb5)
  have HPB : Hid (m < pb ∧ g < pb ∧ w.heap.size ≤ m ∧ g ≠ m ∧ pb < w5.heap.size) := (by have h1 := HS2.out; have h2 := HML.out; have h3 := hB5.lt; exact ⟨by omega, by omega, by omega, by omega, h3⟩)
  have HTL : Hid ((c0 :: t).length ≤ 1000000) := (by have h := HLN.out.1; show _ ≤ _; simp only [List.length_cons] at h ⊢; omega)
  have kc0 := hB5.cell 0
  rw [decC_kind, HKD.out] at kc0
  have hkk : (c0.toNat : Int) = 3 := by have := HKK.out; omega
  clear HRF hB4 hB5 hb4 hm5 hs4 hs5 hb5 hdc hz0 hpb hkw HM1 HR2 HGI hc1 hn hgt hlen
  have HM0 : Hid (Mod (fun b => b = m ∨ b = pb) w5 w5) := Mod.refl _ _
  obtain ⟨T, hT⟩ : ∃ T, T = c0 :: t := ⟨_, rfl⟩
  rw [← hT] at HD0 HGd0 HTL HKD HF HO
  obtain ⟨S0, hS0⟩ : ∃ S, S = dec0 T := ⟨_, rfl⟩
  rw [← hS0] at HD0 HGd0
  have HE0 := Lib.hid hS0
  have HKT : Hid (decK T = 3) := (by show _ = _; rw [HKD.out]; exact HKK.out)
  clear hS0 hT
  have HC := Lib.hid (dplace_any HD0.out HTL.out)
  go_wp2_with fail
  refine HC.out.mono ?_
  rintro e y0 ⟨rfl, hd, hm⟩
  clear HC kc0
  have hth : y0.there pb 19 2 := hd.pk.there (by show 19 + 2 ≤ S0.1.size; rw [HGd0.out.size]; omega)
  go_wp2_with (refine wpList_store_rg rfl (ty := 32) rfl rfl (vs := [.int .i64 ((rInt T S0.2).1 : Int), .int .u64 ((rUint T (rInt T S0.2).2).1 : Int)]) rfl hth info_pla (by intro v hv; simp only [List.mem_cons, List.not_mem_nil, or_false] at hv; rcases hv with rfl | rfl <;> rfl) ?_; refine Hid.out ?_)
  refine Lib.hid ?_
  have HGd1 : Hid (Good (fPl T S0 19).1) := HGd0.out.fPl (by decide) (by decide)
  have HD1 : Hid (DSt (y0.setCells pb 19 [.int .i64 ((rInt T S0.2).1 : Int), .int .u64 ((rUint T (rInt T S0.2).2).1 : Int)]) (fun b => w.heap.size ≤ b) m pb T (fPl T S0 19)) := DSt.put2 hd 19 _ _
  have HM1 : Hid (Mod (fun b => b = m ∨ b = pb) w5 (y0.setCells pb 19 [.int .i64 ((rInt T S0.2).1 : Int), .int .u64 ((rUint T (rInt T S0.2).2).1 : Int)])) := (HM0.out.trans (hm.mono fun b _ e => .inl e)).trans ((mod_setCells _ _ _).mono fun b _ e => .inr e)
  clear hth
  obtain ⟨S1, hS⟩ : ∃ S, S = fPl T S0 19 := ⟨_, rfl⟩
  rw [← hS] at HD1 HGd1
  have HE1 := Lib.hid hS
  clear hS hd hm HD0 HGd0 HM0
  have HC := Lib.hid (dsmall_any HD1.out HTL.out)
  go_wp2_with fail
  refine HC.out.mono ?_
  rintro e y1 ⟨rfl, hd, hm⟩
  clear HC
  have cN1 := hd.pk.cell 21
  rw [Array.getElem?_eq_getElem (by show 21 < S1.1.size; rw [HGd1.out.size]; omega)] at cN1
  generalize S1.1[21]'_ = u1 at cN1
  have fN1 := hd.pk.free 21
  have HGd2 : Hid (Good (fInt T S1 21).1) := HGd1.out.fInt (by decide)
  have HD2 : Hid (DSt (y1.setCell ⟨pb, 21, none⟩ (.int .i64 ((rInt T S1.2).1 : Int))) (fun b => w.heap.size ≤ b) m pb T (fInt T S1 21)) := DSt.put hd.rd hd.pk hd.ne hd.bs hd.no 21 _ HGd2.out.nou8
  have HM2 : Hid (Mod (fun b => b = m ∨ b = pb) w5 (y1.setCell ⟨pb, 21, none⟩ (.int .i64 ((rInt T S1.2).1 : Int)))) := (HM1.out.trans (hm.mono fun b _ e => .inl e)).set (p := ⟨pb, 21, none⟩) (fun _ => .inr rfl) _
  obtain ⟨S2, hS⟩ : ∃ S, S = fInt T S1 21 := ⟨_, rfl⟩
  rw [← hS] at HD2 HGd2
  have HE2 := Lib.hid hS
  clear hS hd hm HD1 HGd1 HM1
  have HC := Lib.hid (duint_any HD2.out HTL.out)
  go_wp2_with fail
  refine HC.out.mono ?_
  rintro e y2 ⟨rfl, hd, hm⟩
  clear HC cN1 fN1
  have cN2 := hd.pk.cell 22
  rw [Array.getElem?_eq_getElem (by show 22 < S2.1.size; rw [HGd2.out.size]; omega)] at cN2
  generalize S2.1[22]'_ = u2 at cN2
  have fN2 := hd.pk.free 22
  have HGd3 : Hid (Good (fNum T S2 22).1) := HGd2.out.fNum (by decide)
  have HD3 : Hid (DSt (y2.setCell ⟨pb, 22, none⟩ (.int .u64 ((rUint T S2.2).1 : Int))) (fun b => w.heap.size ≤ b) m pb T (fNum T S2 22)) := DSt.put hd.rd hd.pk hd.ne hd.bs hd.no 22 _ HGd3.out.nou8
  have HM3 : Hid (Mod (fun b => b = m ∨ b = pb) w5 (y2.setCell ⟨pb, 22, none⟩ (.int .u64 ((rUint T S2.2).1 : Int)))) := (HM2.out.trans (hm.mono fun b _ e => .inl e)).set (p := ⟨pb, 22, none⟩) (fun _ => .inr rfl) _
  obtain ⟨S3, hS⟩ : ∃ S, S = fNum T S2 22 := ⟨_, rfl⟩
  rw [← hS] at HD3 HGd3
  have HE3 := Lib.hid hS
  clear hS hd hm HD2 HGd2 HM2
  have HC := Lib.hid (duint_any HD3.out HTL.out)
  go_wp2_with fail
  refine HC.out.mono ?_
  rintro e y3 ⟨rfl, hd, hm⟩
  clear HC cN2 fN2
  have cN3 := hd.pk.cell 23
  rw [Array.getElem?_eq_getElem (by show 23 < S3.1.size; rw [HGd3.out.size]; omega)] at cN3
  generalize S3.1[23]'_ = u3 at cN3
  have fN3 := hd.pk.free 23
  have HGd4 : Hid (Good (fNum T S3 23).1) := HGd3.out.fNum (by decide)
  have HD4 : Hid (DSt (y3.setCell ⟨pb, 23, none⟩ (.int .u64 ((rUint T S3.2).1 : Int))) (fun b => w.heap.size ≤ b) m pb T (fNum T S3 23)) := DSt.put hd.rd hd.pk hd.ne hd.bs hd.no 23 _ HGd4.out.nou8
  have HM4 : Hid (Mod (fun b => b = m ∨ b = pb) w5 (y3.setCell ⟨pb, 23, none⟩ (.int .u64 ((rUint T S3.2).1 : Int)))) := (HM3.out.trans (hm.mono fun b _ e => .inl e)).set (p := ⟨pb, 23, none⟩) (fun _ => .inr rfl) _
  obtain ⟨S4, hS⟩ : ∃ S, S = fNum T S3 23 := ⟨_, rfl⟩
  rw [← hS] at HD4 HGd4
  have HE4 := Lib.hid hS
  clear hS hd hm HD3 HGd3 HM3
  have HC := Lib.hid (duint_any HD4.out HTL.out)
  go_wp2_with fail
  refine HC.out.mono ?_
  rintro e y4 ⟨rfl, hd, hm⟩
  clear HC cN3 fN3
  have cN4 := hd.pk.cell 24
  rw [Array.getElem?_eq_getElem (by show 24 < S4.1.size; rw [HGd4.out.size]; omega)] at cN4
  generalize S4.1[24]'_ = u4 at cN4
  have fN4 := hd.pk.free 24
  have HGd5 : Hid (Good (fNum T S4 24).1) := HGd4.out.fNum (by decide)
  have HD5 : Hid (DSt (y4.setCell ⟨pb, 24, none⟩ (.int .u64 ((rUint T S4.2).1 : Int))) (fun b => w.heap.size ≤ b) m pb T (fNum T S4 24)) := DSt.put hd.rd hd.pk hd.ne hd.bs hd.no 24 _ HGd5.out.nou8
  have HM5 : Hid (Mod (fun b => b = m ∨ b = pb) w5 (y4.setCell ⟨pb, 24, none⟩ (.int .u64 ((rUint T S4.2).1 : Int)))) := (HM4.out.trans (hm.mono fun b _ e => .inl e)).set (p := ⟨pb, 24, none⟩) (fun _ => .inr rfl) _
  obtain ⟨S5, hS⟩ : ∃ S, S = fNum T S4 24 := ⟨_, rfl⟩
  rw [← hS] at HD5 HGd5
  have HE5 := Lib.hid hS
  clear hS hd hm HD4 HGd4 HM4
  have HC := Lib.hid (duint_any HD5.out HTL.out)
  go_wp2_with fail
  refine HC.out.mono ?_
  rintro e y5 ⟨rfl, hd, hm⟩
  clear HC cN4 fN4
  have cN5 := hd.pk.cell 25
  rw [Array.getElem?_eq_getElem (by show 25 < S5.1.size; rw [HGd5.out.size]; omega)] at cN5
  generalize S5.1[25]'_ = u5 at cN5
  have fN5 := hd.pk.free 25
  have HGd6 : Hid (Good (fNum T S5 25).1) := HGd5.out.fNum (by decide)
  have HD6 : Hid (DSt (y5.setCell ⟨pb, 25, none⟩ (.int .u64 ((rUint T S5.2).1 : Int))) (fun b => w.heap.size ≤ b) m pb T (fNum T S5 25)) := DSt.put hd.rd hd.pk hd.ne hd.bs hd.no 25 _ HGd6.out.nou8
  have HM6 : Hid (Mod (fun b => b = m ∨ b = pb) w5 (y5.setCell ⟨pb, 25, none⟩ (.int .u64 ((rUint T S5.2).1 : Int)))) := (HM5.out.trans (hm.mono fun b _ e => .inl e)).set (p := ⟨pb, 25, none⟩) (fun _ => .inr rfl) _
  obtain ⟨S6, hS⟩ : ∃ S, S = fNum T S5 25 := ⟨_, rfl⟩
  rw [← hS] at HD6 HGd6
  have HE6 := Lib.hid hS
  clear hS hd hm HD5 HGd5 HM5
  have HC := Lib.hid (dsmall_any HD6.out HTL.out)
  go_wp2_with fail
  refine HC.out.mono ?_
  rintro e y6 ⟨rfl, hd, hm⟩
  clear HC cN5 fN5
  have cN6 := hd.pk.cell 26
  rw [Array.getElem?_eq_getElem (by show 26 < S6.1.size; rw [HGd6.out.size]; omega)] at cN6
  generalize S6.1[26]'_ = u6 at cN6
  have fN6 := hd.pk.free 26
  have HGd7 : Hid (Good (fInt T S6 26).1) := HGd6.out.fInt (by decide)
  have HD7 : Hid (DSt (y6.setCell ⟨pb, 26, none⟩ (.int .i64 ((rInt T S6.2).1 : Int))) (fun b => w.heap.size ≤ b) m pb T (fInt T S6 26)) := DSt.put hd.rd hd.pk hd.ne hd.bs hd.no 26 _ HGd7.out.nou8
  have HM7 : Hid (Mod (fun b => b = m ∨ b = pb) w5 (y6.setCell ⟨pb, 26, none⟩ (.int .i64 ((rInt T S6.2).1 : Int)))) := (HM6.out.trans (hm.mono fun b _ e => .inl e)).set (p := ⟨pb, 26, none⟩) (fun _ => .inr rfl) _
  obtain ⟨S7, hS⟩ : ∃ S, S = fInt T S6 26 := ⟨_, rfl⟩
  rw [← hS] at HD7 HGd7
  have HE7 := Lib.hid hS
  clear hS hd hm HD6 HGd6 HM6
  have HC := Lib.hid (dtext_any HD7.out HTL.out)
  go_wp2_with fail
  refine HC.out.mono ?_
  rintro e y7 ⟨⟨gt, ct, rfl, hw, ht1, ht2, hgt⟩, hd, hm⟩
  clear HC cN6 fN6
  have cN := hd.pk.cell 27
  rw [Array.getElem?_eq_getElem (by show 27 < S7.1.size; rw [HGd7.out.size]; omega)] at cN
  generalize S7.1[27]'_ = uu at cN
  have fN := hd.pk.free 27
  have hsn := HM7.out.size
  have hpb := HPB.out
  have HDf : Hid (DSt (y7.setCell ⟨pb, 27, none⟩ (.slice (some ⟨gt, 0, none⟩) (rText T S7.2).1.length ct)) (fun b => w.heap.size ≤ b) m pb T (S7.1.setIfInBounds 27 (.slice (some ⟨gt, 0, none⟩) (rText T S7.2).1.length ct), (rText T S7.2).2)) := DSt.put hd.rd hd.pk hd.ne hd.bs hd.no 27 _ (hd.no.slice 27 _ _ _)
  have HWf : Hid (WRow (y7.setCell ⟨pb, 27, none⟩ (.slice (some ⟨gt, 0, none⟩) (rText T S7.2).1.length ct)) gt (rText T S7.2).1) := hw.mod (Mod.set (S := fun b => b = pb) (Mod.refl _ _) (p := ⟨pb, 27, none⟩) (fun _ => rfl) _) (fun e => by omega)
  have HMf : Hid (Mod (fun b => b = m ∨ b = pb) w5 (y7.setCell ⟨pb, 27, none⟩ (.slice (some ⟨gt, 0, none⟩) (rText T S7.2).1.length ct))) := (HM7.out.trans (hm.mono fun b _ e => .inl e)).set (p := ⟨pb, 27, none⟩) (fun _ => .inr rfl) _
  have HGf := Lib.hid (HG5.out.mod HMf.out fun e => by rcases e with e | e <;> omega)
  have HTf := Lib.hid (HT5.out.trans (HMf.out.to_below HT5.out.size fun b hb e => by rcases e with e | e <;> omega))
  have HSn : Hid (decS T = S7) := (by show _ = _; rw [dec_sch HKT.out, HE7.out, HE6.out, HE5.out, HE4.out, HE3.out, HE2.out, HE1.out, HE0.out]; rfl)
  have HXn : Hid (decX T = rText T S7.2) := (by show _ = _; unfold decX; rw [HSn.out])
  have HLn : Hid (decL T = rList T (rText T S7.2).2) := (by show _ = _; unfold decL; rw [if_pos HKT.out, HXn.out])
  have HX1 : Hid ((rText T S7.2).1.length ≤ ct ∧ ct ≤ 9223372036854775807 ∧ (rText T S7.2).1.length ≤ 16384 ∧ w5.heap.size ≤ gt) := ⟨ht1, ht2, rText_max _ _, by omega⟩
  have HC := Lib.hid (duint_any HDf.out HTL.out)
  clear hw ht1 ht2 hgt hd hm hsn hpb HG5 HT5
  have HLS : Hid (rList T (rText T S7.2).2 = if 64 < (rUint T (rText T S7.2).2).1 then ([], ((rUint T (rText T S7.2).2).2.1, true)) else rMany T (rUint T (rText T S7.2).2).1 (rUint T (rText T S7.2).2).2) := rfl
  generalize hnl : (rUint T (rText T S7.2).2).1 = nl at *
  generalize hs0 : (rUint T (rText T S7.2).2).2 = s0 at *
  obtain ⟨cs1, hcs1⟩ : ∃ cs1, cs1 = S7.1.setIfInBounds 27 (.slice (some ⟨gt, 0, none⟩) (rText T S7.2).1.length ct) := ⟨_, rfl⟩
  have HCS := Lib.hid hcs1
  rw [← hcs1] at HC
  clear hcs1 hnl hs0
  go_wp2_with fail
  refine HC.out.mono ?_
  rintro e w8 ⟨rfl, hd8, hm8⟩
  have HD8 := Lib.hid hd8
  have HG8 := Lib.hid (HGf.out.mod hm8 fun e => by have := HPB.out; omega)
  have HT8 := Lib.hid (HTf.out.trans (hm8.to_below HTf.out.size fun b hb e => by have := HPB.out; omega))
  have HW8 := Lib.hid (HWf.out.mod hm8 fun e => by have := HPB.out; have := HX1.out; omega)
  have HZ8 : Hid (pb < w8.heap.size ∧ m < w8.heap.size ∧ g < w8.heap.size ∧ gt < w8.heap.size) := ⟨hd8.pk.lt, hd8.rd.lt, HG8.out.lt, HW8.out.lt⟩
  clear hd8 hm8 cN fN HC HDf HGf HTf HWf HMf
  by_cases hbig : 64 < nl
  · have hd1 : decide ((64 : Int) < (nl : Int)) = true := decide_eq_true (by omega)
    have hd2 : decide (64 < nl) = true := decide_eq_true hbig
    have HDN : Hid (dec l = none) := (by show dec l = none; rw [HF.out]; unfold decT; rw [if_pos (by rw [HKT.out]; decide), HLn.out, HLS.out, if_pos hbig]; rfl)
    clear hbig
    go_wp2_with (refine wpList_build_pk0 ?_; refine Hid.out ?_)
    refine Lib.hid ?_
    go_wp2_with (refine wpList_store_blk rfl rfl rfl rfl HG8.out rfl info_pk zPk_oneL ?_; rintro wz hBz hmz; refine Hid.out ?_)
    refine Lib.hid ?_
    go_wp2_with fail
    refine bodyPost_ret (v := .tuple #[.agg zPk, .int .i64 2]) (results_blk_tmp Tryd.results9 _ hBz rfl Tryd.underlying44 rfl info_pk rfl) rfl ?_
    exact ⟨ddec_none HDN.out, HT8.out.trans (hmz.to_below HT8.out.size fun b hb e => by have := HGL.out.1; omega)⟩
  have hd1 : decide ((64 : Int) < (nl : Int)) = false := decide_eq_false (by omega)
  have hd2 : decide (64 < nl) = false := decide_eq_false hbig
  have hLM : rList T (rText T S7.2).2 = rMany T nl s0 := by rw [HLS.out, if_neg hbig]
  have HLM := Lib.hid hLM
  have hn64 : nl ≤ 64 := by omega
  have hz1 : cs1.size = 56 := by rw [HCS.out, Array.size_setIfInBounds]; exact HGd7.out.size
  have h28 : cs1[28]? = some (.slice none 0 0) := by
    rw [HCS.out, Array.getElem?_setIfInBounds, if_neg (by decide)]
    exact HGd7.out.keep
  have H28 := Lib.hid h28
  clear hbig hLM h28
  go_wp2_with fail
  clear hd1 hd2
  go_loopw [9] (fun i wr => ∃ (k : Nat) (A : Option Addr) (c : Nat), k ≤ nl ∧ i = .int .u64 k ∧ LSt wr w8.heap.size m pb T cs1 k A c (rMany T k s0) ∧ Mod (fun b => b = m ∨ b = pb) w8 wr) (fun i _ => nl - (intOf i).toNat)
  case atStart =>
    refine ⟨0, none, 0, by omega, rfl, ⟨fun b => w.heap.size ≤ b, World.ownsRow_nil _ _ _ _, ?_, fun g e => by cases e⟩, Mod.refl _ _⟩
    rw [set_self H28.out]
    exact HD8.out
  case round =>
    obtain ⟨k, A, c, hk, rfl, hL, hM⟩ := hrel
    by_cases hlt : k < nl
    · obtain ⟨base, hown, hS, hap⟩ := hL
      have m2 := hS.pk.cell 28
      rw [Array.getElem?_setIfInBounds, if_pos rfl, if_pos (by rw [hz1]; decide)] at m2
      have hun := duint_any (hS.below (Below.refl _ _).drew) HTL.out
      have hwk : IntKind.u64.wrap ((k : Int) + 1) = ((k + 1 : Nat) : Int) := by rw [IntKind.wrap_u64]; omega
      have HR : Hid (rMany T (k + 1) s0 = ((rMany T k s0).1 ++ [(rUint T (rMany T k s0).2).1], (rUint T (rMany T k s0).2).2)) := rfl
      have HS3 := Lib.hid hS
      have HM3 := Lib.hid hM
      have HOW := Lib.hid hown
      have HAP := Lib.hid hap
      generalize rMany T k s0 = q at *
      obtain ⟨qs, qt⟩ := q
      simp only at hun HR
      generalize hx : (rUint T qt).1 = x at *
      clear hx
      clear hM hap
      have hwz := HM3.out.size
      have hnp : pb ≠ m := fun e => HS3.out.ne e.symm
      have hpl := HS3.out.pk.lt
      have HF' : Hid (∀ g, (Value.slice A k c).ownBlock = some g → g < wr.heap.size ∧ g ≠ m ∧ g ≠ pb) := fun g e => by
        obtain ⟨h1, h2⟩ := HOW.out.lt g e
        have := HZ8.out
        exact ⟨h2, by omega, by omega⟩
      have HPS : Hid (pb < w8.heap.size) := HZ8.out.1
      have f2 := hS.pk.free 28
      clear hown hS
      go_wp2_with fail
      refine PF.pf_begin (by kernel_rfl) ?_
      refine PF.pf_take0 0 (by kernel_rfl) rfl (fun _ _ _ _ _ h => h) (by kernel_rfl) (fun u => by go_simp; try rfl) ?_
      try simp only [Act.put, pz0, pz1, pz2]
      refine PF.pf_take0 1 (by kernel_rfl) rfl (fun _ _ _ _ _ h => h) (by kernel_rfl) (fun u => by go_simp; try rfl) ?_
      try simp only [Act.put, pz0, pz1, pz2]
      refine PF.pf_take1 2 (PF.Same (pb) _) (by kernel_rfl) rfl (fun _ _ _ _ _ h => h) (by kernel_rfl) (PF.Same.refl _ _) (fun u hu => by have hcu := hu.cell; go_simp; try rfl) ?_
      try simp only [Act.put, pz0, pz1, pz2]
      refine PF.pf_take0 3 (by kernel_rfl) rfl (fun _ _ _ _ _ h => h) (by kernel_rfl) (fun u => by go_simp; try rfl) ?_
      try simp only [Act.put, pz0, pz1, pz2]
      refine PF.pf_exec 4 (by kernel_rfl) rfl (by kernel_rfl) (fun K hK => ?_)
      go_simp
      refine hun.mono ?_
      rintro e w3 ⟨rfl, hd3, hm3⟩
      have hownB : (w3.alloc (.cells #[.int .u64 (x : Int)] 24)).ownsRow w8.heap.size 24 1 (.slice A k c) k (qs.map u64v) := (own_stay HOW.out hm3.size fun g e => hm3.block g (HF'.out g e).1 (HF'.out g e).2.1).alloc _
      have hbs : w8.heap.size ≤ (w3.alloc (.cells #[.int .u64 (x : Int)] 24)).heap.size := by rw [alloc_size]; have h1 : wr.heap.size ≤ w3.heap.size := hm3.size; omega
      have hs4 : w3.heap[pb]? = wr.drew.heap[pb]? := hm3.block pb hpl hnp
      have hs5 : (w3.alloc (.cells #[.int .u64 (x : Int)] 24)).heap[pb]? = wr.drew.heap[pb]? := ((below_new w3 _).block pb (by have h1 : wr.heap.size ≤ w3.heap.size := hm3.size; omega)).trans hs4
      refine hK _ _ (by repeat (first | exact PF.owes_nil | refine PF.owes_left ?_ | refine PF.owes_no (by decide +kernel) ?_ | refine PF.owes_yes (by exact hs4) ?_)) ?_
      clear hK K
      try simp only [Act.put, pz0, pz1, pz2]
      refine PF.pf_exec 5 (by kernel_rfl) rfl (by kernel_rfl) (fun K hK => ?_)
      go_simp
      refine hK _ _ (by repeat (first | exact PF.owes_nil | refine PF.owes_left ?_ | refine PF.owes_no (by decide +kernel) ?_ | refine PF.owes_yes (by exact hs5) ?_)) ?_
      clear hK K
      try simp only [Act.put, pz0, pz1, pz2]
      refine PF.pf_exec 6 (by kernel_rfl) rfl (by kernel_rfl) (fun K hK => ?_)
      refine app_wp u64_ty rfl hownB rfl (Reads.one w3 24 (.int .u64 (x : Int))) rfl (by intro u hu; cases hu with | head => rfl | tail _ h => cases h) (by omega) hbs ?_
      intro v4 w4 ho4 hg4 hv4
      obtain ⟨A4, c4, rfl, _, _⟩ := own_slice ho4
      have hs6 : w4.heap[pb]? = wr.drew.heap[pb]? := (hg4.block pb (by rw [alloc_size]; have h1 : wr.heap.size ≤ w3.heap.size := hm3.size; omega) (fun e => (HF'.out pb e.symm).2.2 rfl)).trans hs5
      have m5 := (World.cell?_of_block (a := ⟨pb, 28, none⟩) hs6).trans m2
      have f5 := (World.frozen?_of_block (a := ⟨pb, 28, none⟩) hs6).trans f2
      refine hK _ _ (by repeat (first | exact PF.owes_nil | refine PF.owes_left ?_ | refine PF.owes_no (by decide +kernel) ?_ | refine PF.owes_yes (by exact hs6) ?_)) ?_
      clear hK K
      try simp only [Act.put, pz0, pz1, pz2]
      refine PF.pf_take0 7 (by kernel_rfl) rfl (fun _ _ _ _ _ h => h) (by kernel_rfl) (fun u => by go_simp; try rfl) ?_
      try simp only [Act.put, pz0, pz1, pz2]
      refine PF.pf_take0 8 (by kernel_rfl) rfl (fun _ _ _ _ _ h => h) (by kernel_rfl) (fun u => by go_simp; try rfl) ?_
      try simp only [Act.put, pz0, pz1, pz2]
      refine PF.pf_exec 9 (by kernel_rfl) rfl (by kernel_rfl) (fun K hK => ?_)
      go_simp
      refine hK _ _ (by repeat (first | exact PF.owes_nil | refine PF.owes_left ?_ | refine PF.owes_no (by decide +kernel) ?_ | refine PF.owes_yes (by first | rfl | assumption | go_simp) ?_)) ?_
      clear hK K
      try simp only [Act.put, pz0, pz1, pz2]
      refine PF.pf_done (by kernel_rfl) ?_
      have HL9 := Lib.hid (LSt.step (fun g e => ⟨HAP.out g e, (HF'.out g e).2.2⟩) hd3 ho4 hg4 hv4 HPS.out)
      have m1 : Mod (fun b => b = m ∨ b = pb) w8 w3 := HM3.out.trans (((Mod.refl _ wr).drew).trans (hm3.mono fun b _ e => .inl e))
      have m3 : Mod (fun b => b = m ∨ b = pb) w8 w4 := (m1.alloc _).join (Mod.grown (S := fun b => (Value.slice A k c).ownBlock = some b) hg4 fun g e _ => e) fun b hb e => by have := (HOW.out.lt b e).1; omega
      have HM7 : Hid (Mod (fun b => b = m ∨ b = pb) w8 (w4.setCell ⟨pb, 28, none⟩ (.slice A4 (k + 1) c4))) := m3.set (p := ⟨pb, 28, none⟩) (fun _ => .inr rfl) _
      clear m1 m3 hownB hs4 hs5 hs6 hg4 hv4 ho4 hm3 hd3 m5 f5 m2 f2
      go_wp2_with fail
      go_roundw
      case rel => exact ⟨k + 1, A4, c4, by omega, by go_num, by rw [HR.out]; exact HL9.out, HM7.out⟩
      case measure => simp [intOf]; omega
    · obtain rfl : k = nl := by omega
      obtain ⟨base, hown, hS, _⟩ := hL
      have HOW := Lib.hid hown
      have HB8 := Lib.hid hS.pk
      have HLen := Lib.hid (rMany_len T k s0)
      have HG9 := Lib.hid (HG8.out.mod hM fun e => by have := HPB.out; omega)
      have HT9 := Lib.hid (HT8.out.trans (hM.to_below HT8.out.size fun b hb e => by have := HPB.out; omega))
      have HW9 := Lib.hid (HW8.out.mod hM fun e => by have := HPB.out; have := HX1.out; omega)
      have hend := rend_any base wr m _ _ hS.rd
      simp only [drop_left] at hend
      have hMz := hM.size
      have HMZ := Lib.hid hMz
      clear hown hS hM hMz HG8 HT8 HW8 HD8 H28
      by_cases hf : ((rMany T k s0).2.2 || decide ((rMany T k s0).2.1 < T.length)) = true
      · rw [hf] at hend
        have HEND := Lib.hid hend
        have HDN : Hid (dec l = none) := (by show dec l = none; rw [HF.out]; unfold decT; rw [if_pos (by rw [HKT.out]; decide), HLn.out, HLM.out, if_pos hf])
        clear hend hf
        go_wp2_with fail
        refine HEND.out.mono ?_
        rintro e w10 ⟨rfl, hm8⟩
        have HG10 := Lib.hid (HG9.out.mod hm8 fun e => by have := HPB.out; omega)
        have HT10 := Lib.hid (HT9.out.trans (hm8.to_below HT9.out.size fun b hb e => by have := HPB.out; omega))
        clear hm8
        go_wp2_with (refine wpList_build_pk0 ?_; refine Hid.out ?_)
        refine Lib.hid ?_
        go_wp2_with (refine wpList_store_blk rfl rfl rfl rfl HG10.out rfl info_pk zPk_oneL ?_; rintro wz hBz hmz; refine Hid.out ?_)
        refine Lib.hid ?_
        go_wp2_with fail
        refine bodyPost_ret (v := .tuple #[.agg zPk, .int .i64 2]) (results_blk_tmp Tryd.results9 _ hBz rfl Tryd.underlying44 rfl info_pk rfl) rfl ?_
        exact ⟨ddec_none HDN.out, HT10.out.trans (hmz.to_below HT10.out.size fun b hb e => by have := HGL.out.1; omega)⟩
      · have hff : ((rMany T k s0).2.2 || decide ((rMany T k s0).2.1 < T.length)) = false := by simpa using hf
        rw [hff] at hend
        have HEND := Lib.hid hend
        have HDN : Hid (dec l = some (readPk S7.1 27 (rText T S7.2).1 (rMany T k s0).1)) := (by show dec l = _; rw [HF.out]; unfold decT; rw [if_pos (by rw [HKT.out]; decide), HLn.out, HLM.out, if_neg hf, HSn.out, HXn.out, HKT.out]; rfl)
        clear hend hf hff
        go_wp2_with fail
        refine HEND.out.mono ?_
        rintro e w10 ⟨rfl, hm8⟩
        have HG10 := Lib.hid (HG9.out.mod hm8 fun e => by have := HPB.out; omega)
        have HT10 := Lib.hid (HT9.out.trans (hm8.to_below HT9.out.size fun b hb e => by have := HPB.out; omega))
        have HB10 := Lib.hid (HB8.out.mod hm8 fun e => by have := HPB.out; omega)
        have HW10 := Lib.hid (HW9.out.mod hm8 fun e => by have := HPB.out; have := HX1.out; omega)
        have HOW10 : Hid (w10.ownsRow w8.heap.size 24 1 (.slice A k c) k ((rMany T k s0).1.map u64v)) := own_stay HOW.out hm8.size fun g e => hm8.block g (HOW.out.lt g e).2 (by have := (HOW.out.lt g e).1; have := HZ8.out; omega)
        have HV : Hid (∀ W : World, WRow W gt (rText T S7.2).1 → W.ownsRow w8.heap.size 24 1 (.slice A k c) k ((rMany T k s0).1.map u64v) → PkV W (cs1.setIfInBounds 28 (.slice A k c)) (readPk S7.1 27 (rText T S7.2).1 (rMany T k s0).1)) := by
          intro W h1 h2
          have e := HLen.out
          rw [HCS.out]
          have h := HGd7.out.pkok (B := 0) (by decide : 27 ∈ txtOffs) h1 HX1.out.1 HX1.out.2.1 (Nat.le_trans HX1.out.2.2.1 (by decide)) (Nat.zero_le _) (c2 := c) (A := A) (ks := (rMany T k s0).1) (by rw [e]; exact own_base h2 (by have := HZ8.out; omega)) (by rw [e]; omega) (rMany_lt T _ _)
          rw [e] at h
          exact h.1
        have HZ10 := Lib.hid (HV.out w10 HW10.out HOW10.out).size
        have HO1 := Lib.hid (HV.out w10 HW10.out HOW10.out).one
        clear hm8
        go_wp2_with (refine wpList_load_blk rfl (ty := 44) rfl rfl HB10.out Tryd.underlying44 rfl (pk_size HZ10.out) ?_; refine Hid.out ?_)
        refine Lib.hid ?_
        go_wp2_with (refine wpList_store_blk rfl rfl rfl rfl HG10.out (by rw [HZ10.out]; rfl) (pk_size HZ10.out) HO1.out ?_; rintro w9 hB9 hm9; refine Hid.out ?_)
        refine Lib.hid ?_
        go_wp2_with fail
        refine bodyPost_ret (v := .tuple #[.agg (cs1.setIfInBounds 28 (.slice A k c)), .int .i64 0]) (results_blk_tmp Tryd.results9 _ hB9 rfl Tryd.underlying44 rfl (pk_size HZ10.out) rfl) rfl ?_
        have hpb := HPB.out
        have hx1 := HX1.out
        have hz8 := HZ8.out
        have hw9 : WRow w9 gt (rText T S7.2).1 := HW10.out.mod hm9 fun e => by omega
        have ho9 : w9.ownsRow w8.heap.size 24 1 (.slice A k c) k ((rMany T k s0).1.map u64v) := own_stay HOW10.out hm9.size fun g' e => hm9.block g' (HOW10.out.lt g' e).2 (by have := (HOW10.out.lt g' e).1; omega)
        exact ⟨by unfold DDec; rw [HDN.out]; exact ⟨_, rfl, HV.out w9 hw9 ho9⟩, HT10.out.trans (hm9.to_below HT10.out.size fun b hb e => by have := HGL.out.1; omega)⟩
end Go.Proofs.YtdckdjkkaangmaaDoor
