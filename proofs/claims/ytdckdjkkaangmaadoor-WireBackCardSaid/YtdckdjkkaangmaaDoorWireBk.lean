/- The law WireBack, walked. -/
import Derived.Test.YtdckdjkkaangmaaDoorWireI2
import Derived.Test.YtdckdjkkaangmaaDoorOpenPk
namespace Go.Proofs.YtdckdjkkaangmaaDoor
set_option linter.unusedVariables false
set_option linter.unusedSimpArgs false
set_option maxRecDepth 100000
open Go.RowKit

/-- How much is gone through. -/
def lenP (P : Pk) : Nat := (P.t 6).length + (P.t 18).length + (P.t 27).length + (P.t 37).length + (P.t 46).length + (P.t 55).length + 8 * P.k.length
theorem PkA.long {w0 : World} {cs : Array Value} {P : Pk} (h : PkA w0 cs P) (w : World) : Calls Tryd.prog 12 #[.agg cs] w fun e w' => e = .returned (.bool (decide (40000 < lenP P))) ∧ Below w.heap.size w w' :=
  long_any (n := fun o => (P.t o).length) (m := P.k.length) (fun o ho => by obtain ⟨A, c, q1, _, _, _, q5⟩ := h.txts o ho; exact ⟨A, c, q1, q5⟩) (by obtain ⟨A, c, q1, _, _, _, q5⟩ := h.keep; exact ⟨A, c, q1, q5⟩)
theorem dec_some {l : List UInt8} {D : Pk} (h : dec l = some D) : OkL D ∧ Crc.sealed (enc D).1 = l ∧ l.length ≤ 16384 := by
  unfold dec at h
  cases ho : Crc.opened l with
  | none => rw [ho] at h; cases h
  | some t =>
    rw [ho] at h
    simp only at h
    split at h
    · cases h
    · rename_i hl
      obtain ⟨h1, h2⟩ := enc_dec h
      have hs : Crc.sealed t = l := by
        unfold Crc.opened at ho
        split at ho
        · cases ho
        · split at ho
          · rename_i h3
            injection ho with ho
            rw [← ho]
            exact h3
          · cases ho
      have := sealed_len t
      rw [hs] at this
      exact ⟨⟨h1, by rw [h2]; omega⟩, by rw [h2]; exact hs, by omega⟩
theorem enc_back {P : Pk} (hN : PkN P) (h : OkL P) : ∃ Q, dec (Crc.sealed (enc P).1) = some Q ∧ PkEq Q P := by
  rw [dec_sealed h.2]
  exact dec_enc hN h.1 (by have := h.2; omega)
theorem sealed_inj {a b : List UInt8} : Crc.sealed a = Crc.sealed b ↔ a = b := by
  constructor
  · intro h
    have h1 := sealed_opened a
    rw [h, sealed_opened] at h1
    injection h1 with h1
    exact h1.symm
  · rintro rfl
    rfl
theorem EncPost.not {B : Nat} {P : Pk} {e : Ending} {w' : World} (h : EncPost B P e w') (hl : ¬ OkL P) : ∃ k : Int, (k = 1 ∨ k = 7) ∧ e = .returned (.tuple #[.slice none 0 0, .int .i64 k]) := by
  unfold EncPost at h
  rw [if_neg hl] at h
  split at h
  · exact ⟨7, .inr rfl, h⟩
  · exact ⟨1, .inl rfl, h⟩

set_option maxRecDepth 100000 in
set_option maxHeartbeats 16000000 in
theorem back_longa {w : World} {ca cb : Array Value} {Pa Pb : Pk} (ha : PkA w ca Pa) (hb : PkA w cb Pb) {A : Option Addr} {l : List UInt8} {c : Nat} (h1 : 40000 < lenP Pa) :
    Calls Tryd.prog 4 #[.agg ca, .agg cb, .slice A l.length c] w fun e w' => e = .returned (.bool true) ∧ Below w.heap.size w w' := by
  have hB1 : Blk ((w.alloc (.cells ca 44)).alloc (.cells cb 44)) w.heap.size 44 ca := (Blk.new _ _ _).alloc _
  have hB2 : Blk ((w.alloc (.cells ca 44)).alloc (.cells cb 44)) (w.heap.size + 1) 44 cb := by simpa using Blk.new (w.alloc (.cells ca 44)) 44 cb
  have hbt : Below w.heap.size w ((w.alloc (.cells ca 44)).alloc (.cells cb 44)) := (below_new w _).alloc (by simp) _
  have HZA := Lib.hid ha.size
  have HZB := Lib.hid hb.size
  have HLA := Lib.hid ha.long
  have HLB := Lib.hid hb.long
  have HBa0 := Lib.hid hB1
  have HBb0 := Lib.hid hB2
  have HT0 := Lib.hid hbt
  have hd : decide (40000 < lenP Pa) = true := decide_eq_true h1
  rw [hd] at HLA
  clear hd h1 ha hb
  clear hB1 hB2 hbt
  go_enter Tryd.func4, Tryd.ntmps4
  go_wp2_with (refine wpList_load_blk rfl (ty := 44) rfl rfl HBa0.out Tryd.underlying44 rfl (pk_56 HZA.out) ?_; refine Hid.out ?_)
  refine Lib.hid ?_
  generalize ((w.alloc (.cells ca 44)).alloc (.cells cb 44)) = w0 at *
  go_wp2_with fail
  refine (HLA.out w0).mono ?_
  rintro e w1 ⟨rfl, hb1⟩
  have HBa1 := Lib.hid (HBa0.out.below hb1 HBa0.out.lt)
  have HBb1 := Lib.hid (HBb0.out.below hb1 HBb0.out.lt)
  have HT1 := Lib.hid (below_call HT0.out HT0.out.size hb1)
  clear HBa0 HBb0 HT0
  clear hb1
  go_wp2_with fail
  refine (awake_any w1).mono ?_
  rintro e w' ⟨rfl, hb'⟩
  have HBa' := Lib.hid (HBa1.out.below hb' HBa1.out.lt)
  have HBb' := Lib.hid (HBb1.out.below hb' HBb1.out.lt)
  have HT' := Lib.hid (below_call HT1.out HT1.out.size hb')
  clear HBa1 HBb1 HT1
  clear hb'
  go_wp2_with fail
  go_ret
  exact ⟨rfl, HT'.out⟩
set_option maxRecDepth 100000 in
set_option maxHeartbeats 16000000 in
theorem back_longb {w : World} {ca cb : Array Value} {Pa Pb : Pk} (ha : PkA w ca Pa) (hb : PkA w cb Pb) {A : Option Addr} {l : List UInt8} {c : Nat} (h1 : ¬ 40000 < lenP Pa) (h2 : 40000 < lenP Pb) :
    Calls Tryd.prog 4 #[.agg ca, .agg cb, .slice A l.length c] w fun e w' => e = .returned (.bool true) ∧ Below w.heap.size w w' := by
  have hB1 : Blk ((w.alloc (.cells ca 44)).alloc (.cells cb 44)) w.heap.size 44 ca := (Blk.new _ _ _).alloc _
  have hB2 : Blk ((w.alloc (.cells ca 44)).alloc (.cells cb 44)) (w.heap.size + 1) 44 cb := by simpa using Blk.new (w.alloc (.cells ca 44)) 44 cb
  have hbt : Below w.heap.size w ((w.alloc (.cells ca 44)).alloc (.cells cb 44)) := (below_new w _).alloc (by simp) _
  have HZA := Lib.hid ha.size
  have HZB := Lib.hid hb.size
  have HLA := Lib.hid ha.long
  have HLB := Lib.hid hb.long
  have HBa0 := Lib.hid hB1
  have HBb0 := Lib.hid hB2
  have HT0 := Lib.hid hbt
  have hd : decide (40000 < lenP Pa) = false := decide_eq_false h1
  rw [hd] at HLA
  have hd2 : decide (40000 < lenP Pb) = true := decide_eq_true h2
  rw [hd2] at HLB
  clear hd hd2 h1 h2 ha hb
  clear hB1 hB2 hbt
  go_enter Tryd.func4, Tryd.ntmps4
  go_wp2_with (refine wpList_load_blk rfl (ty := 44) rfl rfl HBa0.out Tryd.underlying44 rfl (pk_56 HZA.out) ?_; refine Hid.out ?_)
  refine Lib.hid ?_
  generalize ((w.alloc (.cells ca 44)).alloc (.cells cb 44)) = w0 at *
  go_wp2_with fail
  refine (HLA.out w0).mono ?_
  rintro e w1 ⟨rfl, hb1⟩
  have HBa1 := Lib.hid (HBa0.out.below hb1 HBa0.out.lt)
  have HBb1 := Lib.hid (HBb0.out.below hb1 HBb0.out.lt)
  have HT1 := Lib.hid (below_call HT0.out HT0.out.size hb1)
  clear HBa0 HBb0 HT0
  clear hb1
  go_wp2_with (refine wpList_load_blkG (by kernel_rfl) (ty := 44) rfl rfl HBb1.out Tryd.underlying44 rfl (pk_56 HZB.out) ?_; refine Hid.out ?_)
  refine Lib.hid ?_
  go_wp2_with fail
  refine (HLB.out w1).mono ?_
  rintro e w2 ⟨rfl, hb2⟩
  have HBa2 := Lib.hid (HBa1.out.below hb2 HBa1.out.lt)
  have HBb2 := Lib.hid (HBb1.out.below hb2 HBb1.out.lt)
  have HT2 := Lib.hid (below_call HT1.out HT1.out.size hb2)
  clear HBa1 HBb1 HT1
  clear hb2
  go_wp2_with fail
  refine (awake_any w2).mono ?_
  rintro e w' ⟨rfl, hb'⟩
  have HBa' := Lib.hid (HBa2.out.below hb' HBa2.out.lt)
  have HBb' := Lib.hid (HBb2.out.below hb' HBb2.out.lt)
  have HT' := Lib.hid (below_call HT2.out HT2.out.size hb')
  clear HBa2 HBb2 HT2
  clear hb'
  go_wp2_with fail
  go_ret
  exact ⟨rfl, HT'.out⟩
set_option maxRecDepth 100000 in
set_option maxHeartbeats 16000000 in
theorem back_longl {w : World} {ca cb : Array Value} {Pa Pb : Pk} (ha : PkA w ca Pa) (hb : PkA w cb Pb) {A : Option Addr} {l : List UInt8} {c : Nat} (h1 : ¬ 40000 < lenP Pa) (h2 : ¬ 40000 < lenP Pb) (h3 : 40000 < l.length) :
    Calls Tryd.prog 4 #[.agg ca, .agg cb, .slice A l.length c] w fun e w' => e = .returned (.bool true) ∧ Below w.heap.size w w' := by
  have hB1 : Blk ((w.alloc (.cells ca 44)).alloc (.cells cb 44)) w.heap.size 44 ca := (Blk.new _ _ _).alloc _
  have hB2 : Blk ((w.alloc (.cells ca 44)).alloc (.cells cb 44)) (w.heap.size + 1) 44 cb := by simpa using Blk.new (w.alloc (.cells ca 44)) 44 cb
  have hbt : Below w.heap.size w ((w.alloc (.cells ca 44)).alloc (.cells cb 44)) := (below_new w _).alloc (by simp) _
  have HZA := Lib.hid ha.size
  have HZB := Lib.hid hb.size
  have HLA := Lib.hid ha.long
  have HLB := Lib.hid hb.long
  have HBa0 := Lib.hid hB1
  have HBb0 := Lib.hid hB2
  have HT0 := Lib.hid hbt
  have hd : decide (40000 < lenP Pa) = false := decide_eq_false h1
  rw [hd] at HLA
  have hd2 : decide (40000 < lenP Pb) = false := decide_eq_false h2
  rw [hd2] at HLB
  have hd3 : decide ((40000 : Int) < (l.length : Int)) = true := decide_eq_true (by omega)
  clear hd hd2 h1 h2 h3 ha hb
  clear hB1 hB2 hbt
  go_enter Tryd.func4, Tryd.ntmps4
  go_wp2_with (refine wpList_load_blk rfl (ty := 44) rfl rfl HBa0.out Tryd.underlying44 rfl (pk_56 HZA.out) ?_; refine Hid.out ?_)
  refine Lib.hid ?_
  generalize ((w.alloc (.cells ca 44)).alloc (.cells cb 44)) = w0 at *
  go_wp2_with fail
  refine (HLA.out w0).mono ?_
  rintro e w1 ⟨rfl, hb1⟩
  have HBa1 := Lib.hid (HBa0.out.below hb1 HBa0.out.lt)
  have HBb1 := Lib.hid (HBb0.out.below hb1 HBb0.out.lt)
  have HT1 := Lib.hid (below_call HT0.out HT0.out.size hb1)
  clear HBa0 HBb0 HT0
  clear hb1
  go_wp2_with (refine wpList_load_blkG (by kernel_rfl) (ty := 44) rfl rfl HBb1.out Tryd.underlying44 rfl (pk_56 HZB.out) ?_; refine Hid.out ?_)
  refine Lib.hid ?_
  go_wp2_with fail
  refine (HLB.out w1).mono ?_
  rintro e w2 ⟨rfl, hb2⟩
  have HBa2 := Lib.hid (HBa1.out.below hb2 HBa1.out.lt)
  have HBb2 := Lib.hid (HBb1.out.below hb2 HBb1.out.lt)
  have HT2 := Lib.hid (below_call HT1.out HT1.out.size hb2)
  clear HBa1 HBb1 HT1
  clear hb2
  go_wp2_with fail
  refine (awake_any w2).mono ?_
  rintro e w' ⟨rfl, hb'⟩
  have HBa' := Lib.hid (HBa2.out.below hb' HBa2.out.lt)
  have HBb' := Lib.hid (HBb2.out.below hb' HBb2.out.lt)
  have HT' := Lib.hid (below_call HT2.out HT2.out.size hb')
  clear HBa2 HBb2 HT2
  clear hb'
  go_wp2_with fail
  go_ret
  exact ⟨rfl, HT'.out⟩
set_option maxRecDepth 100000 in
set_option maxHeartbeats 16000000 in
theorem back_none_pno {w : World} {ca cb : Array Value} {Pa Pb : Pk} (ha : PkA w ca Pa) (hb : PkA w cb Pb) {A : Option Addr} {l : List UInt8} {c : Nat} (hl : Bytes w A l) (hlc : l.length ≤ c) (hc : c ≤ 9223372036854775807) (h1 : ¬ 40000 < lenP Pa) (h2 : ¬ 40000 < lenP Pb) (h3 : ¬ 40000 < l.length) (hd : dec l = none) (hp : ¬ OkL Pa) :
    Calls Tryd.prog 4 #[.agg ca, .agg cb, .slice A l.length c] w fun e w' => e = .returned (.bool true) ∧ Below w.heap.size w w' := by
  have hB1 : Blk ((w.alloc (.cells ca 44)).alloc (.cells cb 44)) w.heap.size 44 ca := (Blk.new _ _ _).alloc _
  have hB2 : Blk ((w.alloc (.cells ca 44)).alloc (.cells cb 44)) (w.heap.size + 1) 44 cb := by simpa using Blk.new (w.alloc (.cells ca 44)) 44 cb
  have hbt : Below w.heap.size w ((w.alloc (.cells ca 44)).alloc (.cells cb 44)) := (below_new w _).alloc (by simp) _
  have HZA := Lib.hid ha.size
  have HZB := Lib.hid hb.size
  have HLA := Lib.hid ha.long
  have HLB := Lib.hid hb.long
  have HBa0 := Lib.hid hB1
  have HBb0 := Lib.hid hB2
  have HT0 := Lib.hid hbt
  have hVA : PkV w ca Pa := ha.pkv (by unfold lenP at h1; omega)
  have hVB : PkV w cb Pb := hb.pkv (by unfold lenP at h2; omega)
  have HVa0 := Lib.hid (hVA.below HT0.out)
  have HVb0 := Lib.hid (hVB.below HT0.out)
  have HY0 := Lib.hid (hl.below HT0.out)
  have HNA := Lib.hid hVA.pkn
  have HNB := Lib.hid hVB.pkn
  have HOA := Lib.hid hVA.one
  have f1 : decide (40000 < lenP Pa) = false := decide_eq_false h1
  rw [f1] at HLA
  have f2 : decide (40000 < lenP Pb) = false := decide_eq_false h2
  rw [f2] at HLB
  have f3 : decide ((40000 : Int) < (l.length : Int)) = false := decide_eq_false (by omega)
  have HLM : Hid (l.length ≤ 1000000 ∧ l.length ≤ c ∧ c ≤ 9223372036854775807) := ⟨by omega, hlc, hc⟩
  have HD := Lib.hid hd
  have HP := Lib.hid hp
  clear f1 f2 h1 h2 h3 hlc hc hl ha hb hVA hVB hd hp
  clear hB1 hB2 hbt
  go_enter Tryd.func4, Tryd.ntmps4
  go_wp2_with (refine wpList_load_blk rfl (ty := 44) rfl rfl HBa0.out Tryd.underlying44 rfl (pk_56 HZA.out) ?_; refine Hid.out ?_)
  refine Lib.hid ?_
  generalize ((w.alloc (.cells ca 44)).alloc (.cells cb 44)) = w0 at *
  go_wp2_with fail
  refine (HLA.out w0).mono ?_
  rintro e w1 ⟨rfl, hb1⟩
  have HBa1 := Lib.hid (HBa0.out.below hb1 HBa0.out.lt)
  have HBb1 := Lib.hid (HBb0.out.below hb1 HBb0.out.lt)
  have HT1 := Lib.hid (below_call HT0.out HT0.out.size hb1)
  have HVa1 := Lib.hid (HVa0.out.below hb1)
  have HVb1 := Lib.hid (HVb0.out.below hb1)
  have HY1 := Lib.hid (HY0.out.below hb1)
  clear HBa0 HBb0 HT0 HVa0 HVb0 HY0
  clear hb1
  go_wp2_with (refine wpList_load_blkG (by kernel_rfl) (ty := 44) rfl rfl HBb1.out Tryd.underlying44 rfl (pk_56 HZB.out) ?_; refine Hid.out ?_)
  refine Lib.hid ?_
  go_wp2_with fail
  refine (HLB.out w1).mono ?_
  rintro e w2 ⟨rfl, hb2⟩
  have HBa2 := Lib.hid (HBa1.out.below hb2 HBa1.out.lt)
  have HBb2 := Lib.hid (HBb1.out.below hb2 HBb1.out.lt)
  have HT2 := Lib.hid (below_call HT1.out HT1.out.size hb2)
  have HVa2 := Lib.hid (HVa1.out.below hb2)
  have HVb2 := Lib.hid (HVb1.out.below hb2)
  have HY2 := Lib.hid (HY1.out.below hb2)
  clear HBa1 HBb1 HT1 HVa1 HVb1 HY1
  clear hb2
  go_wp2_with fail
  refine (decode_any A c l w2 HY2.out HLM.out.1 HLM.out.2.1 HLM.out.2.2).mono ?_
  rintro e w3 ⟨hdp, hb3⟩
  unfold DecPost at hdp
  rw [HD.out] at hdp
  obtain rfl := hdp
  have HBa3 := Lib.hid (HBa2.out.below hb3 HBa2.out.lt)
  have HBb3 := Lib.hid (HBb2.out.below hb3 HBb2.out.lt)
  have HT3 := Lib.hid (below_call HT2.out HT2.out.size hb3)
  have HVa3 := Lib.hid (HVa2.out.below hb3)
  have HVb3 := Lib.hid (HVb2.out.below hb3)
  have HY3 := Lib.hid (HY2.out.below hb3)
  clear HBa2 HBb2 HT2 HVa2 HVb2 HY2
  clear hb3 f3
  go_wp2_with (refine wpList_alloc_blk rfl rfl zero_pk ?_; rintro gd wz hgz hBz hbz; refine Hid.out ?_)
  refine Lib.hid ?_
  go_wp2_with (refine wpList_store_blk rfl rfl rfl rfl hBz rfl (pk_56 zPk_size) zPk_oneL ?_; rintro w4 hBy hmy; refine Hid.out ?_)
  refine Lib.hid ?_
  have hby : Below w3.heap.size w3 w4 := hbz.trans (hmy.to_below hbz.size fun b hb e => by omega)
  have HBa4 := Lib.hid (HBa3.out.below hby HBa3.out.lt)
  have HBb4 := Lib.hid (HBb3.out.below hby HBb3.out.lt)
  have HT4 := Lib.hid (below_call HT3.out HT3.out.size hby)
  have HVa4 := Lib.hid (HVa3.out.below hby)
  have HVb4 := Lib.hid (HVb3.out.below hby)
  have HY4 := Lib.hid (HY3.out.below hby)
  clear HBa3 HBb3 HT3 HVa3 HVb3 HY3
  have HBd4 := Lib.hid hBy
  clear hBz hbz hgz hBy hmy hby
  clear HBd4
  clear HY4
  go_wp2_with (refine wpList_load_blk rfl (ty := 44) rfl rfl HBa4.out Tryd.underlying44 rfl (pk_56 HZA.out) ?_; refine Hid.out ?_)
  refine Lib.hid ?_
  go_wp2_with fail
  refine (encode_any HVa4.out).mono ?_
  rintro e w5 ⟨he, hbn⟩
  obtain ⟨q, hq, rfl⟩ := he.not HP.out
  have HBa5 := Lib.hid (HBa4.out.below hbn HBa4.out.lt)
  have HBb5 := Lib.hid (HBb4.out.below hbn HBb4.out.lt)
  have HT5 := Lib.hid (below_call HT4.out HT4.out.size hbn)
  have HVa5 := Lib.hid (HVa4.out.below hbn)
  have HVb5 := Lib.hid (HVb4.out.below hbn)
  clear HBa4 HBb4 HT4 HVa4 HVb4
  clear hbn
  have hqn : (q != 0) = true := by rcases hq with rfl | rfl <;> rfl
  clear hq
  go_wp2_with (refine wpList_load_blkG (by kernel_rfl) (ty := 44) rfl rfl HBa5.out Tryd.underlying44 rfl (pk_56 HZA.out) ?_; refine Hid.out ?_)
  refine Lib.hid ?_
  go_wp2_with fail
  refine (may_any HVa5.out).mono ?_
  rintro e w6 ⟨rfl, hbn⟩
  rw [decide_eq_false HP.out]
  have HBa6 := Lib.hid (HBa5.out.below hbn HBa5.out.lt)
  have HBb6 := Lib.hid (HBb5.out.below hbn HBb5.out.lt)
  have HT6 := Lib.hid (below_call HT5.out HT5.out.size hbn)
  have HVa6 := Lib.hid (HVa5.out.below hbn)
  have HVb6 := Lib.hid (HVb5.out.below hbn)
  clear HBa5 HBb5 HT5 HVa5 HVb5
  clear hbn
  go_wp2_with fail
  refine (awake_any w6).mono ?_
  rintro e w' ⟨rfl, hb'⟩
  have HBa' := Lib.hid (HBa6.out.below hb' HBa6.out.lt)
  have HBb' := Lib.hid (HBb6.out.below hb' HBb6.out.lt)
  have HT' := Lib.hid (below_call HT6.out HT6.out.size hb')
  have HVa' := Lib.hid (HVa6.out.below hb')
  have HVb' := Lib.hid (HVb6.out.below hb')
  clear HBa6 HBb6 HT6 HVa6 HVb6
  clear hb'
  go_wp2_with fail
  go_ret
  exact ⟨rfl, HT'.out⟩
set_option maxRecDepth 100000 in
set_option maxHeartbeats 16000000 in
theorem back_none_qno {w : World} {ca cb : Array Value} {Pa Pb : Pk} (ha : PkA w ca Pa) (hb : PkA w cb Pb) {A : Option Addr} {l : List UInt8} {c : Nat} (hl : Bytes w A l) (hlc : l.length ≤ c) (hc : c ≤ 9223372036854775807) (h1 : ¬ 40000 < lenP Pa) (h2 : ¬ 40000 < lenP Pb) (h3 : ¬ 40000 < l.length) (hd : dec l = none) (hp : OkL Pa) (hq : ¬ OkL Pb) :
    Calls Tryd.prog 4 #[.agg ca, .agg cb, .slice A l.length c] w fun e w' => e = .returned (.bool true) ∧ Below w.heap.size w w' := by
  have hB1 : Blk ((w.alloc (.cells ca 44)).alloc (.cells cb 44)) w.heap.size 44 ca := (Blk.new _ _ _).alloc _
  have hB2 : Blk ((w.alloc (.cells ca 44)).alloc (.cells cb 44)) (w.heap.size + 1) 44 cb := by simpa using Blk.new (w.alloc (.cells ca 44)) 44 cb
  have hbt : Below w.heap.size w ((w.alloc (.cells ca 44)).alloc (.cells cb 44)) := (below_new w _).alloc (by simp) _
  have HZA := Lib.hid ha.size
  have HZB := Lib.hid hb.size
  have HLA := Lib.hid ha.long
  have HLB := Lib.hid hb.long
  have HBa0 := Lib.hid hB1
  have HBb0 := Lib.hid hB2
  have HT0 := Lib.hid hbt
  have hVA : PkV w ca Pa := ha.pkv (by unfold lenP at h1; omega)
  have hVB : PkV w cb Pb := hb.pkv (by unfold lenP at h2; omega)
  have HVa0 := Lib.hid (hVA.below HT0.out)
  have HVb0 := Lib.hid (hVB.below HT0.out)
  have HY0 := Lib.hid (hl.below HT0.out)
  have HNA := Lib.hid hVA.pkn
  have HNB := Lib.hid hVB.pkn
  have HOA := Lib.hid hVA.one
  have f1 : decide (40000 < lenP Pa) = false := decide_eq_false h1
  rw [f1] at HLA
  have f2 : decide (40000 < lenP Pb) = false := decide_eq_false h2
  rw [f2] at HLB
  have f3 : decide ((40000 : Int) < (l.length : Int)) = false := decide_eq_false (by omega)
  have HLM : Hid (l.length ≤ 1000000 ∧ l.length ≤ c ∧ c ≤ 9223372036854775807) := ⟨by omega, hlc, hc⟩
  have HD := Lib.hid hd
  have HP := Lib.hid hp
  have HQ := Lib.hid hq
  clear hq
  clear f1 f2 h1 h2 h3 hlc hc hl ha hb hVA hVB hd hp
  clear hB1 hB2 hbt
  go_enter Tryd.func4, Tryd.ntmps4
  go_wp2_with (refine wpList_load_blk rfl (ty := 44) rfl rfl HBa0.out Tryd.underlying44 rfl (pk_56 HZA.out) ?_; refine Hid.out ?_)
  refine Lib.hid ?_
  generalize ((w.alloc (.cells ca 44)).alloc (.cells cb 44)) = w0 at *
  go_wp2_with fail
  refine (HLA.out w0).mono ?_
  rintro e w1 ⟨rfl, hb1⟩
  have HBa1 := Lib.hid (HBa0.out.below hb1 HBa0.out.lt)
  have HBb1 := Lib.hid (HBb0.out.below hb1 HBb0.out.lt)
  have HT1 := Lib.hid (below_call HT0.out HT0.out.size hb1)
  have HVa1 := Lib.hid (HVa0.out.below hb1)
  have HVb1 := Lib.hid (HVb0.out.below hb1)
  have HY1 := Lib.hid (HY0.out.below hb1)
  clear HBa0 HBb0 HT0 HVa0 HVb0 HY0
  clear hb1
  go_wp2_with (refine wpList_load_blkG (by kernel_rfl) (ty := 44) rfl rfl HBb1.out Tryd.underlying44 rfl (pk_56 HZB.out) ?_; refine Hid.out ?_)
  refine Lib.hid ?_
  go_wp2_with fail
  refine (HLB.out w1).mono ?_
  rintro e w2 ⟨rfl, hb2⟩
  have HBa2 := Lib.hid (HBa1.out.below hb2 HBa1.out.lt)
  have HBb2 := Lib.hid (HBb1.out.below hb2 HBb1.out.lt)
  have HT2 := Lib.hid (below_call HT1.out HT1.out.size hb2)
  have HVa2 := Lib.hid (HVa1.out.below hb2)
  have HVb2 := Lib.hid (HVb1.out.below hb2)
  have HY2 := Lib.hid (HY1.out.below hb2)
  clear HBa1 HBb1 HT1 HVa1 HVb1 HY1
  clear hb2
  go_wp2_with fail
  refine (decode_any A c l w2 HY2.out HLM.out.1 HLM.out.2.1 HLM.out.2.2).mono ?_
  rintro e w3 ⟨hdp, hb3⟩
  unfold DecPost at hdp
  rw [HD.out] at hdp
  obtain rfl := hdp
  have HBa3 := Lib.hid (HBa2.out.below hb3 HBa2.out.lt)
  have HBb3 := Lib.hid (HBb2.out.below hb3 HBb2.out.lt)
  have HT3 := Lib.hid (below_call HT2.out HT2.out.size hb3)
  have HVa3 := Lib.hid (HVa2.out.below hb3)
  have HVb3 := Lib.hid (HVb2.out.below hb3)
  have HY3 := Lib.hid (HY2.out.below hb3)
  clear HBa2 HBb2 HT2 HVa2 HVb2 HY2
  clear hb3 f3
  go_wp2_with (refine wpList_alloc_blk rfl rfl zero_pk ?_; rintro gd wz hgz hBz hbz; refine Hid.out ?_)
  refine Lib.hid ?_
  go_wp2_with (refine wpList_store_blk rfl rfl rfl rfl hBz rfl (pk_56 zPk_size) zPk_oneL ?_; rintro w4 hBy hmy; refine Hid.out ?_)
  refine Lib.hid ?_
  have hby : Below w3.heap.size w3 w4 := hbz.trans (hmy.to_below hbz.size fun b hb e => by omega)
  have HBa4 := Lib.hid (HBa3.out.below hby HBa3.out.lt)
  have HBb4 := Lib.hid (HBb3.out.below hby HBb3.out.lt)
  have HT4 := Lib.hid (below_call HT3.out HT3.out.size hby)
  have HVa4 := Lib.hid (HVa3.out.below hby)
  have HVb4 := Lib.hid (HVb3.out.below hby)
  have HY4 := Lib.hid (HY3.out.below hby)
  clear HBa3 HBb3 HT3 HVa3 HVb3 HY3
  have HBd4 := Lib.hid hBy
  clear hBz hbz hgz hBy hmy hby
  clear HBd4
  clear HY4
  go_wp2_with (refine wpList_load_blk rfl (ty := 44) rfl rfl HBa4.out Tryd.underlying44 rfl (pk_56 HZA.out) ?_; refine Hid.out ?_)
  refine Lib.hid ?_
  go_wp2_with fail
  refine (encode_any HVa4.out).mono ?_
  rintro e w5 ⟨he, hbn⟩
  obtain ⟨gx, cx, rfl, hox, hx1, hx2⟩ := he.get HP.out (x := (enc Pa).1) rfl (n := (Crc.sealed (enc Pa).1).length) (by rw [sealed_len])
  have HBa5 := Lib.hid (HBa4.out.below hbn HBa4.out.lt)
  have HBb5 := Lib.hid (HBb4.out.below hbn HBb4.out.lt)
  have HT5 := Lib.hid (below_call HT4.out HT4.out.size hbn)
  have HVa5 := Lib.hid (HVa4.out.below hbn)
  have HVb5 := Lib.hid (HVb4.out.below hbn)
  clear HBa4 HBb4 HT4 HVa4 HVb4
  have HX5 := Lib.hid hox
  have hxl : (Crc.sealed (enc Pa).1).length ≤ 16384 := by rw [sealed_len]; exact HP.out.2
  have HDX := Lib.hid (decode_any (some ⟨gx, 0, none⟩) cx (Crc.sealed (enc Pa).1) w5 (own_bytes HX5.out) (by omega) hx1 hx2)
  have hxg : decide ((16384 : Int) < ((Crc.sealed (enc Pa).1).length : Int)) = false := decide_eq_false (by omega)
  obtain ⟨X, hX⟩ : ∃ X, X = Crc.sealed (enc Pa).1 := ⟨_, rfl⟩
  rw [← hX] at HDX hxg HX5
  rw [← hX]
  have HXE := Lib.hid hX
  clear hbn hox hx1 hx2 hxl hX
  go_wp2_with fail
  refine HDX.out.mono ?_
  rintro e w6 ⟨hdp, hbn⟩
  obtain ⟨E, hE, hEP⟩ := enc_back HNA.out HP.out
  unfold DecPost at hdp
  rw [HXE.out, hE] at hdp
  obtain ⟨ce2, rfl, hpo⟩ := hdp
  have HBa6 := Lib.hid (HBa5.out.below hbn HBa5.out.lt)
  have HBb6 := Lib.hid (HBb5.out.below hbn HBb5.out.lt)
  have HT6 := Lib.hid (below_call HT5.out HT5.out.size hbn)
  have HVa6 := Lib.hid (HVa5.out.below hbn)
  have HVb6 := Lib.hid (HVb5.out.below hbn)
  have HX6 := Lib.hid (own_call HX5.out hbn)
  clear HBa5 HBb5 HT5 HVa5 HVb5 HX5
  have HVe6 := Lib.hid hpo.pk
  have HZE := Lib.hid hpo.pk.size
  have HOE := Lib.hid hpo.pk.one
  have HEP := Lib.hid hEP
  clear hbn hpo HDX hE hEP
  go_wp2_with (refine wpList_alloc_blk rfl rfl zero_pk ?_; rintro ge wz hgz hBz hbz; refine Hid.out ?_)
  refine Lib.hid ?_
  go_wp2_with (refine wpList_store_blk rfl rfl rfl rfl hBz (by rw [HZE.out]; rfl) (pk_56 HZE.out) HOE.out ?_; rintro w7 hBy hmy; refine Hid.out ?_)
  refine Lib.hid ?_
  have hby : Below w6.heap.size w6 w7 := hbz.trans (hmy.to_below hbz.size fun b hb e => by omega)
  have HBa7 := Lib.hid (HBa6.out.below hby HBa6.out.lt)
  have HBb7 := Lib.hid (HBb6.out.below hby HBb6.out.lt)
  have HT7 := Lib.hid (below_call HT6.out HT6.out.size hby)
  have HVa7 := Lib.hid (HVa6.out.below hby)
  have HVb7 := Lib.hid (HVb6.out.below hby)
  have HX7 := Lib.hid (own_call HX6.out hby)
  have HVe7 := Lib.hid (HVe6.out.below hby)
  clear HBa6 HBb6 HT6 HVa6 HVb6 HX6 HVe6
  have HBe7 := Lib.hid hBy
  clear hBz hbz hgz hBy hmy hby
  go_wp2_with (refine wpList_load_blkG (by kernel_rfl) (ty := 44) rfl rfl HBe7.out Tryd.underlying44 rfl (pk_56 HZE.out) ?_; refine Hid.out ?_)
  refine Lib.hid ?_
  go_wp2_with (refine wpList_load_blkG (by kernel_rfl) (ty := 44) rfl rfl HBa7.out Tryd.underlying44 rfl (pk_56 HZA.out) ?_; refine Hid.out ?_)
  refine Lib.hid ?_
  go_wp2_with fail
  refine (same_any HVe7.out HVa7.out).mono ?_
  rintro e w8 ⟨rfl, hbn⟩
  rw [decide_eq_true HEP.out]
  have HBa8 := Lib.hid (HBa7.out.below hbn HBa7.out.lt)
  have HBb8 := Lib.hid (HBb7.out.below hbn HBb7.out.lt)
  have HT8 := Lib.hid (below_call HT7.out HT7.out.size hbn)
  have HVa8 := Lib.hid (HVa7.out.below hbn)
  have HVb8 := Lib.hid (HVb7.out.below hbn)
  have HX8 := Lib.hid (own_call HX7.out hbn)
  have HVe8 := Lib.hid (HVe7.out.below hbn)
  have HBe8 := Lib.hid (HBe7.out.below hbn HBe7.out.lt)
  clear HBa7 HBb7 HT7 HVa7 HVb7 HX7 HVe7 HBe7
  clear hbn
  clear HVe8 HBe8
  go_wp2_with (refine wpList_load_blk rfl (ty := 44) rfl rfl HBb8.out Tryd.underlying44 rfl (pk_56 HZB.out) ?_; refine Hid.out ?_)
  refine Lib.hid ?_
  clear hxg
  go_wp2_with fail
  refine (encode_any HVb8.out).mono ?_
  rintro e w9 ⟨he, hbn⟩
  obtain ⟨q, hq, rfl⟩ := he.not HQ.out
  have HBa9 := Lib.hid (HBa8.out.below hbn HBa8.out.lt)
  have HBb9 := Lib.hid (HBb8.out.below hbn HBb8.out.lt)
  have HT9 := Lib.hid (below_call HT8.out HT8.out.size hbn)
  have HVa9 := Lib.hid (HVa8.out.below hbn)
  have HVb9 := Lib.hid (HVb8.out.below hbn)
  have HX9 := Lib.hid (own_call HX8.out hbn)
  clear HBa8 HBb8 HT8 HVa8 HVb8 HX8
  clear hbn he
  have hqn : (q != 0) = true := by rcases hq with rfl | rfl <;> rfl
  clear hq
  go_wp2_with fail
  refine PF.pf_begin (by kernel_rfl) ?_
  refine PF.pf_take0 0 (by kernel_rfl) rfl (fun _ _ _ _ _ h => h) (by kernel_rfl) (fun u => by go_simp; try rfl) ?_
  try simp only [Act.put, List.setIfInBounds_toArray, List.set_cons_zero, List.set_cons_succ]
  refine PF.pf_take0 1 (by kernel_rfl) rfl (fun _ _ _ _ _ h => h) (by kernel_rfl) (fun u => by go_simp; try rfl) ?_
  try simp only [Act.put, List.setIfInBounds_toArray, List.set_cons_zero, List.set_cons_succ]
  refine PF.pf_take0 2 (by kernel_rfl) rfl (fun _ _ _ _ _ h => h) (by kernel_rfl) (fun u => by go_simp; try rfl) ?_
  try simp only [Act.put, List.setIfInBounds_toArray, List.set_cons_zero, List.set_cons_succ]
  refine PF.pf_skip0 3 (by kernel_rfl) rfl (fun _ _ _ _ _ h => h) (by kernel_rfl) ?_
  try simp only [Act.put, List.setIfInBounds_toArray, List.set_cons_zero, List.set_cons_succ]
  refine PF.pf_skip0 4 (by kernel_rfl) rfl (fun _ _ _ _ _ h => h) (by kernel_rfl) ?_
  try simp only [Act.put, List.setIfInBounds_toArray, List.set_cons_zero, List.set_cons_succ]
  refine PF.pf_skip0 5 (by kernel_rfl) rfl (fun _ _ _ _ _ h => h) (by kernel_rfl) ?_
  try simp only [Act.put, List.setIfInBounds_toArray, List.set_cons_zero, List.set_cons_succ]
  refine PF.pf_skip0 6 (by kernel_rfl) rfl (fun _ _ _ _ _ h => h) (by kernel_rfl) ?_
  try simp only [Act.put, List.setIfInBounds_toArray, List.set_cons_zero, List.set_cons_succ]
  refine PF.pf_skip0 7 (by kernel_rfl) rfl (fun _ _ _ _ _ h => h) (by kernel_rfl) ?_
  try simp only [Act.put, List.setIfInBounds_toArray, List.set_cons_zero, List.set_cons_succ]
  refine PF.pf_skip0 8 (by kernel_rfl) rfl (fun _ _ _ _ _ h => h) (by kernel_rfl) ?_
  try simp only [Act.put, List.setIfInBounds_toArray, List.set_cons_zero, List.set_cons_succ]
  refine PF.pf_skip0 9 (by kernel_rfl) rfl (fun _ _ _ _ _ h => h) (by kernel_rfl) ?_
  try simp only [Act.put, List.setIfInBounds_toArray, List.set_cons_zero, List.set_cons_succ]
  refine PF.pf_skip 10 (by kernel_rfl) rfl (by kernel_rfl) ?_
  try simp only [Act.put, List.setIfInBounds_toArray, List.set_cons_zero, List.set_cons_succ]
  refine PF.pf_skip0 11 (by kernel_rfl) rfl (fun _ _ _ _ _ h => h) (by kernel_rfl) ?_
  try simp only [Act.put, List.setIfInBounds_toArray, List.set_cons_zero, List.set_cons_succ]
  refine PF.pf_take0 12 (by kernel_rfl) rfl (fun _ _ _ _ _ h => h) (by kernel_rfl) (fun u => by go_simp; try rfl) ?_
  try simp only [Act.put, List.setIfInBounds_toArray, List.set_cons_zero, List.set_cons_succ]
  refine PF.pf_take0 13 (by kernel_rfl) rfl (fun _ _ _ _ _ h => h) (by kernel_rfl) (fun u => by go_simp; try rfl) ?_
  try simp only [Act.put, List.setIfInBounds_toArray, List.set_cons_zero, List.set_cons_succ]
  refine PF.pf_exec 14 (by kernel_rfl) rfl (by kernel_rfl) (fun K hK => ?_)
  go_simp
  refine (awake_any _).mono ?_
  rintro e w99 ⟨rfl, hb99⟩
  refine hK _ _ (by repeat (first | exact PF.owes_nil | refine PF.owes_left ?_ | refine PF.owes_no (by decide +kernel) ?_ | refine PF.owes_yes (by first | rfl | assumption | go_simp) ?_)) ?_
  clear hK K
  try simp only [Act.put, List.setIfInBounds_toArray, List.set_cons_zero, List.set_cons_succ]
  refine PF.pf_take0 15 (by kernel_rfl) rfl (fun _ _ _ _ _ h => h) (by kernel_rfl) (fun u => by go_simp; try rfl) ?_
  try simp only [Act.put, List.setIfInBounds_toArray, List.set_cons_zero, List.set_cons_succ]
  refine PF.pf_take0 16 (by kernel_rfl) rfl (fun _ _ _ _ _ h => h) (by kernel_rfl) (fun u => by go_simp; try rfl) ?_
  try simp only [Act.put, List.setIfInBounds_toArray, List.set_cons_zero, List.set_cons_succ]
  refine PF.pf_done (by kernel_rfl) ?_
  go_wp2_with fail
  go_ret
  exact ⟨rfl, below_call HT9.out HT9.out.size (((Below.refl _ _).drew).trans hb99)⟩
set_option maxRecDepth 100000 in
set_option maxHeartbeats 16000000 in
theorem back_none_qyes {w : World} {ca cb : Array Value} {Pa Pb : Pk} (ha : PkA w ca Pa) (hb : PkA w cb Pb) {A : Option Addr} {l : List UInt8} {c : Nat} (hl : Bytes w A l) (hlc : l.length ≤ c) (hc : c ≤ 9223372036854775807) (h1 : ¬ 40000 < lenP Pa) (h2 : ¬ 40000 < lenP Pb) (h3 : ¬ 40000 < l.length) (hd : dec l = none) (hp : OkL Pa) (hq : OkL Pb) :
    Calls Tryd.prog 4 #[.agg ca, .agg cb, .slice A l.length c] w fun e w' => e = .returned (.bool true) ∧ Below w.heap.size w w' := by
  have hB1 : Blk ((w.alloc (.cells ca 44)).alloc (.cells cb 44)) w.heap.size 44 ca := (Blk.new _ _ _).alloc _
  have hB2 : Blk ((w.alloc (.cells ca 44)).alloc (.cells cb 44)) (w.heap.size + 1) 44 cb := by simpa using Blk.new (w.alloc (.cells ca 44)) 44 cb
  have hbt : Below w.heap.size w ((w.alloc (.cells ca 44)).alloc (.cells cb 44)) := (below_new w _).alloc (by simp) _
  have HZA := Lib.hid ha.size
  have HZB := Lib.hid hb.size
  have HLA := Lib.hid ha.long
  have HLB := Lib.hid hb.long
  have HBa0 := Lib.hid hB1
  have HBb0 := Lib.hid hB2
  have HT0 := Lib.hid hbt
  have hVA : PkV w ca Pa := ha.pkv (by unfold lenP at h1; omega)
  have hVB : PkV w cb Pb := hb.pkv (by unfold lenP at h2; omega)
  have HVa0 := Lib.hid (hVA.below HT0.out)
  have HVb0 := Lib.hid (hVB.below HT0.out)
  have HY0 := Lib.hid (hl.below HT0.out)
  have HNA := Lib.hid hVA.pkn
  have HNB := Lib.hid hVB.pkn
  have HOA := Lib.hid hVA.one
  have f1 : decide (40000 < lenP Pa) = false := decide_eq_false h1
  rw [f1] at HLA
  have f2 : decide (40000 < lenP Pb) = false := decide_eq_false h2
  rw [f2] at HLB
  have f3 : decide ((40000 : Int) < (l.length : Int)) = false := decide_eq_false (by omega)
  have HLM : Hid (l.length ≤ 1000000 ∧ l.length ≤ c ∧ c ≤ 9223372036854775807) := ⟨by omega, hlc, hc⟩
  have HD := Lib.hid hd
  have HP := Lib.hid hp
  have HQ := Lib.hid hq
  clear hq
  clear f1 f2 h1 h2 h3 hlc hc hl ha hb hVA hVB hd hp
  clear hB1 hB2 hbt
  go_enter Tryd.func4, Tryd.ntmps4
  go_wp2_with (refine wpList_load_blk rfl (ty := 44) rfl rfl HBa0.out Tryd.underlying44 rfl (pk_56 HZA.out) ?_; refine Hid.out ?_)
  refine Lib.hid ?_
  generalize ((w.alloc (.cells ca 44)).alloc (.cells cb 44)) = w0 at *
  go_wp2_with fail
  refine (HLA.out w0).mono ?_
  rintro e w1 ⟨rfl, hb1⟩
  have HBa1 := Lib.hid (HBa0.out.below hb1 HBa0.out.lt)
  have HBb1 := Lib.hid (HBb0.out.below hb1 HBb0.out.lt)
  have HT1 := Lib.hid (below_call HT0.out HT0.out.size hb1)
  have HVa1 := Lib.hid (HVa0.out.below hb1)
  have HVb1 := Lib.hid (HVb0.out.below hb1)
  have HY1 := Lib.hid (HY0.out.below hb1)
  clear HBa0 HBb0 HT0 HVa0 HVb0 HY0
  clear hb1
  go_wp2_with (refine wpList_load_blkG (by kernel_rfl) (ty := 44) rfl rfl HBb1.out Tryd.underlying44 rfl (pk_56 HZB.out) ?_; refine Hid.out ?_)
  refine Lib.hid ?_
  go_wp2_with fail
  refine (HLB.out w1).mono ?_
  rintro e w2 ⟨rfl, hb2⟩
  have HBa2 := Lib.hid (HBa1.out.below hb2 HBa1.out.lt)
  have HBb2 := Lib.hid (HBb1.out.below hb2 HBb1.out.lt)
  have HT2 := Lib.hid (below_call HT1.out HT1.out.size hb2)
  have HVa2 := Lib.hid (HVa1.out.below hb2)
  have HVb2 := Lib.hid (HVb1.out.below hb2)
  have HY2 := Lib.hid (HY1.out.below hb2)
  clear HBa1 HBb1 HT1 HVa1 HVb1 HY1
  clear hb2
  go_wp2_with fail
  refine (decode_any A c l w2 HY2.out HLM.out.1 HLM.out.2.1 HLM.out.2.2).mono ?_
  rintro e w3 ⟨hdp, hb3⟩
  unfold DecPost at hdp
  rw [HD.out] at hdp
  obtain rfl := hdp
  have HBa3 := Lib.hid (HBa2.out.below hb3 HBa2.out.lt)
  have HBb3 := Lib.hid (HBb2.out.below hb3 HBb2.out.lt)
  have HT3 := Lib.hid (below_call HT2.out HT2.out.size hb3)
  have HVa3 := Lib.hid (HVa2.out.below hb3)
  have HVb3 := Lib.hid (HVb2.out.below hb3)
  have HY3 := Lib.hid (HY2.out.below hb3)
  clear HBa2 HBb2 HT2 HVa2 HVb2 HY2
  clear hb3 f3
  go_wp2_with (refine wpList_alloc_blk rfl rfl zero_pk ?_; rintro gd wz hgz hBz hbz; refine Hid.out ?_)
  refine Lib.hid ?_
  go_wp2_with (refine wpList_store_blk rfl rfl rfl rfl hBz rfl (pk_56 zPk_size) zPk_oneL ?_; rintro w4 hBy hmy; refine Hid.out ?_)
  refine Lib.hid ?_
  have hby : Below w3.heap.size w3 w4 := hbz.trans (hmy.to_below hbz.size fun b hb e => by omega)
  have HBa4 := Lib.hid (HBa3.out.below hby HBa3.out.lt)
  have HBb4 := Lib.hid (HBb3.out.below hby HBb3.out.lt)
  have HT4 := Lib.hid (below_call HT3.out HT3.out.size hby)
  have HVa4 := Lib.hid (HVa3.out.below hby)
  have HVb4 := Lib.hid (HVb3.out.below hby)
  have HY4 := Lib.hid (HY3.out.below hby)
  clear HBa3 HBb3 HT3 HVa3 HVb3 HY3
  have HBd4 := Lib.hid hBy
  clear hBz hbz hgz hBy hmy hby
  clear HBd4
  clear HY4
  go_wp2_with (refine wpList_load_blk rfl (ty := 44) rfl rfl HBa4.out Tryd.underlying44 rfl (pk_56 HZA.out) ?_; refine Hid.out ?_)
  refine Lib.hid ?_
  go_wp2_with fail
  refine (encode_any HVa4.out).mono ?_
  rintro e w5 ⟨he, hbn⟩
  obtain ⟨gx, cx, rfl, hox, hx1, hx2⟩ := he.get HP.out (x := (enc Pa).1) rfl (n := (Crc.sealed (enc Pa).1).length) (by rw [sealed_len])
  have HBa5 := Lib.hid (HBa4.out.below hbn HBa4.out.lt)
  have HBb5 := Lib.hid (HBb4.out.below hbn HBb4.out.lt)
  have HT5 := Lib.hid (below_call HT4.out HT4.out.size hbn)
  have HVa5 := Lib.hid (HVa4.out.below hbn)
  have HVb5 := Lib.hid (HVb4.out.below hbn)
  clear HBa4 HBb4 HT4 HVa4 HVb4
  have HX5 := Lib.hid hox
  have hxl : (Crc.sealed (enc Pa).1).length ≤ 16384 := by rw [sealed_len]; exact HP.out.2
  have HDX := Lib.hid (decode_any (some ⟨gx, 0, none⟩) cx (Crc.sealed (enc Pa).1) w5 (own_bytes HX5.out) (by omega) hx1 hx2)
  have hxg : decide ((16384 : Int) < ((Crc.sealed (enc Pa).1).length : Int)) = false := decide_eq_false (by omega)
  obtain ⟨X, hX⟩ : ∃ X, X = Crc.sealed (enc Pa).1 := ⟨_, rfl⟩
  rw [← hX] at HDX hxg HX5
  rw [← hX]
  have HXE := Lib.hid hX
  clear hbn hox hx1 hx2 hxl hX
  go_wp2_with fail
  refine HDX.out.mono ?_
  rintro e w6 ⟨hdp, hbn⟩
  obtain ⟨E, hE, hEP⟩ := enc_back HNA.out HP.out
  unfold DecPost at hdp
  rw [HXE.out, hE] at hdp
  obtain ⟨ce2, rfl, hpo⟩ := hdp
  have HBa6 := Lib.hid (HBa5.out.below hbn HBa5.out.lt)
  have HBb6 := Lib.hid (HBb5.out.below hbn HBb5.out.lt)
  have HT6 := Lib.hid (below_call HT5.out HT5.out.size hbn)
  have HVa6 := Lib.hid (HVa5.out.below hbn)
  have HVb6 := Lib.hid (HVb5.out.below hbn)
  have HX6 := Lib.hid (own_call HX5.out hbn)
  clear HBa5 HBb5 HT5 HVa5 HVb5 HX5
  have HVe6 := Lib.hid hpo.pk
  have HZE := Lib.hid hpo.pk.size
  have HOE := Lib.hid hpo.pk.one
  have HEP := Lib.hid hEP
  clear hbn hpo HDX hE hEP
  go_wp2_with (refine wpList_alloc_blk rfl rfl zero_pk ?_; rintro ge wz hgz hBz hbz; refine Hid.out ?_)
  refine Lib.hid ?_
  go_wp2_with (refine wpList_store_blk rfl rfl rfl rfl hBz (by rw [HZE.out]; rfl) (pk_56 HZE.out) HOE.out ?_; rintro w7 hBy hmy; refine Hid.out ?_)
  refine Lib.hid ?_
  have hby : Below w6.heap.size w6 w7 := hbz.trans (hmy.to_below hbz.size fun b hb e => by omega)
  have HBa7 := Lib.hid (HBa6.out.below hby HBa6.out.lt)
  have HBb7 := Lib.hid (HBb6.out.below hby HBb6.out.lt)
  have HT7 := Lib.hid (below_call HT6.out HT6.out.size hby)
  have HVa7 := Lib.hid (HVa6.out.below hby)
  have HVb7 := Lib.hid (HVb6.out.below hby)
  have HX7 := Lib.hid (own_call HX6.out hby)
  have HVe7 := Lib.hid (HVe6.out.below hby)
  clear HBa6 HBb6 HT6 HVa6 HVb6 HX6 HVe6
  have HBe7 := Lib.hid hBy
  clear hBz hbz hgz hBy hmy hby
  go_wp2_with (refine wpList_load_blkG (by kernel_rfl) (ty := 44) rfl rfl HBe7.out Tryd.underlying44 rfl (pk_56 HZE.out) ?_; refine Hid.out ?_)
  refine Lib.hid ?_
  go_wp2_with (refine wpList_load_blkG (by kernel_rfl) (ty := 44) rfl rfl HBa7.out Tryd.underlying44 rfl (pk_56 HZA.out) ?_; refine Hid.out ?_)
  refine Lib.hid ?_
  go_wp2_with fail
  refine (same_any HVe7.out HVa7.out).mono ?_
  rintro e w8 ⟨rfl, hbn⟩
  rw [decide_eq_true HEP.out]
  have HBa8 := Lib.hid (HBa7.out.below hbn HBa7.out.lt)
  have HBb8 := Lib.hid (HBb7.out.below hbn HBb7.out.lt)
  have HT8 := Lib.hid (below_call HT7.out HT7.out.size hbn)
  have HVa8 := Lib.hid (HVa7.out.below hbn)
  have HVb8 := Lib.hid (HVb7.out.below hbn)
  have HX8 := Lib.hid (own_call HX7.out hbn)
  have HVe8 := Lib.hid (HVe7.out.below hbn)
  have HBe8 := Lib.hid (HBe7.out.below hbn HBe7.out.lt)
  clear HBa7 HBb7 HT7 HVa7 HVb7 HX7 HVe7 HBe7
  clear hbn
  clear HVe8 HBe8
  go_wp2_with (refine wpList_load_blk rfl (ty := 44) rfl rfl HBb8.out Tryd.underlying44 rfl (pk_56 HZB.out) ?_; refine Hid.out ?_)
  refine Lib.hid ?_
  clear hxg
  go_wp2_with fail
  refine (encode_any HVb8.out).mono ?_
  rintro e w9 ⟨he, hbn⟩
  obtain ⟨gy, cy, rfl, hoy, _, _⟩ := he.get HQ.out (x := (enc Pb).1) rfl (n := (Crc.sealed (enc Pb).1).length) (by rw [sealed_len])
  have hiff := (sealed_inj (a := (enc Pa).1) (b := (enc Pb).1)).trans (enc_inj HNA.out HNB.out HP.out.1 HQ.out.1 (by have := HP.out.2; omega))
  obtain ⟨Y, hY⟩ : ∃ Y, Y = Crc.sealed (enc Pb).1 := ⟨_, rfl⟩
  rw [← hY] at hoy hiff
  rw [← HXE.out] at hiff
  rw [← hY]
  have HBa9 := Lib.hid (HBa8.out.below hbn HBa8.out.lt)
  have HBb9 := Lib.hid (HBb8.out.below hbn HBb8.out.lt)
  have HT9 := Lib.hid (below_call HT8.out HT8.out.size hbn)
  have HVa9 := Lib.hid (HVa8.out.below hbn)
  have HVb9 := Lib.hid (HVb8.out.below hbn)
  have HX9 := Lib.hid (own_call HX8.out hbn)
  clear HBa8 HBb8 HT8 HVa8 HVb8 HX8
  have HYO9 := Lib.hid hoy
  have hse : ((X == Y) == decide (PkEq Pa Pb)) = true := by
    by_cases h : PkEq Pa Pb
    · rw [decide_eq_true h, beq_iff_eq.2 (hiff.2 h)]; rfl
    · rw [decide_eq_false h, beq_eq_false_iff_ne.2 fun e => h (hiff.1 e)]; rfl
  have HSE := Lib.hid hse
  clear hbn he hoy hiff hY hse
  go_wp2_with fail
  refine PF.pf_begin (by kernel_rfl) ?_
  refine PF.pf_take0 0 (by kernel_rfl) rfl (fun _ _ _ _ _ h => h) (by kernel_rfl) (fun u => by go_simp; try rfl) ?_
  try simp only [Act.put, List.setIfInBounds_toArray, List.set_cons_zero, List.set_cons_succ]
  refine PF.pf_take0 1 (by kernel_rfl) rfl (fun _ _ _ _ _ h => h) (by kernel_rfl) (fun u => by go_simp; try rfl) ?_
  try simp only [Act.put, List.setIfInBounds_toArray, List.set_cons_zero, List.set_cons_succ]
  refine PF.pf_take0 2 (by kernel_rfl) rfl (fun _ _ _ _ _ h => h) (by kernel_rfl) (fun u => by go_simp; try rfl) ?_
  try simp only [Act.put, List.setIfInBounds_toArray, List.set_cons_zero, List.set_cons_succ]
  refine PF.pf_take0 3 (by kernel_rfl) rfl (fun _ _ _ _ _ h => h) (by kernel_rfl) (fun u => by go_simp; try rfl) ?_
  try simp only [Act.put, List.setIfInBounds_toArray, List.set_cons_zero, List.set_cons_succ]
  refine PF.pf_take1 4 (fun u => Bytes u (some ⟨gx, 0, none⟩) X) (by kernel_rfl) rfl (fun _ _ _ _ _ h => h) (by kernel_rfl) (own_bytes HX9.out) (fun u hu => by (have hcv := conv_str (P := Tryd.prog) (w := u) (n := X.length) (c := cx) Tryd.underlying22 Tryd.underlying5 Tryd.underlying9 hu rfl; go_simp; rfl)) ?_
  try simp only [Act.put, List.setIfInBounds_toArray, List.set_cons_zero, List.set_cons_succ]
  refine PF.pf_take0 5 (by kernel_rfl) rfl (fun _ _ _ _ _ h => h) (by kernel_rfl) (fun u => by go_simp; try rfl) ?_
  try simp only [Act.put, List.setIfInBounds_toArray, List.set_cons_zero, List.set_cons_succ]
  refine PF.pf_take1 6 (fun u => Bytes u (some ⟨gy, 0, none⟩) Y) (by kernel_rfl) rfl (fun _ _ _ _ _ h => h) (by kernel_rfl) (own_bytes HYO9.out) (fun u hu => by (have hcv := conv_str (P := Tryd.prog) (w := u) (n := Y.length) (c := cy) Tryd.underlying22 Tryd.underlying5 Tryd.underlying9 hu rfl; go_simp; rfl)) ?_
  try simp only [Act.put, List.setIfInBounds_toArray, List.set_cons_zero, List.set_cons_succ]
  refine PF.pf_take0 7 (by kernel_rfl) rfl (fun _ _ _ _ _ h => h) (by kernel_rfl) (fun u => by go_simp; try rfl) ?_
  try simp only [Act.put, List.setIfInBounds_toArray, List.set_cons_zero, List.set_cons_succ]
  refine PF.pf_take1 8 (fun u => Blk u w.heap.size 44 ca) (by kernel_rfl) rfl (fun _ _ _ _ _ h => h) (by kernel_rfl) (HBa9.out) (fun u hu => by (exact exec_load_blk rfl rfl hu Tryd.underlying44 rfl (pk_56 HZA.out))) ?_
  try simp only [Act.put, List.setIfInBounds_toArray, List.set_cons_zero, List.set_cons_succ]
  refine PF.pf_take1 9 (fun u => Blk u (w.heap.size + 1) 44 cb) (by kernel_rfl) rfl (fun _ _ _ _ _ h => h) (by kernel_rfl) (HBb9.out) (fun u hu => by (exact exec_load_blk rfl rfl hu Tryd.underlying44 rfl (pk_56 HZB.out))) ?_
  try simp only [Act.put, List.setIfInBounds_toArray, List.set_cons_zero, List.set_cons_succ]
  refine PF.pf_exec 10 (by kernel_rfl) rfl (by kernel_rfl) (fun K hK => ?_)
  go_simp
  refine (same_any (HVa9.out.below ((Below.refl _ _).drew)) (HVb9.out.below ((Below.refl _ _).drew))).mono ?_
  rintro e w98 ⟨rfl, hb98⟩
  have HBW98 : Hid (Below w9.heap.size w9 w98) := ((Below.refl _ _).drew).trans hb98
  have HX98 := Lib.hid (own_bytes (own_call HX9.out HBW98.out))
  have HY98 := Lib.hid (own_bytes (own_call HYO9.out HBW98.out))
  clear hb98
  refine hK _ _ (by repeat (first | exact PF.owes_nil | refine PF.owes_left ?_ | refine PF.owes_no (by decide +kernel) ?_ | refine PF.owes_yes (by first | exact HX98.out | exact HY98.out) ?_)) ?_
  clear hK K
  try simp only [Act.put, List.setIfInBounds_toArray, List.set_cons_zero, List.set_cons_succ]
  refine PF.pf_take0 11 (by kernel_rfl) rfl (fun _ _ _ _ _ h => h) (by kernel_rfl) (fun u => by (have hse := HSE.out; go_simp; try rfl)) ?_
  try simp only [Act.put, List.setIfInBounds_toArray, List.set_cons_zero, List.set_cons_succ]
  refine PF.pf_take0 12 (by kernel_rfl) rfl (fun _ _ _ _ _ h => h) (by kernel_rfl) (fun u => by go_simp; try rfl) ?_
  try simp only [Act.put, List.setIfInBounds_toArray, List.set_cons_zero, List.set_cons_succ]
  refine PF.pf_take0 13 (by kernel_rfl) rfl (fun _ _ _ _ _ h => h) (by kernel_rfl) (fun u => by go_simp; try rfl) ?_
  try simp only [Act.put, List.setIfInBounds_toArray, List.set_cons_zero, List.set_cons_succ]
  refine PF.pf_exec 14 (by kernel_rfl) rfl (by kernel_rfl) (fun K hK => ?_)
  go_simp
  refine (awake_any _).mono ?_
  rintro e w99 ⟨rfl, hb99⟩
  refine hK _ _ (by repeat (first | exact PF.owes_nil | refine PF.owes_left ?_ | refine PF.owes_no (by decide +kernel) ?_ | refine PF.owes_yes (by first | rfl | assumption | go_simp) ?_)) ?_
  clear hK K
  try simp only [Act.put, List.setIfInBounds_toArray, List.set_cons_zero, List.set_cons_succ]
  refine PF.pf_take0 15 (by kernel_rfl) rfl (fun _ _ _ _ _ h => h) (by kernel_rfl) (fun u => by go_simp; try rfl) ?_
  try simp only [Act.put, List.setIfInBounds_toArray, List.set_cons_zero, List.set_cons_succ]
  refine PF.pf_take0 16 (by kernel_rfl) rfl (fun _ _ _ _ _ h => h) (by kernel_rfl) (fun u => by go_simp; try rfl) ?_
  try simp only [Act.put, List.setIfInBounds_toArray, List.set_cons_zero, List.set_cons_succ]
  refine PF.pf_done (by kernel_rfl) ?_
  go_wp2_with fail
  go_ret
  exact ⟨rfl, below_call HT9.out HT9.out.size (below_call HBW98.out HBW98.out.size hb99)⟩
set_option maxRecDepth 100000 in
set_option maxHeartbeats 16000000 in
theorem back_some_pno {w : World} {ca cb : Array Value} {Pa Pb : Pk} (ha : PkA w ca Pa) (hb : PkA w cb Pb) {A : Option Addr} {l : List UInt8} {c : Nat} (hl : Bytes w A l) (hlc : l.length ≤ c) (hc : c ≤ 9223372036854775807) (h1 : ¬ 40000 < lenP Pa) (h2 : ¬ 40000 < lenP Pb) (h3 : ¬ 40000 < l.length) {D : Pk} (hd : dec l = some D) (hp : ¬ OkL Pa) :
    Calls Tryd.prog 4 #[.agg ca, .agg cb, .slice A l.length c] w fun e w' => e = .returned (.bool true) ∧ Below w.heap.size w w' := by
  have hB1 : Blk ((w.alloc (.cells ca 44)).alloc (.cells cb 44)) w.heap.size 44 ca := (Blk.new _ _ _).alloc _
  have hB2 : Blk ((w.alloc (.cells ca 44)).alloc (.cells cb 44)) (w.heap.size + 1) 44 cb := by simpa using Blk.new (w.alloc (.cells ca 44)) 44 cb
  have hbt : Below w.heap.size w ((w.alloc (.cells ca 44)).alloc (.cells cb 44)) := (below_new w _).alloc (by simp) _
  have HZA := Lib.hid ha.size
  have HZB := Lib.hid hb.size
  have HLA := Lib.hid ha.long
  have HLB := Lib.hid hb.long
  have HBa0 := Lib.hid hB1
  have HBb0 := Lib.hid hB2
  have HT0 := Lib.hid hbt
  have hVA : PkV w ca Pa := ha.pkv (by unfold lenP at h1; omega)
  have hVB : PkV w cb Pb := hb.pkv (by unfold lenP at h2; omega)
  have HVa0 := Lib.hid (hVA.below HT0.out)
  have HVb0 := Lib.hid (hVB.below HT0.out)
  have HY0 := Lib.hid (hl.below HT0.out)
  have HNA := Lib.hid hVA.pkn
  have HNB := Lib.hid hVB.pkn
  have HOA := Lib.hid hVA.one
  have f1 : decide (40000 < lenP Pa) = false := decide_eq_false h1
  rw [f1] at HLA
  have f2 : decide (40000 < lenP Pb) = false := decide_eq_false h2
  rw [f2] at HLB
  have f3 : decide ((40000 : Int) < (l.length : Int)) = false := decide_eq_false (by omega)
  have HLM : Hid (l.length ≤ 1000000 ∧ l.length ≤ c ∧ c ≤ 9223372036854775807) := ⟨by omega, hlc, hc⟩
  have HD := Lib.hid hd
  have HP := Lib.hid hp
  clear f1 f2 h1 h2 h3 hlc hc hl ha hb hVA hVB hd hp
  clear hB1 hB2 hbt
  go_enter Tryd.func4, Tryd.ntmps4
  go_wp2_with (refine wpList_load_blk rfl (ty := 44) rfl rfl HBa0.out Tryd.underlying44 rfl (pk_56 HZA.out) ?_; refine Hid.out ?_)
  refine Lib.hid ?_
  generalize ((w.alloc (.cells ca 44)).alloc (.cells cb 44)) = w0 at *
  go_wp2_with fail
  refine (HLA.out w0).mono ?_
  rintro e w1 ⟨rfl, hb1⟩
  have HBa1 := Lib.hid (HBa0.out.below hb1 HBa0.out.lt)
  have HBb1 := Lib.hid (HBb0.out.below hb1 HBb0.out.lt)
  have HT1 := Lib.hid (below_call HT0.out HT0.out.size hb1)
  have HVa1 := Lib.hid (HVa0.out.below hb1)
  have HVb1 := Lib.hid (HVb0.out.below hb1)
  have HY1 := Lib.hid (HY0.out.below hb1)
  clear HBa0 HBb0 HT0 HVa0 HVb0 HY0
  clear hb1
  go_wp2_with (refine wpList_load_blkG (by kernel_rfl) (ty := 44) rfl rfl HBb1.out Tryd.underlying44 rfl (pk_56 HZB.out) ?_; refine Hid.out ?_)
  refine Lib.hid ?_
  go_wp2_with fail
  refine (HLB.out w1).mono ?_
  rintro e w2 ⟨rfl, hb2⟩
  have HBa2 := Lib.hid (HBa1.out.below hb2 HBa1.out.lt)
  have HBb2 := Lib.hid (HBb1.out.below hb2 HBb1.out.lt)
  have HT2 := Lib.hid (below_call HT1.out HT1.out.size hb2)
  have HVa2 := Lib.hid (HVa1.out.below hb2)
  have HVb2 := Lib.hid (HVb1.out.below hb2)
  have HY2 := Lib.hid (HY1.out.below hb2)
  clear HBa1 HBb1 HT1 HVa1 HVb1 HY1
  clear hb2
  go_wp2_with fail
  refine (decode_any A c l w2 HY2.out HLM.out.1 HLM.out.2.1 HLM.out.2.2).mono ?_
  rintro e w3 ⟨hdp, hb3⟩
  unfold DecPost at hdp
  rw [HD.out] at hdp
  obtain ⟨cd, rfl, hpo⟩ := hdp
  have HBa3 := Lib.hid (HBa2.out.below hb3 HBa2.out.lt)
  have HBb3 := Lib.hid (HBb2.out.below hb3 HBb2.out.lt)
  have HT3 := Lib.hid (below_call HT2.out HT2.out.size hb3)
  have HVa3 := Lib.hid (HVa2.out.below hb3)
  have HVb3 := Lib.hid (HVb2.out.below hb3)
  have HY3 := Lib.hid (HY2.out.below hb3)
  clear HBa2 HBb2 HT2 HVa2 HVb2 HY2
  have HVd3 := Lib.hid hpo.pk
  have HZD := Lib.hid hpo.pk.size
  have HOD := Lib.hid hpo.pk.one
  clear hb3 hpo f3
  go_wp2_with (refine wpList_alloc_blk rfl rfl zero_pk ?_; rintro gd wz hgz hBz hbz; refine Hid.out ?_)
  refine Lib.hid ?_
  go_wp2_with (refine wpList_store_blk rfl rfl rfl rfl hBz (by rw [HZD.out]; rfl) (pk_56 HZD.out) HOD.out ?_; rintro w4 hBy hmy; refine Hid.out ?_)
  refine Lib.hid ?_
  have hby : Below w3.heap.size w3 w4 := hbz.trans (hmy.to_below hbz.size fun b hb e => by omega)
  have HBa4 := Lib.hid (HBa3.out.below hby HBa3.out.lt)
  have HBb4 := Lib.hid (HBb3.out.below hby HBb3.out.lt)
  have HT4 := Lib.hid (below_call HT3.out HT3.out.size hby)
  have HVa4 := Lib.hid (HVa3.out.below hby)
  have HVb4 := Lib.hid (HVb3.out.below hby)
  have HY4 := Lib.hid (HY3.out.below hby)
  have HVd4 := Lib.hid (HVd3.out.below hby)
  clear HBa3 HBb3 HT3 HVa3 HVb3 HY3 HVd3
  have HBd4 := Lib.hid hBy
  clear hBz hbz hgz hBy hmy hby
  go_wp2_with (refine wpList_load_blk rfl (ty := 44) rfl rfl HBd4.out Tryd.underlying44 rfl (pk_56 HZD.out) ?_; refine Hid.out ?_)
  refine Lib.hid ?_
  go_wp2_with fail
  refine (encode_any HVd4.out).mono ?_
  rintro e w5 ⟨he, hb5⟩
  obtain ⟨hok, hse, hle⟩ := dec_some HD.out
  obtain ⟨ge, ce, rfl, hoe, _, _⟩ := he.get hok (x := (enc D).1) rfl (n := l.length) (by rw [← hse, sealed_len])
  rw [hse] at hoe
  have HBa5 := Lib.hid (HBa4.out.below hb5 HBa4.out.lt)
  have HBb5 := Lib.hid (HBb4.out.below hb5 HBb4.out.lt)
  have HT5 := Lib.hid (below_call HT4.out HT4.out.size hb5)
  have HVa5 := Lib.hid (HVa4.out.below hb5)
  have HVb5 := Lib.hid (HVb4.out.below hb5)
  have HY5 := Lib.hid (HY4.out.below hb5)
  have HVd5 := Lib.hid (HVd4.out.below hb5)
  have HBd5 := Lib.hid (HBd4.out.below hb5 HBd4.out.lt)
  clear HBa4 HBb4 HT4 HVa4 HVb4 HY4 HVd4 HBd4
  have hcv1 := conv_str (P := Tryd.prog) (w := w5) (n := l.length) (c := ce) Tryd.underlying22 Tryd.underlying5 Tryd.underlying9 (own_bytes hoe) rfl
  have hcv2 := conv_str (P := Tryd.prog) (w := w5) (n := l.length) (c := c) Tryd.underlying22 Tryd.underlying5 Tryd.underlying9 HY5.out rfl
  have hmy : decide (OkL D) = true := decide_eq_true hok
  have HMY := Lib.hid hmy
  clear hb5 hok hse hle hoe hmy
  go_wp2_with (refine wpList_load_blkG (by kernel_rfl) (ty := 44) rfl rfl HBd5.out Tryd.underlying44 rfl (pk_56 HZD.out) ?_; refine Hid.out ?_)
  refine Lib.hid ?_
  clear hcv1 hcv2
  go_wp2_with fail
  refine (may_any HVd5.out).mono ?_
  rintro e w6 ⟨rfl, hb6⟩
  rw [HMY.out]
  have HBa6 := Lib.hid (HBa5.out.below hb6 HBa5.out.lt)
  have HBb6 := Lib.hid (HBb5.out.below hb6 HBb5.out.lt)
  have HT6 := Lib.hid (below_call HT5.out HT5.out.size hb6)
  have HVa6 := Lib.hid (HVa5.out.below hb6)
  have HVb6 := Lib.hid (HVb5.out.below hb6)
  have HY6 := Lib.hid (HY5.out.below hb6)
  have HVd6 := Lib.hid (HVd5.out.below hb6)
  have HBd6 := Lib.hid (HBd5.out.below hb6 HBd5.out.lt)
  clear HBa5 HBb5 HT5 HVa5 HVb5 HY5 HVd5 HBd5
  clear hb6
  clear HBd6 HVd6 HY6
  go_wp2_with (refine wpList_load_blk rfl (ty := 44) rfl rfl HBa6.out Tryd.underlying44 rfl (pk_56 HZA.out) ?_; refine Hid.out ?_)
  refine Lib.hid ?_
  go_wp2_with fail
  refine (encode_any HVa6.out).mono ?_
  rintro e w7 ⟨he, hbn⟩
  obtain ⟨q, hq, rfl⟩ := he.not HP.out
  have HBa7 := Lib.hid (HBa6.out.below hbn HBa6.out.lt)
  have HBb7 := Lib.hid (HBb6.out.below hbn HBb6.out.lt)
  have HT7 := Lib.hid (below_call HT6.out HT6.out.size hbn)
  have HVa7 := Lib.hid (HVa6.out.below hbn)
  have HVb7 := Lib.hid (HVb6.out.below hbn)
  clear HBa6 HBb6 HT6 HVa6 HVb6
  clear hbn
  have hqn : (q != 0) = true := by rcases hq with rfl | rfl <;> rfl
  clear hq
  go_wp2_with (refine wpList_load_blkG (by kernel_rfl) (ty := 44) rfl rfl HBa7.out Tryd.underlying44 rfl (pk_56 HZA.out) ?_; refine Hid.out ?_)
  refine Lib.hid ?_
  go_wp2_with fail
  refine (may_any HVa7.out).mono ?_
  rintro e w8 ⟨rfl, hbn⟩
  rw [decide_eq_false HP.out]
  have HBa8 := Lib.hid (HBa7.out.below hbn HBa7.out.lt)
  have HBb8 := Lib.hid (HBb7.out.below hbn HBb7.out.lt)
  have HT8 := Lib.hid (below_call HT7.out HT7.out.size hbn)
  have HVa8 := Lib.hid (HVa7.out.below hbn)
  have HVb8 := Lib.hid (HVb7.out.below hbn)
  clear HBa7 HBb7 HT7 HVa7 HVb7
  clear hbn
  go_wp2_with fail
  refine (awake_any w8).mono ?_
  rintro e w' ⟨rfl, hb'⟩
  have HBa' := Lib.hid (HBa8.out.below hb' HBa8.out.lt)
  have HBb' := Lib.hid (HBb8.out.below hb' HBb8.out.lt)
  have HT' := Lib.hid (below_call HT8.out HT8.out.size hb')
  have HVa' := Lib.hid (HVa8.out.below hb')
  have HVb' := Lib.hid (HVb8.out.below hb')
  clear HBa8 HBb8 HT8 HVa8 HVb8
  clear hb'
  go_wp2_with fail
  go_ret
  exact ⟨rfl, HT'.out⟩
set_option maxRecDepth 100000 in
set_option maxHeartbeats 16000000 in
theorem back_some_qno {w : World} {ca cb : Array Value} {Pa Pb : Pk} (ha : PkA w ca Pa) (hb : PkA w cb Pb) {A : Option Addr} {l : List UInt8} {c : Nat} (hl : Bytes w A l) (hlc : l.length ≤ c) (hc : c ≤ 9223372036854775807) (h1 : ¬ 40000 < lenP Pa) (h2 : ¬ 40000 < lenP Pb) (h3 : ¬ 40000 < l.length) {D : Pk} (hd : dec l = some D) (hp : OkL Pa) (hq : ¬ OkL Pb) :
    Calls Tryd.prog 4 #[.agg ca, .agg cb, .slice A l.length c] w fun e w' => e = .returned (.bool true) ∧ Below w.heap.size w w' := by
  have hB1 : Blk ((w.alloc (.cells ca 44)).alloc (.cells cb 44)) w.heap.size 44 ca := (Blk.new _ _ _).alloc _
  have hB2 : Blk ((w.alloc (.cells ca 44)).alloc (.cells cb 44)) (w.heap.size + 1) 44 cb := by simpa using Blk.new (w.alloc (.cells ca 44)) 44 cb
  have hbt : Below w.heap.size w ((w.alloc (.cells ca 44)).alloc (.cells cb 44)) := (below_new w _).alloc (by simp) _
  have HZA := Lib.hid ha.size
  have HZB := Lib.hid hb.size
  have HLA := Lib.hid ha.long
  have HLB := Lib.hid hb.long
  have HBa0 := Lib.hid hB1
  have HBb0 := Lib.hid hB2
  have HT0 := Lib.hid hbt
  have hVA : PkV w ca Pa := ha.pkv (by unfold lenP at h1; omega)
  have hVB : PkV w cb Pb := hb.pkv (by unfold lenP at h2; omega)
  have HVa0 := Lib.hid (hVA.below HT0.out)
  have HVb0 := Lib.hid (hVB.below HT0.out)
  have HY0 := Lib.hid (hl.below HT0.out)
  have HNA := Lib.hid hVA.pkn
  have HNB := Lib.hid hVB.pkn
  have HOA := Lib.hid hVA.one
  have f1 : decide (40000 < lenP Pa) = false := decide_eq_false h1
  rw [f1] at HLA
  have f2 : decide (40000 < lenP Pb) = false := decide_eq_false h2
  rw [f2] at HLB
  have f3 : decide ((40000 : Int) < (l.length : Int)) = false := decide_eq_false (by omega)
  have HLM : Hid (l.length ≤ 1000000 ∧ l.length ≤ c ∧ c ≤ 9223372036854775807) := ⟨by omega, hlc, hc⟩
  have HD := Lib.hid hd
  have HP := Lib.hid hp
  have HQ := Lib.hid hq
  clear hq
  clear f1 f2 h1 h2 h3 hlc hc hl ha hb hVA hVB hd hp
  clear hB1 hB2 hbt
  go_enter Tryd.func4, Tryd.ntmps4
  go_wp2_with (refine wpList_load_blk rfl (ty := 44) rfl rfl HBa0.out Tryd.underlying44 rfl (pk_56 HZA.out) ?_; refine Hid.out ?_)
  refine Lib.hid ?_
  generalize ((w.alloc (.cells ca 44)).alloc (.cells cb 44)) = w0 at *
  go_wp2_with fail
  refine (HLA.out w0).mono ?_
  rintro e w1 ⟨rfl, hb1⟩
  have HBa1 := Lib.hid (HBa0.out.below hb1 HBa0.out.lt)
  have HBb1 := Lib.hid (HBb0.out.below hb1 HBb0.out.lt)
  have HT1 := Lib.hid (below_call HT0.out HT0.out.size hb1)
  have HVa1 := Lib.hid (HVa0.out.below hb1)
  have HVb1 := Lib.hid (HVb0.out.below hb1)
  have HY1 := Lib.hid (HY0.out.below hb1)
  clear HBa0 HBb0 HT0 HVa0 HVb0 HY0
  clear hb1
  go_wp2_with (refine wpList_load_blkG (by kernel_rfl) (ty := 44) rfl rfl HBb1.out Tryd.underlying44 rfl (pk_56 HZB.out) ?_; refine Hid.out ?_)
  refine Lib.hid ?_
  go_wp2_with fail
  refine (HLB.out w1).mono ?_
  rintro e w2 ⟨rfl, hb2⟩
  have HBa2 := Lib.hid (HBa1.out.below hb2 HBa1.out.lt)
  have HBb2 := Lib.hid (HBb1.out.below hb2 HBb1.out.lt)
  have HT2 := Lib.hid (below_call HT1.out HT1.out.size hb2)
  have HVa2 := Lib.hid (HVa1.out.below hb2)
  have HVb2 := Lib.hid (HVb1.out.below hb2)
  have HY2 := Lib.hid (HY1.out.below hb2)
  clear HBa1 HBb1 HT1 HVa1 HVb1 HY1
  clear hb2
  go_wp2_with fail
  refine (decode_any A c l w2 HY2.out HLM.out.1 HLM.out.2.1 HLM.out.2.2).mono ?_
  rintro e w3 ⟨hdp, hb3⟩
  unfold DecPost at hdp
  rw [HD.out] at hdp
  obtain ⟨cd, rfl, hpo⟩ := hdp
  have HBa3 := Lib.hid (HBa2.out.below hb3 HBa2.out.lt)
  have HBb3 := Lib.hid (HBb2.out.below hb3 HBb2.out.lt)
  have HT3 := Lib.hid (below_call HT2.out HT2.out.size hb3)
  have HVa3 := Lib.hid (HVa2.out.below hb3)
  have HVb3 := Lib.hid (HVb2.out.below hb3)
  have HY3 := Lib.hid (HY2.out.below hb3)
  clear HBa2 HBb2 HT2 HVa2 HVb2 HY2
  have HVd3 := Lib.hid hpo.pk
  have HZD := Lib.hid hpo.pk.size
  have HOD := Lib.hid hpo.pk.one
  clear hb3 hpo f3
  go_wp2_with (refine wpList_alloc_blk rfl rfl zero_pk ?_; rintro gd wz hgz hBz hbz; refine Hid.out ?_)
  refine Lib.hid ?_
  go_wp2_with (refine wpList_store_blk rfl rfl rfl rfl hBz (by rw [HZD.out]; rfl) (pk_56 HZD.out) HOD.out ?_; rintro w4 hBy hmy; refine Hid.out ?_)
  refine Lib.hid ?_
  have hby : Below w3.heap.size w3 w4 := hbz.trans (hmy.to_below hbz.size fun b hb e => by omega)
  have HBa4 := Lib.hid (HBa3.out.below hby HBa3.out.lt)
  have HBb4 := Lib.hid (HBb3.out.below hby HBb3.out.lt)
  have HT4 := Lib.hid (below_call HT3.out HT3.out.size hby)
  have HVa4 := Lib.hid (HVa3.out.below hby)
  have HVb4 := Lib.hid (HVb3.out.below hby)
  have HY4 := Lib.hid (HY3.out.below hby)
  have HVd4 := Lib.hid (HVd3.out.below hby)
  clear HBa3 HBb3 HT3 HVa3 HVb3 HY3 HVd3
  have HBd4 := Lib.hid hBy
  clear hBz hbz hgz hBy hmy hby
  go_wp2_with (refine wpList_load_blk rfl (ty := 44) rfl rfl HBd4.out Tryd.underlying44 rfl (pk_56 HZD.out) ?_; refine Hid.out ?_)
  refine Lib.hid ?_
  go_wp2_with fail
  refine (encode_any HVd4.out).mono ?_
  rintro e w5 ⟨he, hb5⟩
  obtain ⟨hok, hse, hle⟩ := dec_some HD.out
  obtain ⟨ge, ce, rfl, hoe, _, _⟩ := he.get hok (x := (enc D).1) rfl (n := l.length) (by rw [← hse, sealed_len])
  rw [hse] at hoe
  have HBa5 := Lib.hid (HBa4.out.below hb5 HBa4.out.lt)
  have HBb5 := Lib.hid (HBb4.out.below hb5 HBb4.out.lt)
  have HT5 := Lib.hid (below_call HT4.out HT4.out.size hb5)
  have HVa5 := Lib.hid (HVa4.out.below hb5)
  have HVb5 := Lib.hid (HVb4.out.below hb5)
  have HY5 := Lib.hid (HY4.out.below hb5)
  have HVd5 := Lib.hid (HVd4.out.below hb5)
  have HBd5 := Lib.hid (HBd4.out.below hb5 HBd4.out.lt)
  clear HBa4 HBb4 HT4 HVa4 HVb4 HY4 HVd4 HBd4
  have hcv1 := conv_str (P := Tryd.prog) (w := w5) (n := l.length) (c := ce) Tryd.underlying22 Tryd.underlying5 Tryd.underlying9 (own_bytes hoe) rfl
  have hcv2 := conv_str (P := Tryd.prog) (w := w5) (n := l.length) (c := c) Tryd.underlying22 Tryd.underlying5 Tryd.underlying9 HY5.out rfl
  have hmy : decide (OkL D) = true := decide_eq_true hok
  have HMY := Lib.hid hmy
  clear hb5 hok hse hle hoe hmy
  go_wp2_with (refine wpList_load_blkG (by kernel_rfl) (ty := 44) rfl rfl HBd5.out Tryd.underlying44 rfl (pk_56 HZD.out) ?_; refine Hid.out ?_)
  refine Lib.hid ?_
  clear hcv1 hcv2
  go_wp2_with fail
  refine (may_any HVd5.out).mono ?_
  rintro e w6 ⟨rfl, hb6⟩
  rw [HMY.out]
  have HBa6 := Lib.hid (HBa5.out.below hb6 HBa5.out.lt)
  have HBb6 := Lib.hid (HBb5.out.below hb6 HBb5.out.lt)
  have HT6 := Lib.hid (below_call HT5.out HT5.out.size hb6)
  have HVa6 := Lib.hid (HVa5.out.below hb6)
  have HVb6 := Lib.hid (HVb5.out.below hb6)
  have HY6 := Lib.hid (HY5.out.below hb6)
  have HVd6 := Lib.hid (HVd5.out.below hb6)
  have HBd6 := Lib.hid (HBd5.out.below hb6 HBd5.out.lt)
  clear HBa5 HBb5 HT5 HVa5 HVb5 HY5 HVd5 HBd5
  clear hb6
  clear HBd6 HVd6 HY6
  go_wp2_with (refine wpList_load_blk rfl (ty := 44) rfl rfl HBa6.out Tryd.underlying44 rfl (pk_56 HZA.out) ?_; refine Hid.out ?_)
  refine Lib.hid ?_
  go_wp2_with fail
  refine (encode_any HVa6.out).mono ?_
  rintro e w7 ⟨he, hbn⟩
  obtain ⟨gx, cx, rfl, hox, hx1, hx2⟩ := he.get HP.out (x := (enc Pa).1) rfl (n := (Crc.sealed (enc Pa).1).length) (by rw [sealed_len])
  have HBa7 := Lib.hid (HBa6.out.below hbn HBa6.out.lt)
  have HBb7 := Lib.hid (HBb6.out.below hbn HBb6.out.lt)
  have HT7 := Lib.hid (below_call HT6.out HT6.out.size hbn)
  have HVa7 := Lib.hid (HVa6.out.below hbn)
  have HVb7 := Lib.hid (HVb6.out.below hbn)
  clear HBa6 HBb6 HT6 HVa6 HVb6
  have HX7 := Lib.hid hox
  have hxl : (Crc.sealed (enc Pa).1).length ≤ 16384 := by rw [sealed_len]; exact HP.out.2
  have HDX := Lib.hid (decode_any (some ⟨gx, 0, none⟩) cx (Crc.sealed (enc Pa).1) w7 (own_bytes HX7.out) (by omega) hx1 hx2)
  have hxg : decide ((16384 : Int) < ((Crc.sealed (enc Pa).1).length : Int)) = false := decide_eq_false (by omega)
  obtain ⟨X, hX⟩ : ∃ X, X = Crc.sealed (enc Pa).1 := ⟨_, rfl⟩
  rw [← hX] at HDX hxg HX7
  rw [← hX]
  have HXE := Lib.hid hX
  clear hbn hox hx1 hx2 hxl hX
  go_wp2_with fail
  refine HDX.out.mono ?_
  rintro e w8 ⟨hdp, hbn⟩
  obtain ⟨E, hE, hEP⟩ := enc_back HNA.out HP.out
  unfold DecPost at hdp
  rw [HXE.out, hE] at hdp
  obtain ⟨ce2, rfl, hpo⟩ := hdp
  have HBa8 := Lib.hid (HBa7.out.below hbn HBa7.out.lt)
  have HBb8 := Lib.hid (HBb7.out.below hbn HBb7.out.lt)
  have HT8 := Lib.hid (below_call HT7.out HT7.out.size hbn)
  have HVa8 := Lib.hid (HVa7.out.below hbn)
  have HVb8 := Lib.hid (HVb7.out.below hbn)
  have HX8 := Lib.hid (own_call HX7.out hbn)
  clear HBa7 HBb7 HT7 HVa7 HVb7 HX7
  have HVe8 := Lib.hid hpo.pk
  have HZE := Lib.hid hpo.pk.size
  have HOE := Lib.hid hpo.pk.one
  have HEP := Lib.hid hEP
  clear hbn hpo HDX hE hEP
  go_wp2_with (refine wpList_alloc_blk rfl rfl zero_pk ?_; rintro ge wz hgz hBz hbz; refine Hid.out ?_)
  refine Lib.hid ?_
  go_wp2_with (refine wpList_store_blk rfl rfl rfl rfl hBz (by rw [HZE.out]; rfl) (pk_56 HZE.out) HOE.out ?_; rintro w9 hBy hmy; refine Hid.out ?_)
  refine Lib.hid ?_
  have hby : Below w8.heap.size w8 w9 := hbz.trans (hmy.to_below hbz.size fun b hb e => by omega)
  have HBa9 := Lib.hid (HBa8.out.below hby HBa8.out.lt)
  have HBb9 := Lib.hid (HBb8.out.below hby HBb8.out.lt)
  have HT9 := Lib.hid (below_call HT8.out HT8.out.size hby)
  have HVa9 := Lib.hid (HVa8.out.below hby)
  have HVb9 := Lib.hid (HVb8.out.below hby)
  have HX9 := Lib.hid (own_call HX8.out hby)
  have HVe9 := Lib.hid (HVe8.out.below hby)
  clear HBa8 HBb8 HT8 HVa8 HVb8 HX8 HVe8
  have HBe9 := Lib.hid hBy
  clear hBz hbz hgz hBy hmy hby
  go_wp2_with (refine wpList_load_blkG (by kernel_rfl) (ty := 44) rfl rfl HBe9.out Tryd.underlying44 rfl (pk_56 HZE.out) ?_; refine Hid.out ?_)
  refine Lib.hid ?_
  go_wp2_with (refine wpList_load_blkG (by kernel_rfl) (ty := 44) rfl rfl HBa9.out Tryd.underlying44 rfl (pk_56 HZA.out) ?_; refine Hid.out ?_)
  refine Lib.hid ?_
  go_wp2_with fail
  refine (same_any HVe9.out HVa9.out).mono ?_
  rintro e w10 ⟨rfl, hbn⟩
  rw [decide_eq_true HEP.out]
  have HBa10 := Lib.hid (HBa9.out.below hbn HBa9.out.lt)
  have HBb10 := Lib.hid (HBb9.out.below hbn HBb9.out.lt)
  have HT10 := Lib.hid (below_call HT9.out HT9.out.size hbn)
  have HVa10 := Lib.hid (HVa9.out.below hbn)
  have HVb10 := Lib.hid (HVb9.out.below hbn)
  have HX10 := Lib.hid (own_call HX9.out hbn)
  have HVe10 := Lib.hid (HVe9.out.below hbn)
  have HBe10 := Lib.hid (HBe9.out.below hbn HBe9.out.lt)
  clear HBa9 HBb9 HT9 HVa9 HVb9 HX9 HVe9 HBe9
  clear hbn
  clear HVe10 HBe10
  go_wp2_with (refine wpList_load_blk rfl (ty := 44) rfl rfl HBb10.out Tryd.underlying44 rfl (pk_56 HZB.out) ?_; refine Hid.out ?_)
  refine Lib.hid ?_
  clear hxg
  go_wp2_with fail
  refine (encode_any HVb10.out).mono ?_
  rintro e w11 ⟨he, hbn⟩
  obtain ⟨q, hq, rfl⟩ := he.not HQ.out
  have HBa11 := Lib.hid (HBa10.out.below hbn HBa10.out.lt)
  have HBb11 := Lib.hid (HBb10.out.below hbn HBb10.out.lt)
  have HT11 := Lib.hid (below_call HT10.out HT10.out.size hbn)
  have HVa11 := Lib.hid (HVa10.out.below hbn)
  have HVb11 := Lib.hid (HVb10.out.below hbn)
  have HX11 := Lib.hid (own_call HX10.out hbn)
  clear HBa10 HBb10 HT10 HVa10 HVb10 HX10
  clear hbn he
  have hqn : (q != 0) = true := by rcases hq with rfl | rfl <;> rfl
  clear hq
  go_wp2_with fail
  refine PF.pf_begin (by kernel_rfl) ?_
  refine PF.pf_take0 0 (by kernel_rfl) rfl (fun _ _ _ _ _ h => h) (by kernel_rfl) (fun u => by go_simp; try rfl) ?_
  try simp only [Act.put, List.setIfInBounds_toArray, List.set_cons_zero, List.set_cons_succ]
  refine PF.pf_take0 1 (by kernel_rfl) rfl (fun _ _ _ _ _ h => h) (by kernel_rfl) (fun u => by go_simp; try rfl) ?_
  try simp only [Act.put, List.setIfInBounds_toArray, List.set_cons_zero, List.set_cons_succ]
  refine PF.pf_take0 2 (by kernel_rfl) rfl (fun _ _ _ _ _ h => h) (by kernel_rfl) (fun u => by go_simp; try rfl) ?_
  try simp only [Act.put, List.setIfInBounds_toArray, List.set_cons_zero, List.set_cons_succ]
  refine PF.pf_skip0 3 (by kernel_rfl) rfl (fun _ _ _ _ _ h => h) (by kernel_rfl) ?_
  try simp only [Act.put, List.setIfInBounds_toArray, List.set_cons_zero, List.set_cons_succ]
  refine PF.pf_skip0 4 (by kernel_rfl) rfl (fun _ _ _ _ _ h => h) (by kernel_rfl) ?_
  try simp only [Act.put, List.setIfInBounds_toArray, List.set_cons_zero, List.set_cons_succ]
  refine PF.pf_skip0 5 (by kernel_rfl) rfl (fun _ _ _ _ _ h => h) (by kernel_rfl) ?_
  try simp only [Act.put, List.setIfInBounds_toArray, List.set_cons_zero, List.set_cons_succ]
  refine PF.pf_skip0 6 (by kernel_rfl) rfl (fun _ _ _ _ _ h => h) (by kernel_rfl) ?_
  try simp only [Act.put, List.setIfInBounds_toArray, List.set_cons_zero, List.set_cons_succ]
  refine PF.pf_skip0 7 (by kernel_rfl) rfl (fun _ _ _ _ _ h => h) (by kernel_rfl) ?_
  try simp only [Act.put, List.setIfInBounds_toArray, List.set_cons_zero, List.set_cons_succ]
  refine PF.pf_skip0 8 (by kernel_rfl) rfl (fun _ _ _ _ _ h => h) (by kernel_rfl) ?_
  try simp only [Act.put, List.setIfInBounds_toArray, List.set_cons_zero, List.set_cons_succ]
  refine PF.pf_skip0 9 (by kernel_rfl) rfl (fun _ _ _ _ _ h => h) (by kernel_rfl) ?_
  try simp only [Act.put, List.setIfInBounds_toArray, List.set_cons_zero, List.set_cons_succ]
  refine PF.pf_skip 10 (by kernel_rfl) rfl (by kernel_rfl) ?_
  try simp only [Act.put, List.setIfInBounds_toArray, List.set_cons_zero, List.set_cons_succ]
  refine PF.pf_skip0 11 (by kernel_rfl) rfl (fun _ _ _ _ _ h => h) (by kernel_rfl) ?_
  try simp only [Act.put, List.setIfInBounds_toArray, List.set_cons_zero, List.set_cons_succ]
  refine PF.pf_take0 12 (by kernel_rfl) rfl (fun _ _ _ _ _ h => h) (by kernel_rfl) (fun u => by go_simp; try rfl) ?_
  try simp only [Act.put, List.setIfInBounds_toArray, List.set_cons_zero, List.set_cons_succ]
  refine PF.pf_take0 13 (by kernel_rfl) rfl (fun _ _ _ _ _ h => h) (by kernel_rfl) (fun u => by go_simp; try rfl) ?_
  try simp only [Act.put, List.setIfInBounds_toArray, List.set_cons_zero, List.set_cons_succ]
  refine PF.pf_exec 14 (by kernel_rfl) rfl (by kernel_rfl) (fun K hK => ?_)
  go_simp
  refine (awake_any _).mono ?_
  rintro e w99 ⟨rfl, hb99⟩
  refine hK _ _ (by repeat (first | exact PF.owes_nil | refine PF.owes_left ?_ | refine PF.owes_no (by decide +kernel) ?_ | refine PF.owes_yes (by first | rfl | assumption | go_simp) ?_)) ?_
  clear hK K
  try simp only [Act.put, List.setIfInBounds_toArray, List.set_cons_zero, List.set_cons_succ]
  refine PF.pf_take0 15 (by kernel_rfl) rfl (fun _ _ _ _ _ h => h) (by kernel_rfl) (fun u => by go_simp; try rfl) ?_
  try simp only [Act.put, List.setIfInBounds_toArray, List.set_cons_zero, List.set_cons_succ]
  refine PF.pf_take0 16 (by kernel_rfl) rfl (fun _ _ _ _ _ h => h) (by kernel_rfl) (fun u => by go_simp; try rfl) ?_
  try simp only [Act.put, List.setIfInBounds_toArray, List.set_cons_zero, List.set_cons_succ]
  refine PF.pf_done (by kernel_rfl) ?_
  go_wp2_with fail
  go_ret
  exact ⟨rfl, below_call HT11.out HT11.out.size (((Below.refl _ _).drew).trans hb99)⟩
set_option maxRecDepth 100000 in
set_option maxHeartbeats 16000000 in
theorem back_some_qyes {w : World} {ca cb : Array Value} {Pa Pb : Pk} (ha : PkA w ca Pa) (hb : PkA w cb Pb) {A : Option Addr} {l : List UInt8} {c : Nat} (hl : Bytes w A l) (hlc : l.length ≤ c) (hc : c ≤ 9223372036854775807) (h1 : ¬ 40000 < lenP Pa) (h2 : ¬ 40000 < lenP Pb) (h3 : ¬ 40000 < l.length) {D : Pk} (hd : dec l = some D) (hp : OkL Pa) (hq : OkL Pb) :
    Calls Tryd.prog 4 #[.agg ca, .agg cb, .slice A l.length c] w fun e w' => e = .returned (.bool true) ∧ Below w.heap.size w w' := by
  have hB1 : Blk ((w.alloc (.cells ca 44)).alloc (.cells cb 44)) w.heap.size 44 ca := (Blk.new _ _ _).alloc _
  have hB2 : Blk ((w.alloc (.cells ca 44)).alloc (.cells cb 44)) (w.heap.size + 1) 44 cb := by simpa using Blk.new (w.alloc (.cells ca 44)) 44 cb
  have hbt : Below w.heap.size w ((w.alloc (.cells ca 44)).alloc (.cells cb 44)) := (below_new w _).alloc (by simp) _
  have HZA := Lib.hid ha.size
  have HZB := Lib.hid hb.size
  have HLA := Lib.hid ha.long
  have HLB := Lib.hid hb.long
  have HBa0 := Lib.hid hB1
  have HBb0 := Lib.hid hB2
  have HT0 := Lib.hid hbt
  have hVA : PkV w ca Pa := ha.pkv (by unfold lenP at h1; omega)
  have hVB : PkV w cb Pb := hb.pkv (by unfold lenP at h2; omega)
  have HVa0 := Lib.hid (hVA.below HT0.out)
  have HVb0 := Lib.hid (hVB.below HT0.out)
  have HY0 := Lib.hid (hl.below HT0.out)
  have HNA := Lib.hid hVA.pkn
  have HNB := Lib.hid hVB.pkn
  have HOA := Lib.hid hVA.one
  have f1 : decide (40000 < lenP Pa) = false := decide_eq_false h1
  rw [f1] at HLA
  have f2 : decide (40000 < lenP Pb) = false := decide_eq_false h2
  rw [f2] at HLB
  have f3 : decide ((40000 : Int) < (l.length : Int)) = false := decide_eq_false (by omega)
  have HLM : Hid (l.length ≤ 1000000 ∧ l.length ≤ c ∧ c ≤ 9223372036854775807) := ⟨by omega, hlc, hc⟩
  have HD := Lib.hid hd
  have HP := Lib.hid hp
  have HQ := Lib.hid hq
  clear hq
  clear f1 f2 h1 h2 h3 hlc hc hl ha hb hVA hVB hd hp
  clear hB1 hB2 hbt
  go_enter Tryd.func4, Tryd.ntmps4
  go_wp2_with (refine wpList_load_blk rfl (ty := 44) rfl rfl HBa0.out Tryd.underlying44 rfl (pk_56 HZA.out) ?_; refine Hid.out ?_)
  refine Lib.hid ?_
  generalize ((w.alloc (.cells ca 44)).alloc (.cells cb 44)) = w0 at *
  go_wp2_with fail
  refine (HLA.out w0).mono ?_
  rintro e w1 ⟨rfl, hb1⟩
  have HBa1 := Lib.hid (HBa0.out.below hb1 HBa0.out.lt)
  have HBb1 := Lib.hid (HBb0.out.below hb1 HBb0.out.lt)
  have HT1 := Lib.hid (below_call HT0.out HT0.out.size hb1)
  have HVa1 := Lib.hid (HVa0.out.below hb1)
  have HVb1 := Lib.hid (HVb0.out.below hb1)
  have HY1 := Lib.hid (HY0.out.below hb1)
  clear HBa0 HBb0 HT0 HVa0 HVb0 HY0
  clear hb1
  go_wp2_with (refine wpList_load_blkG (by kernel_rfl) (ty := 44) rfl rfl HBb1.out Tryd.underlying44 rfl (pk_56 HZB.out) ?_; refine Hid.out ?_)
  refine Lib.hid ?_
  go_wp2_with fail
  refine (HLB.out w1).mono ?_
  rintro e w2 ⟨rfl, hb2⟩
  have HBa2 := Lib.hid (HBa1.out.below hb2 HBa1.out.lt)
  have HBb2 := Lib.hid (HBb1.out.below hb2 HBb1.out.lt)
  have HT2 := Lib.hid (below_call HT1.out HT1.out.size hb2)
  have HVa2 := Lib.hid (HVa1.out.below hb2)
  have HVb2 := Lib.hid (HVb1.out.below hb2)
  have HY2 := Lib.hid (HY1.out.below hb2)
  clear HBa1 HBb1 HT1 HVa1 HVb1 HY1
  clear hb2
  go_wp2_with fail
  refine (decode_any A c l w2 HY2.out HLM.out.1 HLM.out.2.1 HLM.out.2.2).mono ?_
  rintro e w3 ⟨hdp, hb3⟩
  unfold DecPost at hdp
  rw [HD.out] at hdp
  obtain ⟨cd, rfl, hpo⟩ := hdp
  have HBa3 := Lib.hid (HBa2.out.below hb3 HBa2.out.lt)
  have HBb3 := Lib.hid (HBb2.out.below hb3 HBb2.out.lt)
  have HT3 := Lib.hid (below_call HT2.out HT2.out.size hb3)
  have HVa3 := Lib.hid (HVa2.out.below hb3)
  have HVb3 := Lib.hid (HVb2.out.below hb3)
  have HY3 := Lib.hid (HY2.out.below hb3)
  clear HBa2 HBb2 HT2 HVa2 HVb2 HY2
  have HVd3 := Lib.hid hpo.pk
  have HZD := Lib.hid hpo.pk.size
  have HOD := Lib.hid hpo.pk.one
  clear hb3 hpo f3
  go_wp2_with (refine wpList_alloc_blk rfl rfl zero_pk ?_; rintro gd wz hgz hBz hbz; refine Hid.out ?_)
  refine Lib.hid ?_
  go_wp2_with (refine wpList_store_blk rfl rfl rfl rfl hBz (by rw [HZD.out]; rfl) (pk_56 HZD.out) HOD.out ?_; rintro w4 hBy hmy; refine Hid.out ?_)
  refine Lib.hid ?_
  have hby : Below w3.heap.size w3 w4 := hbz.trans (hmy.to_below hbz.size fun b hb e => by omega)
  have HBa4 := Lib.hid (HBa3.out.below hby HBa3.out.lt)
  have HBb4 := Lib.hid (HBb3.out.below hby HBb3.out.lt)
  have HT4 := Lib.hid (below_call HT3.out HT3.out.size hby)
  have HVa4 := Lib.hid (HVa3.out.below hby)
  have HVb4 := Lib.hid (HVb3.out.below hby)
  have HY4 := Lib.hid (HY3.out.below hby)
  have HVd4 := Lib.hid (HVd3.out.below hby)
  clear HBa3 HBb3 HT3 HVa3 HVb3 HY3 HVd3
  have HBd4 := Lib.hid hBy
  clear hBz hbz hgz hBy hmy hby
  go_wp2_with (refine wpList_load_blk rfl (ty := 44) rfl rfl HBd4.out Tryd.underlying44 rfl (pk_56 HZD.out) ?_; refine Hid.out ?_)
  refine Lib.hid ?_
  go_wp2_with fail
  refine (encode_any HVd4.out).mono ?_
  rintro e w5 ⟨he, hb5⟩
  obtain ⟨hok, hse, hle⟩ := dec_some HD.out
  obtain ⟨ge, ce, rfl, hoe, _, _⟩ := he.get hok (x := (enc D).1) rfl (n := l.length) (by rw [← hse, sealed_len])
  rw [hse] at hoe
  have HBa5 := Lib.hid (HBa4.out.below hb5 HBa4.out.lt)
  have HBb5 := Lib.hid (HBb4.out.below hb5 HBb4.out.lt)
  have HT5 := Lib.hid (below_call HT4.out HT4.out.size hb5)
  have HVa5 := Lib.hid (HVa4.out.below hb5)
  have HVb5 := Lib.hid (HVb4.out.below hb5)
  have HY5 := Lib.hid (HY4.out.below hb5)
  have HVd5 := Lib.hid (HVd4.out.below hb5)
  have HBd5 := Lib.hid (HBd4.out.below hb5 HBd4.out.lt)
  clear HBa4 HBb4 HT4 HVa4 HVb4 HY4 HVd4 HBd4
  have hcv1 := conv_str (P := Tryd.prog) (w := w5) (n := l.length) (c := ce) Tryd.underlying22 Tryd.underlying5 Tryd.underlying9 (own_bytes hoe) rfl
  have hcv2 := conv_str (P := Tryd.prog) (w := w5) (n := l.length) (c := c) Tryd.underlying22 Tryd.underlying5 Tryd.underlying9 HY5.out rfl
  have hmy : decide (OkL D) = true := decide_eq_true hok
  have HMY := Lib.hid hmy
  clear hb5 hok hse hle hoe hmy
  go_wp2_with (refine wpList_load_blkG (by kernel_rfl) (ty := 44) rfl rfl HBd5.out Tryd.underlying44 rfl (pk_56 HZD.out) ?_; refine Hid.out ?_)
  refine Lib.hid ?_
  clear hcv1 hcv2
  go_wp2_with fail
  refine (may_any HVd5.out).mono ?_
  rintro e w6 ⟨rfl, hb6⟩
  rw [HMY.out]
  have HBa6 := Lib.hid (HBa5.out.below hb6 HBa5.out.lt)
  have HBb6 := Lib.hid (HBb5.out.below hb6 HBb5.out.lt)
  have HT6 := Lib.hid (below_call HT5.out HT5.out.size hb6)
  have HVa6 := Lib.hid (HVa5.out.below hb6)
  have HVb6 := Lib.hid (HVb5.out.below hb6)
  have HY6 := Lib.hid (HY5.out.below hb6)
  have HVd6 := Lib.hid (HVd5.out.below hb6)
  have HBd6 := Lib.hid (HBd5.out.below hb6 HBd5.out.lt)
  clear HBa5 HBb5 HT5 HVa5 HVb5 HY5 HVd5 HBd5
  clear hb6
  clear HBd6 HVd6 HY6
  go_wp2_with (refine wpList_load_blk rfl (ty := 44) rfl rfl HBa6.out Tryd.underlying44 rfl (pk_56 HZA.out) ?_; refine Hid.out ?_)
  refine Lib.hid ?_
  go_wp2_with fail
  refine (encode_any HVa6.out).mono ?_
  rintro e w7 ⟨he, hbn⟩
  obtain ⟨gx, cx, rfl, hox, hx1, hx2⟩ := he.get HP.out (x := (enc Pa).1) rfl (n := (Crc.sealed (enc Pa).1).length) (by rw [sealed_len])
  have HBa7 := Lib.hid (HBa6.out.below hbn HBa6.out.lt)
  have HBb7 := Lib.hid (HBb6.out.below hbn HBb6.out.lt)
  have HT7 := Lib.hid (below_call HT6.out HT6.out.size hbn)
  have HVa7 := Lib.hid (HVa6.out.below hbn)
  have HVb7 := Lib.hid (HVb6.out.below hbn)
  clear HBa6 HBb6 HT6 HVa6 HVb6
  have HX7 := Lib.hid hox
  have hxl : (Crc.sealed (enc Pa).1).length ≤ 16384 := by rw [sealed_len]; exact HP.out.2
  have HDX := Lib.hid (decode_any (some ⟨gx, 0, none⟩) cx (Crc.sealed (enc Pa).1) w7 (own_bytes HX7.out) (by omega) hx1 hx2)
  have hxg : decide ((16384 : Int) < ((Crc.sealed (enc Pa).1).length : Int)) = false := decide_eq_false (by omega)
  obtain ⟨X, hX⟩ : ∃ X, X = Crc.sealed (enc Pa).1 := ⟨_, rfl⟩
  rw [← hX] at HDX hxg HX7
  rw [← hX]
  have HXE := Lib.hid hX
  clear hbn hox hx1 hx2 hxl hX
  go_wp2_with fail
  refine HDX.out.mono ?_
  rintro e w8 ⟨hdp, hbn⟩
  obtain ⟨E, hE, hEP⟩ := enc_back HNA.out HP.out
  unfold DecPost at hdp
  rw [HXE.out, hE] at hdp
  obtain ⟨ce2, rfl, hpo⟩ := hdp
  have HBa8 := Lib.hid (HBa7.out.below hbn HBa7.out.lt)
  have HBb8 := Lib.hid (HBb7.out.below hbn HBb7.out.lt)
  have HT8 := Lib.hid (below_call HT7.out HT7.out.size hbn)
  have HVa8 := Lib.hid (HVa7.out.below hbn)
  have HVb8 := Lib.hid (HVb7.out.below hbn)
  have HX8 := Lib.hid (own_call HX7.out hbn)
  clear HBa7 HBb7 HT7 HVa7 HVb7 HX7
  have HVe8 := Lib.hid hpo.pk
  have HZE := Lib.hid hpo.pk.size
  have HOE := Lib.hid hpo.pk.one
  have HEP := Lib.hid hEP
  clear hbn hpo HDX hE hEP
  go_wp2_with (refine wpList_alloc_blk rfl rfl zero_pk ?_; rintro ge wz hgz hBz hbz; refine Hid.out ?_)
  refine Lib.hid ?_
  go_wp2_with (refine wpList_store_blk rfl rfl rfl rfl hBz (by rw [HZE.out]; rfl) (pk_56 HZE.out) HOE.out ?_; rintro w9 hBy hmy; refine Hid.out ?_)
  refine Lib.hid ?_
  have hby : Below w8.heap.size w8 w9 := hbz.trans (hmy.to_below hbz.size fun b hb e => by omega)
  have HBa9 := Lib.hid (HBa8.out.below hby HBa8.out.lt)
  have HBb9 := Lib.hid (HBb8.out.below hby HBb8.out.lt)
  have HT9 := Lib.hid (below_call HT8.out HT8.out.size hby)
  have HVa9 := Lib.hid (HVa8.out.below hby)
  have HVb9 := Lib.hid (HVb8.out.below hby)
  have HX9 := Lib.hid (own_call HX8.out hby)
  have HVe9 := Lib.hid (HVe8.out.below hby)
  clear HBa8 HBb8 HT8 HVa8 HVb8 HX8 HVe8
  have HBe9 := Lib.hid hBy
  clear hBz hbz hgz hBy hmy hby
  go_wp2_with (refine wpList_load_blkG (by kernel_rfl) (ty := 44) rfl rfl HBe9.out Tryd.underlying44 rfl (pk_56 HZE.out) ?_; refine Hid.out ?_)
  refine Lib.hid ?_
  go_wp2_with (refine wpList_load_blkG (by kernel_rfl) (ty := 44) rfl rfl HBa9.out Tryd.underlying44 rfl (pk_56 HZA.out) ?_; refine Hid.out ?_)
  refine Lib.hid ?_
  go_wp2_with fail
  refine (same_any HVe9.out HVa9.out).mono ?_
  rintro e w10 ⟨rfl, hbn⟩
  rw [decide_eq_true HEP.out]
  have HBa10 := Lib.hid (HBa9.out.below hbn HBa9.out.lt)
  have HBb10 := Lib.hid (HBb9.out.below hbn HBb9.out.lt)
  have HT10 := Lib.hid (below_call HT9.out HT9.out.size hbn)
  have HVa10 := Lib.hid (HVa9.out.below hbn)
  have HVb10 := Lib.hid (HVb9.out.below hbn)
  have HX10 := Lib.hid (own_call HX9.out hbn)
  have HVe10 := Lib.hid (HVe9.out.below hbn)
  have HBe10 := Lib.hid (HBe9.out.below hbn HBe9.out.lt)
  clear HBa9 HBb9 HT9 HVa9 HVb9 HX9 HVe9 HBe9
  clear hbn
  clear HVe10 HBe10
  go_wp2_with (refine wpList_load_blk rfl (ty := 44) rfl rfl HBb10.out Tryd.underlying44 rfl (pk_56 HZB.out) ?_; refine Hid.out ?_)
  refine Lib.hid ?_
  clear hxg
  go_wp2_with fail
  refine (encode_any HVb10.out).mono ?_
  rintro e w11 ⟨he, hbn⟩
  obtain ⟨gy, cy, rfl, hoy, _, _⟩ := he.get HQ.out (x := (enc Pb).1) rfl (n := (Crc.sealed (enc Pb).1).length) (by rw [sealed_len])
  have hiff := (sealed_inj (a := (enc Pa).1) (b := (enc Pb).1)).trans (enc_inj HNA.out HNB.out HP.out.1 HQ.out.1 (by have := HP.out.2; omega))
  obtain ⟨Y, hY⟩ : ∃ Y, Y = Crc.sealed (enc Pb).1 := ⟨_, rfl⟩
  rw [← hY] at hoy hiff
  rw [← HXE.out] at hiff
  rw [← hY]
  have HBa11 := Lib.hid (HBa10.out.below hbn HBa10.out.lt)
  have HBb11 := Lib.hid (HBb10.out.below hbn HBb10.out.lt)
  have HT11 := Lib.hid (below_call HT10.out HT10.out.size hbn)
  have HVa11 := Lib.hid (HVa10.out.below hbn)
  have HVb11 := Lib.hid (HVb10.out.below hbn)
  have HX11 := Lib.hid (own_call HX10.out hbn)
  clear HBa10 HBb10 HT10 HVa10 HVb10 HX10
  have HYO11 := Lib.hid hoy
  have hse : ((X == Y) == decide (PkEq Pa Pb)) = true := by
    by_cases h : PkEq Pa Pb
    · rw [decide_eq_true h, beq_iff_eq.2 (hiff.2 h)]; rfl
    · rw [decide_eq_false h, beq_eq_false_iff_ne.2 fun e => h (hiff.1 e)]; rfl
  have HSE := Lib.hid hse
  clear hbn he hoy hiff hY hse
  go_wp2_with fail
  refine PF.pf_begin (by kernel_rfl) ?_
  refine PF.pf_take0 0 (by kernel_rfl) rfl (fun _ _ _ _ _ h => h) (by kernel_rfl) (fun u => by go_simp; try rfl) ?_
  try simp only [Act.put, List.setIfInBounds_toArray, List.set_cons_zero, List.set_cons_succ]
  refine PF.pf_take0 1 (by kernel_rfl) rfl (fun _ _ _ _ _ h => h) (by kernel_rfl) (fun u => by go_simp; try rfl) ?_
  try simp only [Act.put, List.setIfInBounds_toArray, List.set_cons_zero, List.set_cons_succ]
  refine PF.pf_take0 2 (by kernel_rfl) rfl (fun _ _ _ _ _ h => h) (by kernel_rfl) (fun u => by go_simp; try rfl) ?_
  try simp only [Act.put, List.setIfInBounds_toArray, List.set_cons_zero, List.set_cons_succ]
  refine PF.pf_take0 3 (by kernel_rfl) rfl (fun _ _ _ _ _ h => h) (by kernel_rfl) (fun u => by go_simp; try rfl) ?_
  try simp only [Act.put, List.setIfInBounds_toArray, List.set_cons_zero, List.set_cons_succ]
  refine PF.pf_take1 4 (fun u => Bytes u (some ⟨gx, 0, none⟩) X) (by kernel_rfl) rfl (fun _ _ _ _ _ h => h) (by kernel_rfl) (own_bytes HX11.out) (fun u hu => by (have hcv := conv_str (P := Tryd.prog) (w := u) (n := X.length) (c := cx) Tryd.underlying22 Tryd.underlying5 Tryd.underlying9 hu rfl; go_simp; rfl)) ?_
  try simp only [Act.put, List.setIfInBounds_toArray, List.set_cons_zero, List.set_cons_succ]
  refine PF.pf_take0 5 (by kernel_rfl) rfl (fun _ _ _ _ _ h => h) (by kernel_rfl) (fun u => by go_simp; try rfl) ?_
  try simp only [Act.put, List.setIfInBounds_toArray, List.set_cons_zero, List.set_cons_succ]
  refine PF.pf_take1 6 (fun u => Bytes u (some ⟨gy, 0, none⟩) Y) (by kernel_rfl) rfl (fun _ _ _ _ _ h => h) (by kernel_rfl) (own_bytes HYO11.out) (fun u hu => by (have hcv := conv_str (P := Tryd.prog) (w := u) (n := Y.length) (c := cy) Tryd.underlying22 Tryd.underlying5 Tryd.underlying9 hu rfl; go_simp; rfl)) ?_
  try simp only [Act.put, List.setIfInBounds_toArray, List.set_cons_zero, List.set_cons_succ]
  refine PF.pf_take0 7 (by kernel_rfl) rfl (fun _ _ _ _ _ h => h) (by kernel_rfl) (fun u => by go_simp; try rfl) ?_
  try simp only [Act.put, List.setIfInBounds_toArray, List.set_cons_zero, List.set_cons_succ]
  refine PF.pf_take1 8 (fun u => Blk u w.heap.size 44 ca) (by kernel_rfl) rfl (fun _ _ _ _ _ h => h) (by kernel_rfl) (HBa11.out) (fun u hu => by (exact exec_load_blk rfl rfl hu Tryd.underlying44 rfl (pk_56 HZA.out))) ?_
  try simp only [Act.put, List.setIfInBounds_toArray, List.set_cons_zero, List.set_cons_succ]
  refine PF.pf_take1 9 (fun u => Blk u (w.heap.size + 1) 44 cb) (by kernel_rfl) rfl (fun _ _ _ _ _ h => h) (by kernel_rfl) (HBb11.out) (fun u hu => by (exact exec_load_blk rfl rfl hu Tryd.underlying44 rfl (pk_56 HZB.out))) ?_
  try simp only [Act.put, List.setIfInBounds_toArray, List.set_cons_zero, List.set_cons_succ]
  refine PF.pf_exec 10 (by kernel_rfl) rfl (by kernel_rfl) (fun K hK => ?_)
  go_simp
  refine (same_any (HVa11.out.below ((Below.refl _ _).drew)) (HVb11.out.below ((Below.refl _ _).drew))).mono ?_
  rintro e w98 ⟨rfl, hb98⟩
  have HBW98 : Hid (Below w11.heap.size w11 w98) := ((Below.refl _ _).drew).trans hb98
  have HX98 := Lib.hid (own_bytes (own_call HX11.out HBW98.out))
  have HY98 := Lib.hid (own_bytes (own_call HYO11.out HBW98.out))
  clear hb98
  refine hK _ _ (by repeat (first | exact PF.owes_nil | refine PF.owes_left ?_ | refine PF.owes_no (by decide +kernel) ?_ | refine PF.owes_yes (by first | exact HX98.out | exact HY98.out) ?_)) ?_
  clear hK K
  try simp only [Act.put, List.setIfInBounds_toArray, List.set_cons_zero, List.set_cons_succ]
  refine PF.pf_take0 11 (by kernel_rfl) rfl (fun _ _ _ _ _ h => h) (by kernel_rfl) (fun u => by (have hse := HSE.out; go_simp; try rfl)) ?_
  try simp only [Act.put, List.setIfInBounds_toArray, List.set_cons_zero, List.set_cons_succ]
  refine PF.pf_take0 12 (by kernel_rfl) rfl (fun _ _ _ _ _ h => h) (by kernel_rfl) (fun u => by go_simp; try rfl) ?_
  try simp only [Act.put, List.setIfInBounds_toArray, List.set_cons_zero, List.set_cons_succ]
  refine PF.pf_take0 13 (by kernel_rfl) rfl (fun _ _ _ _ _ h => h) (by kernel_rfl) (fun u => by go_simp; try rfl) ?_
  try simp only [Act.put, List.setIfInBounds_toArray, List.set_cons_zero, List.set_cons_succ]
  refine PF.pf_exec 14 (by kernel_rfl) rfl (by kernel_rfl) (fun K hK => ?_)
  go_simp
  refine (awake_any _).mono ?_
  rintro e w99 ⟨rfl, hb99⟩
  refine hK _ _ (by repeat (first | exact PF.owes_nil | refine PF.owes_left ?_ | refine PF.owes_no (by decide +kernel) ?_ | refine PF.owes_yes (by first | rfl | assumption | go_simp) ?_)) ?_
  clear hK K
  try simp only [Act.put, List.setIfInBounds_toArray, List.set_cons_zero, List.set_cons_succ]
  refine PF.pf_take0 15 (by kernel_rfl) rfl (fun _ _ _ _ _ h => h) (by kernel_rfl) (fun u => by go_simp; try rfl) ?_
  try simp only [Act.put, List.setIfInBounds_toArray, List.set_cons_zero, List.set_cons_succ]
  refine PF.pf_take0 16 (by kernel_rfl) rfl (fun _ _ _ _ _ h => h) (by kernel_rfl) (fun u => by go_simp; try rfl) ?_
  try simp only [Act.put, List.setIfInBounds_toArray, List.set_cons_zero, List.set_cons_succ]
  refine PF.pf_done (by kernel_rfl) ?_
  go_wp2_with fail
  go_ret
  exact ⟨rfl, below_call HT11.out HT11.out.size (below_call HBW98.out HBW98.out.size hb99)⟩
theorem WireBack.walk {w : World} (ca : Array Value) (Pa : Pk) (ha : PkA w ca Pa) (cb : Array Value) (Pb : Pk) (hb : PkA w cb Pb) (A : Option Addr) (l : List UInt8) (c : Nat) (hl : Bytes w A l) (hlc : l.length ≤ c) (hc : c ≤ 9223372036854775807) :
    Calls Tryd.prog 4 #[.agg ca, .agg cb, .slice A l.length c] w fun e w' => e = .returned (.bool true) ∧ Below w.heap.size w w' := by
  by_cases h1 : 40000 < lenP Pa
  · exact back_longa ha hb h1
  by_cases h2 : 40000 < lenP Pb
  · exact back_longb ha hb h1 h2
  by_cases h3 : 40000 < l.length
  · exact back_longl ha hb h1 h2 h3
  cases hd : dec l with
  | none =>
    by_cases hp : OkL Pa
    · by_cases hq : OkL Pb
      · exact back_none_qyes ha hb hl hlc hc h1 h2 h3 hd hp hq
      · exact back_none_qno ha hb hl hlc hc h1 h2 h3 hd hp hq
    · exact back_none_pno ha hb hl hlc hc h1 h2 h3 hd hp
  | some D =>
    by_cases hp : OkL Pa
    · by_cases hq : OkL Pb
      · exact back_some_qyes ha hb hl hlc hc h1 h2 h3 hd hp hq
      · exact back_some_qno ha hb hl hlc hc h1 h2 h3 hd hp hq
    · exact back_some_pno ha hb hl hlc hc h1 h2 h3 hd hp
end Go.Proofs.YtdckdjkkaangmaaDoor
