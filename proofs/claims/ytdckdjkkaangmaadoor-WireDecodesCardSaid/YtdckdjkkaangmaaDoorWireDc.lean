/- The document's Decode of whatever bytes; the law WireDecodes, walked. -/
import Derived.Test.YtdckdjkkaangmaaDoorWireV2
import Derived.Test.YtdckdjkkaangmaaDoorWireV3
import Derived.Test.YtdckdjkkaangmaaDoorWireV4
import Derived.Test.YtdckdjkkaangmaaDoorWireV5
import Derived.Test.YtdckdjkkaangmaaDoorWireV6
import Derived.Test.YtdckdjkkaangmaaDoorWireV7
import Derived.Test.YtdckdjkkaangmaaDoorWireV8
import Derived.Test.YtdckdjkkaangmaaDoorWireP2
import Derived.Test.YtdckdjkkaangmaaDoorWireF2
import Derived.Test.YtdckdjkkaangmaaDoorWireI2
namespace Go.Proofs.YtdckdjkkaangmaaDoor
set_option linter.unusedVariables false
set_option linter.unusedSimpArgs false
set_option maxRecDepth 100000
open Go.RowKit

theorem ddec_any (A : Option Addr) (cap : Nat) (l : List UInt8) (w : World) (hp : Bytes w A l) (hn : l.length ≤ 1000000) (hc1 : l.length ≤ cap) :
    Calls Tryd.prog 9 #[.slice A l.length cap] w fun e w' => DDec l e w' ∧ Below w.heap.size w w' := by
  cases ho : Crc.opened l with
  | none => exact ddec_shut A cap l w hp hn hc1 ho
  | some t =>
    by_cases hb : 16384 < l.length
    · exact ddec_big A cap l w hp hn hc1 ho hb
    cases t with
    | nil => exact ddec_empty A cap l w hp hn hc1 ho hb
    | cons c0 t =>
      by_cases h1 : c0.toNat = 1
      · exact ddec_ask A cap l w hp hn hc1 ho hb h1
      by_cases h2 : c0.toNat = 2
      · exact ddec_says A cap l w hp hn hc1 ho hb h2
      by_cases h3 : c0.toNat = 3
      · exact ddec_req A cap l w hp hn hc1 ho hb h3
      by_cases h4 : c0.toNat = 4
      · exact ddec_resp A cap l w hp hn hc1 ho hb h4
      by_cases h5 : c0.toNat = 5
      · exact ddec_call A cap l w hp hn hc1 ho hb h5
      by_cases h6 : c0.toNat = 6
      · exact ddec_reply A cap l w hp hn hc1 ho hb h6
      exact ddec_nokind A cap l w hp hn hc1 ho hb (by omega)
theorem zpk_v2 (w : World) : PkV w zPk { n := fun _ => 0, t := fun _ => [], k := [] } :=
  ⟨rfl, ⟨rfl, zlo, zhi⟩, fun o ho => ⟨zPk_int o ho, zlo, zhi⟩, fun o ho => ⟨zPk_num o ho, Int.le_refl _, zhu⟩, fun o ho => ⟨none, 0, zPk_txt o ho, Bytes.nil_ _ _, Nat.le_refl _, by decide, Nat.zero_le _⟩, ⟨none, 0, rfl, Reads.nil_ _ _ _, Nat.le_refl _, by decide, Nat.zero_le _⟩, (fun x hx => by cases hx), fun A n c e ad ea => by
    have e : some (Value.slice none 0 0) = some (.slice A n c) := e
    injection e with e
    injection e with e
    rw [ea] at e
    cases e⟩
/-- What is decoded, and the error. -/
def dPk (l : List UInt8) : Pk := match dec l with
  | none => { n := fun _ => 0, t := fun _ => [], k := [] }
  | some P => P
def dErr (l : List UInt8) : Int := match dec l with
  | none => 2
  | some _ => 0
theorem zpk_o (B : Nat) (w : World) : PkO B w zPk { n := fun _ => 0, t := fun _ => [], k := [] } :=
  ⟨zpk_v2 w, B, Nat.le_refl _, fun o ho => ⟨none, 0, zPk_txt o ho, TxO.nil _ _ _⟩, none, 0, rfl, KpO.nil _ _⟩
theorem DecPost.one {B : Nat} {l : List UInt8} {e : Ending} {w' : World} (h : DecPost B l e w') : ∃ cs, e = .returned (.tuple #[.agg cs, .int .i64 (dErr l)]) ∧ PkO B w' cs (dPk l) := by
  unfold DecPost at h
  unfold dPk dErr
  cases hd : dec l with
  | none =>
    rw [hd] at h
    exact ⟨_, h, zpk_o _ _⟩
  | some P =>
    rw [hd] at h
    exact h
theorem DDec.one {l : List UInt8} {e : Ending} {w' : World} (h : DDec l e w') : ∃ cs, e = .returned (.tuple #[.agg cs, .int .i64 (dErr l)]) ∧ PkV w' cs (dPk l) := by
  unfold DDec at h
  unfold dPk dErr
  cases hd : dec l with
  | none =>
    rw [hd] at h
    exact ⟨_, h, zpk_v2 _⟩
  | some P =>
    rw [hd] at h
    exact h
theorem PkO.below {B : Nat} {w w' : World} {cs : Array Value} {P : Pk} (h : PkO B w cs P) (hb : Below w.heap.size w w') : PkO B w' cs P :=
  h.mod (Mod.below (S := fun _ => False) hb (Nat.le_refl _)) fun _ _ _ h => h
set_option maxRecDepth 100000 in
set_option maxHeartbeats 16000000 in
theorem WireDecodes.walk {w : World} (A : Option Addr) (l : List UInt8) (c : Nat) (hl : Bytes w A l) (hlc : l.length ≤ c) (hc : c ≤ 9223372036854775807) :
    Calls Tryd.prog 3 #[.slice A l.length c] w fun e w' => e = .returned (.bool true) ∧ Below w.heap.size w w' := by
  have HL := Lib.hid hl
  by_cases h1 : 40000 < l.length
  · have hd : decide ((40000 : Int) < (l.length : Int)) = true := decide_eq_true (by omega)
    have hd2 : decide (40000 < l.length) = true := decide_eq_true h1
    clear h1 hl
    go_enter Tryd.func3, Tryd.ntmps3
    go_wp2_with fail
    refine (awake_any w).mono ?_
    rintro e w1 ⟨rfl, hb1⟩
    go_wp2_with fail
    go_ret
    exact ⟨rfl, hb1⟩
  · have hd : decide ((40000 : Int) < (l.length : Int)) = false := decide_eq_false (by omega)
    have hd2 : decide (40000 < l.length) = false := decide_eq_false h1
    have hcv := conv_str (P := Tryd.prog) (w := w) (n := l.length) (c := c) Tryd.underlying22 Tryd.underlying5 Tryd.underlying9 hl rfl
    have HN : Hid (l.length ≤ 40000) := by show l.length ≤ 40000; omega
    have HCC : Hid (l.length ≤ c ∧ c ≤ 9223372036854775807) := ⟨hlc, hc⟩
    clear h1 hl
    go_enter Tryd.func3, Tryd.ntmps3
    go_wp2_with fail
    refine (decode_any A c l w HL.out (by have := HN.out; omega) hlc hc).mono ?_
    rintro e w1 ⟨hdp, hb1⟩
    obtain ⟨cs, rfl, ho⟩ := hdp.one
    have HO1 := Lib.hid ho
    have HB1 := Lib.hid hb1
    have HZ := Lib.hid ho.pk.size
    clear hdp hb1 ho hcv hlc hc
    go_wp2_with (refine wpList_alloc_blk rfl rfl zero_pk ?_; rintro ga wz hga hBz hbz; refine Hid.out ?_)
    refine Lib.hid ?_
    go_wp2_with (refine wpList_store_blk rfl rfl rfl rfl hBz (by rw [HZ.out]; rfl) (pk_56 HZ.out) HO1.out.pk.one ?_; rintro w2 hBa hma; refine Hid.out ?_)
    refine Lib.hid ?_
    have hb12 : Below w1.heap.size w1 w2 := hbz.trans (hma.to_below hbz.size fun b hb e => by omega)
    have HO2 := Lib.hid (HO1.out.below hb12)
    have HB2 := Lib.hid (below_call HB1.out HB1.out.size hb12)
    have HA2 := Lib.hid hBa
    have HGA : Hid (w1.heap.size = ga) := hga
    clear hBz hbz hga hBa hma hb12 HO1 HB1
    go_wp2_with (refine str_own_list rfl rfl Tryd.underlying9 Tryd.underlying22 Tryd.underlying5 (l := l) (by have := HN.out; omega) rfl ?_; intro cw w3 hw hcw1 hcw2 hb3; refine Hid.out ?_)
    refine Lib.hid ?_
    have HDD := Lib.hid (ddec_any (some ⟨w2.heap.size, 0, none⟩) cw l w3 hw.bytes (by have := HN.out; omega) hcw1)
    have HO3 := Lib.hid (HO2.out.below hb3)
    have HA3 := Lib.hid (HA2.out.below hb3 HA2.out.lt)
    have HB3 := Lib.hid (below_call HB2.out HB2.out.size hb3)
    clear hw hcw1 hcw2 hb3 HO2 HA2 HB2
    go_wp2_with fail
    refine HDD.out.mono ?_
    rintro e w4 ⟨hdp, hb4⟩
    obtain ⟨cd, rfl, hv⟩ := hdp.one
    have HV4 := Lib.hid hv
    have HZ2 := Lib.hid hv.size
    have HO4 := Lib.hid (HO3.out.below hb4)
    have HA4 := Lib.hid (HA3.out.below hb4 HA3.out.lt)
    have HB4 := Lib.hid (below_call HB3.out HB3.out.size hb4)
    clear hdp hb4 hv HO3 HA3 HB3 HDD
    go_wp2_with (refine wpList_alloc_blk rfl rfl zero_pk ?_; rintro gb wz hgb hBz hbz; refine Hid.out ?_)
    refine Lib.hid ?_
    go_wp2_with (refine wpList_store_blk rfl rfl rfl rfl hBz (by rw [HZ2.out]; rfl) (pk_56 HZ2.out) HV4.out.one ?_; rintro w5 hBb hmb; refine Hid.out ?_)
    refine Lib.hid ?_
    have hb45 : Below w4.heap.size w4 w5 := hbz.trans (hmb.to_below hbz.size fun b hb e => by omega)
    have HV5 := Lib.hid (HV4.out.below hb45)
    have HO5 := Lib.hid (HO4.out.below hb45)
    have HA5 := Lib.hid (HA4.out.below hb45 HA4.out.lt)
    have HB5 := Lib.hid (below_call HB4.out HB4.out.size hb45)
    have HBB5 := Lib.hid hBb
    clear hBz hbz hgb hBb hmb hb45 HV4 HO4 HA4 HB4
    have hne : ((dErr l) == (dErr l)) = true := beq_self_eq_true _
    have hnb : ((dErr l) != (dErr l)) = false := by simp
    generalize dErr l = d at *
    generalize dPk l = P at *
    go_wp2_with (refine wpList_load_blkG (by kernel_rfl) (ty := 44) rfl rfl HA5.out Tryd.underlying44 rfl (pk_56 HZ.out) ?_; refine Hid.out ?_)
    refine Lib.hid ?_
    go_wp2_with (refine wpList_load_blkG (by kernel_rfl) (ty := 44) rfl rfl HBB5.out Tryd.underlying44 rfl (pk_56 HZ2.out) ?_; refine Hid.out ?_)
    refine Lib.hid ?_
    go_wp2_with fail
    refine (dsame_any HO5.out.pk HV5.out).mono ?_
    rintro e w6 ⟨rfl, hb6⟩
    rw [decide_eq_true (PkEq.refl _)]
    have HO6 := Lib.hid (HO5.out.below hb6)
    have HA6 := Lib.hid (HA5.out.below hb6 HA5.out.lt)
    have HB6 := Lib.hid (below_call HB5.out HB5.out.size hb6)
    clear hb6 HO5 HA5 HB5 HV5 HBB5
    go_wp2_with (refine wpList_load_blk rfl (ty := 44) rfl rfl HA6.out Tryd.underlying44 rfl (pk_56 HZ.out) ?_; refine Hid.out ?_)
    refine Lib.hid ?_
    go_wp2_with fail
    refine (spoil_any HO6.out).mono ?_
    rintro e w7 ⟨rfl, hm7⟩
    have HB7 := Lib.hid (HB6.out.trans (hm7.to_below HB6.out.size fun b hb e => by omega))
    have hcv := conv_str (P := Tryd.prog) (w := w7) (n := l.length) (c := c) Tryd.underlying22 Tryd.underlying5 Tryd.underlying9 (HL.out.below HB7.out) rfl
    clear hm7 HO6 HA6 HB6
    go_wp2_with fail
    refine (awake_any w7).mono ?_
    rintro e w8 ⟨rfl, hb8⟩
    have HB8 := Lib.hid (below_call HB7.out HB7.out.size hb8)
    clear hb8 hcv
    go_wp2_with fail
    go_ret
    exact ⟨rfl, HB8.out⟩
end Go.Proofs.YtdckdjkkaangmaaDoor
