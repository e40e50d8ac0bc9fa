/- The chapter's examples, walked. -/
import Derived.Test.YtdckdjkkaangmaaDoorWireH2
import Derived.Test.YtdckdjkkaangmaaDoorWireG2
import Derived.Lib.SlBytesConst
namespace Go.Proofs.YtdckdjkkaangmaaDoor
set_option linter.unusedVariables false
set_option linter.unusedSimpArgs false
set_option maxRecDepth 100000
open Go.RowKit

theorem wpList_build_run {P : Program} {ops : Array Oper} {rest : List Oper} {op : Oper} {a : Act} {w : World} {Q : Exit → Act → World → Prop} (hgd : op.guard = none) {t : TypeId} {parts : Array (Nat × Operand)} (ho : op.op = .build t parts) {V : Value}
    (hr : ∀ w, (Instr.build t (parts.map fun (i, x) => (i, a.eval x))).run P w = .ok V w) (h : wpList P ops Q rest (a.put op.dst V) w) : wpList P ops Q (op :: rest) a w :=
  wpList_plain hgd fun _ hK => by
    unfold Oper.wp execOp
    simp only [ho, Sem.run_bind, hr, Result.andThen_ok, Sem.run_pure]
    exact hK _ _ h
theorem EncPost.get {B : Nat} {P : Pk} {e : Ending} {w' : World} (h : EncPost B P e w') (hl : OkL P) {x : List UInt8} (hx : (enc P).1 = x) {n : Nat} (hn : x.length + 4 = n) :
    ∃ g c, e = .returned (.tuple #[.slice (some ⟨g, 0, none⟩) n c, .int .i64 0]) ∧ w'.ownsRow B 5 1 (.slice (some ⟨g, 0, none⟩) n c) n ((Crc.sealed x).map bv) ∧ n ≤ c ∧ c ≤ 9223372036854775807 := by
  unfold EncPost at h
  rw [if_pos hl, hx, sealed_len, hn] at h
  obtain ⟨A, c, rfl, ho⟩ := h
  obtain ⟨g, c', e1, _, h1, h2⟩ := own_ptr ho (by omega)
  injection e1 with e1 e2 e3
  subst e1 e3
  exact ⟨g, c, rfl, ho, h1, by simpa [maxLen] using h2⟩
theorem sealed_cut {w : World} {A : Option Addr} {x : List UInt8} (h : Bytes w A (Crc.sealed x)) : Bytes w A x := by
  have h1 := Reads.take (k := x.length) h (by rw [sealed_len]; omega)
  have e : ((Crc.sealed x).map bv).take (x.length * 1) = x.map bv := by
    unfold Crc.sealed
    rw [List.map_append, Nat.mul_one, List.take_left' (by simp)]
  rw [e] at h1
  exact h1
theorem wpList_load_blkG {P : Program} {ops : Array Oper} {rest : List Oper} {op : Oper} {a : Act} {w : World} {Q : Exit → Act → World → Prop} (hw : Region.wanted op (yielded ops a.tmps) = true) {ty : TypeId} {x : Operand} (ho : op.op = .load ty x) {g : Nat} {t : TypeId} {cs : Array Value} (hx : a.eval x = .pointer (some ⟨g, 0, none⟩)) (hB : Blk w g t cs) {d : TypeDesc}
    (hu : P.underlying ty = some d) (hd : d.isRow = true) (hi : (P.info? ty).map (·.size) = some cs.size) (h : wpList P ops Q rest (a.put op.dst (.agg cs)) w) : wpList P ops Q (op :: rest) a w :=
  wpList_step fun K hK => by
    rw [if_pos hw]
    have hl := run_load_blk hB hu hd hi
    unfold Oper.wp execOp
    simp only [ho, hx, Sem.run_bind, hl, Result.andThen_ok, Sem.run_pure]
    exact hK _ _ h
theorem sealed_opened (l : List UInt8) : Crc.opened (Crc.sealed l) = some l := by
  unfold Crc.sealed
  rw [Crc.opened_long _ _ (by unfold Crc.le4; rfl), if_pos rfl]
theorem dec_sealed {l : List UInt8} (h : l.length + 4 ≤ 16384) : dec (Crc.sealed l) = decT l := by
  unfold dec
  rw [sealed_opened]
  simp only
  rw [if_neg (by rw [sealed_len]; omega)]
theorem dec_c : ∃ Q, dec (Crc.sealed [5, 9, 1, 1, 1, 2, 0, 3, 0, 2, 97, 98]) = some Q ∧ PkEq Q pkC := by
  rw [dec_sealed (by decide)]
  have h := dec_enc (P := pkC) ⟨by decide, by decide, by decide⟩ ok_c (by rw [enc_c]; decide)
  rw [enc_c] at h
  exact h
theorem size_c (v : Value) : (csC v).size = 56 := by unfold csC; rw [putL_size, Array.size_setIfInBounds]; rfl
theorem size_a : csA.size = 56 := by unfold csA; rw [putL_size, Array.size_setIfInBounds]; rfl
theorem size_q (v : Value) : (csQ v).size = 56 := by unfold csQ; rw [putL_size, Array.size_setIfInBounds]; rfl
theorem pk_56 {cs : Array Value} (h : cs.size = 56) : (Tryd.prog.info? 44).map (·.size) = some cs.size := by rw [h]; exact info_pk
set_option maxRecDepth 100000 in
set_option maxHeartbeats 16000000 in
theorem awake_any (w : World) : Calls Tryd.prog 7 #[] w fun e w' => e = .returned (.bool true) ∧ Below w.heap.size w w' := by
  have hC0 : Bytes (w.alloc (.cells #[.int .u8 97, .int .u8 98] 5 (2, 3))) (some ⟨w.heap.size, 0, none⟩) [97, 98] := Bytes.block _ _ _ _ _ rfl
  have HC : Hid (PkV (w.alloc (.cells #[.int .u8 97, .int .u8 98] 5 (2, 3))) (csC (.slice (some ⟨w.heap.size, 0, none⟩) 2 2)) pkC) := pkv_c hC0 (by decide) (by decide)
  have hb0 := below_new w (.cells #[.int .u8 97, .int .u8 98] 5 (2, 3))
  have HB0 := Lib.hid hb0
  have kc := fun (w : World) (C : Array Value) (n c : Nat) => Lib.run_convert_bytes_const (P := Tryd.prog) w 22 5 C n c Tryd.underlying22 Tryd.underlying5
  clear hC0 hb0
  go_enter Tryd.func7, Tryd.ntmps7
  go_wp2_with (refine wpList_build_run (t := 44) (V := .agg (csC (.slice (some ⟨w.heap.size, 0, none⟩) 2 2))) rfl rfl (fun w => by kernel_rfl) ?_; refine Hid.out ?_)
  refine Lib.hid ?_
  go_wp2_with (refine wpList_alloc_blk rfl rfl zero_pk ?_; rintro g1 w1 hg1 hB1 hb1; refine Hid.out ?_)
  refine Lib.hid ?_
  go_wp2_with (refine wpList_store_blk rfl rfl rfl rfl hB1 (by rw [size_c]; rfl) (pk_56 (size_c _)) HC.out.one ?_; rintro w2 hB2 hm2; refine Hid.out ?_)
  refine Lib.hid ?_
  go_wp2_with (refine wpList_build_run (t := 44) (V := .agg csA) rfl rfl (fun w => by kernel_rfl) ?_; refine Hid.out ?_)
  refine Lib.hid ?_
  have hbW : Below w.heap.size w w2 := below_call HB0.out (by simp) (hb1.trans (hm2.to_below hb1.size fun b hb e => by omega))
  have hC2 : PkV w2 (csC (.slice (some ⟨w.heap.size, 0, none⟩) 2 2)) pkC := HC.out.below (hb1.trans (hm2.to_below hb1.size fun b hb e => by omega))
  have hzC := size_c (.slice (some ⟨w.heap.size, 0, none⟩) 2 2)
  generalize csC (.slice (some ⟨w.heap.size, 0, none⟩) 2 2) = cC at *
  have HBW2 := Lib.hid hbW
  have HC2 := Lib.hid hC2
  have HBC2 := Lib.hid hB2
  have HZC := Lib.hid hzC
  have hA2 : PkV w2 csA pkA := pkv_a w2
  have hzA := size_a
  generalize csA = cA at *
  have HA2 := Lib.hid hA2
  have HZA := Lib.hid hzA
  clear hbW hC2 hB2 hzC hA2 hzA hB1 hb1 hm2 hg1 HC HB0 kc
  go_wp2_with (refine wpList_alloc_blk rfl rfl zero_pk ?_; rintro g2 w3 hg2 hB3 hb3; refine Hid.out ?_)
  refine Lib.hid ?_
  go_wp2_with (refine wpList_store_blk rfl rfl rfl rfl hB3 (by rw [HZA.out]; rfl) (pk_56 HZA.out) HA2.out.one ?_; rintro w4 hB4 hm4; refine Hid.out ?_)
  refine Lib.hid ?_
  have hb4 : Below w2.heap.size w2 w4 := hb3.trans (hm4.to_below hb3.size fun b hb e => by omega)
  have HBW4 := Lib.hid (below_call HBW2.out HBW2.out.size hb4)
  have HC4 := Lib.hid (HC2.out.below hb4)
  have HA4 := Lib.hid (HA2.out.below hb4)
  have HBC4 := Lib.hid (HBC2.out.below hb4 HBC2.out.lt)
  have HBA4 := Lib.hid hB4
  clear hB3 hb3 hm4 hb4 hB4 hg2 HBW2 HC2 HA2 HBC2
  have hQ5 : PkV (w4.alloc (.cells #[.int .u64 2, .int .u64 3] 24)) (csQ (.slice (some ⟨w4.heap.size, 0, none⟩) 2 2)) pkQ :=
    pkv_q (Reads.block w4 24 [.int .u64 2, .int .u64 3]) (by decide) (by decide) (fun ad e => by injection e with e; subst e; simp)
  have hb5 := below_new w4 (.cells #[.int .u64 2, .int .u64 3] 24)
  have HQ5 := Lib.hid hQ5
  have HB5 := Lib.hid hb5
  clear hQ5 hb5
  go_wp2_with (refine wpList_build_run (t := 44) (V := .agg (csQ (.slice (some ⟨w4.heap.size, 0, none⟩) 2 2))) rfl rfl (fun w => by kernel_rfl) ?_; refine Hid.out ?_)
  refine Lib.hid ?_
  have hzQ := size_q (.slice (some ⟨w4.heap.size, 0, none⟩) 2 2)
  generalize csQ (.slice (some ⟨w4.heap.size, 0, none⟩) 2 2) = cQ at *
  go_wp2_with (refine wpList_alloc_blk rfl rfl zero_pk ?_; rintro g3 w6 hg3 hB6 hb6; refine Hid.out ?_)
  refine Lib.hid ?_
  go_wp2_with (refine wpList_store_blk rfl rfl rfl rfl hB6 (by rw [hzQ]; rfl) (pk_56 hzQ) HQ5.out.one ?_; rintro w7 hB7 hm7; refine Hid.out ?_)
  refine Lib.hid ?_
  have hb57 := hb6.trans (hm7.to_below hb6.size fun b hb e => by omega)
  have hb47 := below_call HB5.out (by simp) hb57
  have HBW7 := Lib.hid (below_call HBW4.out HBW4.out.size hb47)
  have HC7 := Lib.hid (HC4.out.below hb47)
  have HA7 := Lib.hid (HA4.out.below hb47)
  have HQ7 := Lib.hid (HQ5.out.below hb57)
  have HBC7 := Lib.hid (HBC4.out.below hb47 HBC4.out.lt)
  have HBA7 := Lib.hid (HBA4.out.below hb47 HBA4.out.lt)
  have HBQ7 := Lib.hid hB7
  have HZQ := Lib.hid hzQ
  clear hb57 hb47 hB7 hzQ hB6 hb6 hg3 hm7 HBW4 HC4 HA4 HQ5 HBC4 HBA4 HB5
  go_wp2_with (refine wpList_load_blk rfl rfl rfl HBC7.out Tryd.underlying44 rfl (pk_56 HZC.out) ?_; refine Hid.out ?_)
  refine Lib.hid ?_
  go_wp2_with fail
  refine (encode_any HC7.out).mono ?_
  rintro e w8 ⟨he, hb8⟩
  obtain ⟨A1, c1, rfl, ho1, hl1, hm1⟩ := he.get ⟨ok_c, by rw [enc_c]; decide⟩ (x := [5, 9, 1, 1, 1, 2, 0, 3, 0, 2, 97, 98]) (by rw [enc_c]) (n := 16) rfl
  have HBW8 := Lib.hid (below_call HBW7.out HBW7.out.size hb8)
  have HC8 := Lib.hid (HC7.out.below hb8)
  have HA8 := Lib.hid (HA7.out.below hb8)
  have HQ8 := Lib.hid (HQ7.out.below hb8)
  have HBC8 := Lib.hid (HBC7.out.below hb8 HBC7.out.lt)
  have HBA8 := Lib.hid (HBA7.out.below hb8 HBA7.out.lt)
  have HBQ8 := Lib.hid (HBQ7.out.below hb8 HBQ7.out.lt)
  have HO1 := Lib.hid ho1
  clear hb8 ho1 HBW7 HC7 HA7 HQ7 HBC7 HBA7 HBQ7
  go_wp2_with (refine wpList_load_blk rfl rfl rfl HBA8.out Tryd.underlying44 rfl (pk_56 HZA.out) ?_; refine Hid.out ?_)
  refine Lib.hid ?_
  go_wp2_with fail
  refine (encode_any HA8.out).mono ?_
  rintro e w9 ⟨he, hb9⟩
  obtain ⟨A2, c2, rfl, ho2, hl2, hm2⟩ := he.get ⟨ok_a, by rw [enc_a]; decide⟩ (x := [1, 1, 1, 172, 2, 4, 1, 0]) (by rw [enc_a]) (n := 12) rfl
  have HBW9 := Lib.hid (below_call HBW8.out HBW8.out.size hb9)
  have HC9 := Lib.hid (HC8.out.below hb9)
  have HQ9 := Lib.hid (HQ8.out.below hb9)
  have HBC9 := Lib.hid (HBC8.out.below hb9 HBC8.out.lt)
  have HBQ9 := Lib.hid (HBQ8.out.below hb9 HBQ8.out.lt)
  have HO19 := Lib.hid (own_call HO1.out hb9)
  have HO2 := Lib.hid ho2
  clear hb9 ho2 HBW8 HC8 HA8 HQ8 HBC8 HBA8 HBQ8 HO1
  go_wp2_with (refine wpList_load_blk rfl rfl rfl HBQ9.out Tryd.underlying44 rfl (pk_56 HZQ.out) ?_; refine Hid.out ?_)
  refine Lib.hid ?_
  go_wp2_with fail
  refine (encode_any HQ9.out).mono ?_
  rintro e w10 ⟨he, hb10⟩
  obtain ⟨A3, c3, rfl, ho3, hl3, hm3⟩ := he.get ⟨ok_q, by rw [enc_q]; decide⟩ (x := [3, 4, 1, 4, 0, 7, 0, 0, 0, 0, 2, 2, 3]) (by rw [enc_q]) (n := 17) rfl
  have HBW10 := Lib.hid (below_call HBW9.out HBW9.out.size hb10)
  have HC10 := Lib.hid (HC9.out.below hb10)
  have HBC10 := Lib.hid (HBC9.out.below hb10 HBC9.out.lt)
  have HO110 := Lib.hid (own_call HO19.out hb10)
  have HO210 := Lib.hid (own_call HO2.out hb10)
  have HO3 := Lib.hid ho3
  have HD := Lib.hid (decode_any (some ⟨A1, 0, none⟩) c1 (Crc.sealed [5, 9, 1, 1, 1, 2, 0, 3, 0, 2, 97, 98]) w10 (own_bytes HO110.out) (by rw [sealed_len]; decide) (by rw [sealed_len]; exact hl1) hm1)
  rw [sealed_len] at HD
  clear hb10 ho3 HBW9 HC9 HQ9 HBC9 HBQ9 HO19 HO2
  go_wp2_with fail
  refine HD.out.mono ?_
  rintro e w11 ⟨hd, hb11⟩
  obtain ⟨Q, hQ, hQC⟩ := dec_c
  unfold DecPost at hd
  rw [hQ] at hd
  obtain ⟨cD, rfl, hPD⟩ := hd
  have hzD := hPD.pk.size
  have hoD := hPD.pk.one
  have HBW11 := Lib.hid (below_call HBW10.out HBW10.out.size hb11)
  have HC11 := Lib.hid (HC10.out.below hb11)
  have HD11 : Hid (PkV w11 cD Q) := hPD.pk
  have HBC11 := Lib.hid (HBC10.out.below hb11 HBC10.out.lt)
  have HO111 := Lib.hid (own_call HO110.out hb11)
  have HO211 := Lib.hid (own_call HO210.out hb11)
  have HO311 := Lib.hid (own_call HO3.out hb11)
  have HQC := Lib.hid hQC
  have HZD := Lib.hid hzD
  have HOD := Lib.hid hoD
  clear hPD hb11 HD HBW10 HC10 HBC10 HO110 HO210 HO3 hQ hQC hzD hoD
  go_wp2_with (refine wpList_alloc_blk rfl rfl zero_pk ?_; rintro gD w12 hgD hB12 hb12; refine Hid.out ?_)
  refine Lib.hid ?_
  go_wp2_with (refine wpList_store_blk rfl rfl rfl rfl hB12 (by rw [HZD.out]; rfl) (pk_56 HZD.out) HOD.out ?_; rintro w13 hB13 hm13; refine Hid.out ?_)
  refine Lib.hid ?_
  have hb13 : Below w11.heap.size w11 w13 := hb12.trans (hm13.to_below hb12.size fun b hb e => by omega)
  have HBW13 := Lib.hid (below_call HBW11.out HBW11.out.size hb13)
  have HC13 := Lib.hid (HC11.out.below hb13)
  have HD13 := Lib.hid (HD11.out.below hb13)
  have HBC13 := Lib.hid (HBC11.out.below hb13 HBC11.out.lt)
  have HBD13 := Lib.hid hB13
  have HO113 := own_call HO111.out hb13
  have HO213 := own_call HO211.out hb13
  have HO313 := own_call HO311.out hb13
  have hcv1 := conv_str (P := Tryd.prog) (w := w13) (n := 12) (c := c1) Tryd.underlying22 Tryd.underlying5 Tryd.underlying9 (sealed_cut (x := [5, 9, 1, 1, 1, 2, 0, 3, 0, 2, 97, 98]) (own_bytes HO113)) rfl
  have hcv2 := conv_str (P := Tryd.prog) (w := w13) (n := 8) (c := c2) Tryd.underlying22 Tryd.underlying5 Tryd.underlying9 (sealed_cut (x := [1, 1, 1, 172, 2, 4, 1, 0]) (own_bytes HO213)) rfl
  have hcv3 := conv_str (P := Tryd.prog) (w := w13) (n := 13) (c := c3) Tryd.underlying22 Tryd.underlying5 Tryd.underlying9 (sealed_cut (x := [3, 4, 1, 4, 0, 7, 0, 0, 0, 0, 2, 2, 3]) (own_bytes HO313)) rfl
  have l1 : 12 ≤ c1 := by omega
  have l2 : 8 ≤ c2 := by omega
  have l3 : 13 ≤ c3 := by omega
  clear HO113 HO213 HO313 hB12 hb12 hgD hm13 hb13 hB13 HBW11 HC11 HD11 HBC11 HO111 HO211 HO311 HOD
  clear hl1 hl2 hl3 hm1 hm2 hm3
  go_wp2_with (refine wpList_load_blkG (by kernel_rfl) (ty := 44) rfl rfl HBD13.out Tryd.underlying44 rfl (pk_56 HZD.out) ?_; refine Hid.out ?_)
  refine Lib.hid ?_
  go_wp2_with (refine wpList_load_blkG (by kernel_rfl) (ty := 44) rfl rfl HBC13.out Tryd.underlying44 rfl (pk_56 HZC.out) ?_; refine Hid.out ?_)
  refine Lib.hid ?_
  clear hcv1 hcv2 hcv3 l1 l2 l3
  go_wp2_with fail
  refine (same_any HD13.out HC13.out).mono ?_
  rintro e w14 ⟨rfl, hb14⟩
  have hqd : decide (PkEq Q pkC) = true := decide_eq_true HQC.out
  have HBW14 := Lib.hid (below_call HBW13.out HBW13.out.size hb14)
  have HC14 := Lib.hid (HC13.out.below hb14)
  have HBC14 := Lib.hid (HBC13.out.below hb14 HBC13.out.lt)
  clear hb14 HBW13 HC13 HD13 HBC13 HBD13
  rw [hqd]
  clear hqd
  go_wp2_with (refine wpList_load_blkG (by kernel_rfl) (ty := 44) rfl rfl HBC14.out Tryd.underlying44 rfl (pk_56 HZC.out) ?_; refine Hid.out ?_)
  refine Lib.hid ?_
  go_wp2_with fail
  refine (may_any HC14.out).mono ?_
  rintro e w15 ⟨rfl, hb15⟩
  have hok : decide (OkL pkC) = true := decide_eq_true ⟨ok_c, by rw [enc_c]; decide⟩
  rw [hok]
  have HBW15 := Lib.hid (below_call HBW14.out HBW14.out.size hb15)
  clear hb15 hok
  go_wp2_with fail
  go_ret
  exact ⟨rfl, HBW15.out⟩
end Go.Proofs.YtdckdjkkaangmaaDoor
