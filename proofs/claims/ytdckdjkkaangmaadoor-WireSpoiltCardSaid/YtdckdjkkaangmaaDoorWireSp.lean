/- The law WireSpoilt, walked. -/
import Derived.Test.YtdckdjkkaangmaaDoorWireBk
import Derived.Test.YtdckdjkkaangmaaDoorJH
namespace Go.Proofs.YtdckdjkkaangmaaDoor
set_option linter.unusedVariables false
set_option linter.unusedSimpArgs false
set_option maxRecDepth 100000
open Go.RowKit

theorem zpk_v (w : World) : PkV w zPk { n := fun _ => 0, t := fun _ => [], k := [] } :=
  ⟨rfl, ⟨rfl, zlo, zhi⟩, fun o ho => ⟨zPk_int o ho, zlo, zhi⟩, fun o ho => ⟨zPk_num o ho, Int.le_refl _, zhu⟩, fun o ho => ⟨none, 0, zPk_txt o ho, Bytes.nil_ _ _, Nat.le_refl _, by decide, Nat.zero_le _⟩, ⟨none, 0, rfl, Reads.nil_ _ _ _, Nat.le_refl _, by decide, Nat.zero_le _⟩, (fun x hx => by cases hx), fun A n c e ad ea => by
    have e : some (Value.slice none 0 0) = some (.slice A n c) := e
    injection e with e
    injection e with e
    rw [ea] at e
    cases e⟩
theorem Reads.cellAt {w : World} {b o n j : Nat} {xs : List Value} {v : Value} (h : Reads w 1 (some ⟨b, o, none⟩) n xs) (hv : xs[j]? = some v) : w.cell? ⟨b, o + j, none⟩ = some v := by
  have hj := (List.getElem?_eq_some_iff.1 hv).1
  have hl := h.1
  obtain ⟨b', o', e, _, hc⟩ := Reads.flat h (by omega) (by decide)
  injection e with e
  injection e with e1 e2
  subst e1 e2
  exact hc j v hv
theorem pow_one {p : Nat} (h : p % 8 < 8) : IntKind.u8.wrap (2 ^ min ((p : Int).tmod 8).toNat 8) = ((UInt8.ofNat (2 ^ (p % 8))).toNat : Int) := by
  have e : ((p : Int).tmod 8).toNat = p % 8 := by rw [show (p : Int).tmod 8 = ((p % 8 : Nat) : Int) from rfl, Int.toNat_natCast]
  rw [e]
  have : ∀ i : Fin 8, IntKind.u8.wrap (2 ^ min i.1 8) = ((UInt8.ofNat (2 ^ i.1)).toNat : Int) := by decide +kernel
  exact this ⟨p % 8, h⟩
theorem w_xor8' (x y : UInt8) : bits .xor .u8 (x.toNat : Int) (y.toNat : Int) = ((x ^^^ y).toNat : Int) := by
  rw [u8_xor_nat _ _ x.toNat_lt y.toNat_lt, UInt8.toNat_xor]
theorem wpList_build_pk0G {ops : Array Oper} {rest : List Oper} {op : Oper} {a : Act} {w : World} {Q : Exit → Act → World → Prop} (hw : Region.wanted op (yielded ops a.tmps) = true) (ho : op.op = .build 44 #[])
    (h : wpList Tryd.prog ops Q rest (a.put op.dst (.agg zPk)) w) : wpList Tryd.prog ops Q (op :: rest) a w :=
  wpList_step fun K hK => by
    rw [if_pos hw]
    unfold Oper.wp execOp
    have hb := build_pk0 w
    simp only [ho, Sem.run_bind, List.map_toArray, List.map_nil, hb, Result.andThen_ok, Sem.run_pure]
    exact hK _ _ h
/-- A place that may be turned. -/
def PosOk (X : List UInt8) (z : Int) : Prop := 0 ≤ z ∧ z < 8 * (X.length : Int)

set_option maxRecDepth 100000 in
set_option maxHeartbeats 16000000 in
theorem spl_long {w : World} {ca : Array Value} {Pa : Pk} (ha : PkA w ca Pa) {A : Option Addr} {zs : List Int} {c : Nat} (h1 : 40000 < lenP Pa) :
    Calls Tryd.prog 5 #[.agg ca, .slice A zs.length c] w fun e w' => e = .returned (.bool true) ∧ Below w.heap.size w w' := by
  have hB1 : Blk (w.alloc (.cells ca 44)) w.heap.size 44 ca := Blk.new _ _ _
  have hbt : Below w.heap.size w (w.alloc (.cells ca 44)) := below_new w _
  have HZA := Lib.hid ha.size
  have HLA := Lib.hid ha.long
  have HBa0 := Lib.hid hB1
  have HT0 := Lib.hid hbt
  have hd : decide (40000 < lenP Pa) = true := decide_eq_true h1
  rw [hd] at HLA
  clear hd h1 ha
  clear hB1 hbt
  go_enter Tryd.func5, Tryd.ntmps5
  go_wp2_with (refine wpList_load_blk rfl (ty := 44) rfl rfl HBa0.out Tryd.underlying44 rfl (pk_56 HZA.out) ?_; refine Hid.out ?_)
  refine Lib.hid ?_
  generalize (w.alloc (.cells ca 44)) = w0 at *
  go_wp2_with fail
  refine (HLA.out w0).mono ?_
  rintro e w1 ⟨rfl, hb1⟩
  have HBa1 := Lib.hid (HBa0.out.below hb1 HBa0.out.lt)
  have HT1 := Lib.hid (below_call HT0.out HT0.out.size hb1)
  clear HBa0 HT0
  clear hb1
  go_wp2_with fail
  refine (awake_any w1).mono ?_
  rintro e w' ⟨rfl, hb'⟩
  have HBa' := Lib.hid (HBa1.out.below hb' HBa1.out.lt)
  have HT' := Lib.hid (below_call HT1.out HT1.out.size hb')
  clear HBa1 HT1
  clear hb'
  go_wp2_with fail
  go_ret
  exact ⟨rfl, HT'.out⟩
set_option maxRecDepth 100000 in
set_option maxHeartbeats 16000000 in
theorem spl_few {w : World} {ca : Array Value} {Pa : Pk} (ha : PkA w ca Pa) {A : Option Addr} {zs : List Int} {c : Nat} (h1 : ¬ 40000 < lenP Pa) (h2 : zs.length < 1) :
    Calls Tryd.prog 5 #[.agg ca, .slice A zs.length c] w fun e w' => e = .returned (.bool true) ∧ Below w.heap.size w w' := by
  have hB1 : Blk (w.alloc (.cells ca 44)) w.heap.size 44 ca := Blk.new _ _ _
  have hbt : Below w.heap.size w (w.alloc (.cells ca 44)) := below_new w _
  have HZA := Lib.hid ha.size
  have HLA := Lib.hid ha.long
  have HBa0 := Lib.hid hB1
  have HT0 := Lib.hid hbt
  have hd : decide (40000 < lenP Pa) = false := decide_eq_false h1
  rw [hd] at HLA
  have hd2 : decide ((zs.length : Int) < 1) = true := decide_eq_true (by omega)
  clear hd h1 h2 ha
  clear hB1 hbt
  go_enter Tryd.func5, Tryd.ntmps5
  go_wp2_with (refine wpList_load_blk rfl (ty := 44) rfl rfl HBa0.out Tryd.underlying44 rfl (pk_56 HZA.out) ?_; refine Hid.out ?_)
  refine Lib.hid ?_
  generalize (w.alloc (.cells ca 44)) = w0 at *
  go_wp2_with fail
  refine (HLA.out w0).mono ?_
  rintro e w1 ⟨rfl, hb1⟩
  have HBa1 := Lib.hid (HBa0.out.below hb1 HBa0.out.lt)
  have HT1 := Lib.hid (below_call HT0.out HT0.out.size hb1)
  clear HBa0 HT0
  clear hb1
  go_wp2_with fail
  refine (awake_any w1).mono ?_
  rintro e w' ⟨rfl, hb'⟩
  have HBa' := Lib.hid (HBa1.out.below hb' HBa1.out.lt)
  have HT' := Lib.hid (below_call HT1.out HT1.out.size hb')
  clear HBa1 HT1
  clear hb'
  go_wp2_with fail
  go_ret
  exact ⟨rfl, HT'.out⟩
set_option maxRecDepth 100000 in
set_option maxHeartbeats 16000000 in
theorem spl_many {w : World} {ca : Array Value} {Pa : Pk} (ha : PkA w ca Pa) {A : Option Addr} {zs : List Int} {c : Nat} (h1 : ¬ 40000 < lenP Pa) (h2 : ¬ zs.length < 1) (h3 : 3 < zs.length) :
    Calls Tryd.prog 5 #[.agg ca, .slice A zs.length c] w fun e w' => e = .returned (.bool true) ∧ Below w.heap.size w w' := by
  have hB1 : Blk (w.alloc (.cells ca 44)) w.heap.size 44 ca := Blk.new _ _ _
  have hbt : Below w.heap.size w (w.alloc (.cells ca 44)) := below_new w _
  have HZA := Lib.hid ha.size
  have HLA := Lib.hid ha.long
  have HBa0 := Lib.hid hB1
  have HT0 := Lib.hid hbt
  have hd : decide (40000 < lenP Pa) = false := decide_eq_false h1
  rw [hd] at HLA
  have hd2 : decide ((zs.length : Int) < 1) = false := decide_eq_false (by omega)
  have hd3 : decide ((3 : Int) < (zs.length : Int)) = true := decide_eq_true (by omega)
  clear hd h1 h2 h3 ha
  clear hB1 hbt
  go_enter Tryd.func5, Tryd.ntmps5
  go_wp2_with (refine wpList_load_blk rfl (ty := 44) rfl rfl HBa0.out Tryd.underlying44 rfl (pk_56 HZA.out) ?_; refine Hid.out ?_)
  refine Lib.hid ?_
  generalize (w.alloc (.cells ca 44)) = w0 at *
  go_wp2_with fail
  refine (HLA.out w0).mono ?_
  rintro e w1 ⟨rfl, hb1⟩
  have HBa1 := Lib.hid (HBa0.out.below hb1 HBa0.out.lt)
  have HT1 := Lib.hid (below_call HT0.out HT0.out.size hb1)
  clear HBa0 HT0
  clear hb1
  go_wp2_with fail
  refine (awake_any w1).mono ?_
  rintro e w' ⟨rfl, hb'⟩
  have HBa' := Lib.hid (HBa1.out.below hb' HBa1.out.lt)
  have HT' := Lib.hid (below_call HT1.out HT1.out.size hb')
  clear HBa1 HT1
  clear hb'
  go_wp2_with fail
  go_ret
  exact ⟨rfl, HT'.out⟩
set_option maxRecDepth 100000 in
set_option maxHeartbeats 16000000 in
theorem spl_no {w : World} {ca : Array Value} {Pa : Pk} (ha : PkA w ca Pa) {A : Option Addr} {zs : List Int} {c : Nat} (h1 : ¬ 40000 < lenP Pa) (h2 : ¬ zs.length < 1) (h3 : ¬ 3 < zs.length) (hp : ¬ OkL Pa) :
    Calls Tryd.prog 5 #[.agg ca, .slice A zs.length c] w fun e w' => e = .returned (.bool true) ∧ Below w.heap.size w w' := by
  have hB1 : Blk (w.alloc (.cells ca 44)) w.heap.size 44 ca := Blk.new _ _ _
  have hbt : Below w.heap.size w (w.alloc (.cells ca 44)) := below_new w _
  have HZA := Lib.hid ha.size
  have HLA := Lib.hid ha.long
  have HBa0 := Lib.hid hB1
  have HT0 := Lib.hid hbt
  have hVA : PkV w ca Pa := ha.pkv (by unfold lenP at h1; omega)
  have HVa0 := Lib.hid (hVA.below HT0.out)
  have HN : Hid (1 ≤ zs.length ∧ zs.length ≤ 3) := ⟨by omega, by omega⟩
  have hd : decide (40000 < lenP Pa) = false := decide_eq_false h1
  rw [hd] at HLA
  have hd2 : decide ((zs.length : Int) < 1) = false := decide_eq_false (by omega)
  have hd3 : decide ((3 : Int) < (zs.length : Int)) = false := decide_eq_false (by omega)
  have HP := Lib.hid hp
  clear hd h1 h2 h3 ha hVA hp
  clear hB1 hbt
  go_enter Tryd.func5, Tryd.ntmps5
  go_wp2_with (refine wpList_load_blk rfl (ty := 44) rfl rfl HBa0.out Tryd.underlying44 rfl (pk_56 HZA.out) ?_; refine Hid.out ?_)
  refine Lib.hid ?_
  generalize (w.alloc (.cells ca 44)) = w0 at *
  go_wp2_with fail
  refine (HLA.out w0).mono ?_
  rintro e w1 ⟨rfl, hb1⟩
  have HBa1 := Lib.hid (HBa0.out.below hb1 HBa0.out.lt)
  have HT1 := Lib.hid (below_call HT0.out HT0.out.size hb1)
  have HVa1 := Lib.hid (HVa0.out.below hb1)
  clear HBa0 HT0 HVa0
  clear hb1
  go_wp2_with (refine wpList_load_blk rfl (ty := 44) rfl rfl HBa1.out Tryd.underlying44 rfl (pk_56 HZA.out) ?_; refine Hid.out ?_)
  refine Lib.hid ?_
  go_wp2_with fail
  refine (encode_any HVa1.out).mono ?_
  rintro e w2 ⟨he, hb2⟩
  clear hd2 hd3
  obtain ⟨q, hq, rfl⟩ := he.not HP.out
  have HBa2 := Lib.hid (HBa1.out.below hb2 HBa1.out.lt)
  have HT2 := Lib.hid (below_call HT1.out HT1.out.size hb2)
  have HVa2 := Lib.hid (HVa1.out.below hb2)
  clear HBa1 HT1 HVa1
  clear hb2
  have hqn : (q != 0) = true := by rcases hq with rfl | rfl <;> rfl
  clear hq
  go_wp2_with fail
  refine (awake_any w2).mono ?_
  rintro e w' ⟨rfl, hb'⟩
  have HBa' := Lib.hid (HBa2.out.below hb' HBa2.out.lt)
  have HT' := Lib.hid (below_call HT2.out HT2.out.size hb')
  have HVa' := Lib.hid (HVa2.out.below hb')
  clear HBa2 HT2 HVa2
  clear hb'
  go_wp2_with fail
  go_ret
  exact ⟨rfl, HT'.out⟩
set_option maxRecDepth 100000 in
set_option maxHeartbeats 16000000 in
theorem spl_yes {w : World} {ca : Array Value} {Pa : Pk} (ha : PkA w ca Pa) {A : Option Addr} {zs : List Int} {c : Nat} (hz : Reads w 1 A zs.length (zs.map fun z => .int .i64 z)) (hzb : ∀ z ∈ zs, -9223372036854775808 ≤ z ∧ z < 9223372036854775808) (h1 : ¬ 40000 < lenP Pa) (h2 : ¬ zs.length < 1) (h3 : ¬ 3 < zs.length) (hp : OkL Pa) :
    Calls Tryd.prog 5 #[.agg ca, .slice A zs.length c] w fun e w' => e = .returned (.bool true) ∧ Below w.heap.size w w' := by
  have hB1 : Blk (w.alloc (.cells ca 44)) w.heap.size 44 ca := Blk.new _ _ _
  have hbt : Below w.heap.size w (w.alloc (.cells ca 44)) := below_new w _
  have HZA := Lib.hid ha.size
  have HLA := Lib.hid ha.long
  have HBa0 := Lib.hid hB1
  have HT0 := Lib.hid hbt
  have hVA : PkV w ca Pa := ha.pkv (by unfold lenP at h1; omega)
  have HVa0 := Lib.hid (hVA.below HT0.out)
  have HR0 := Lib.hid (Reads.below hz HT0.out)
  have HRW := Lib.hid hz
  have HZN := Lib.hid hzb
  have HRW := Lib.hid hz
  clear hz hzb
  have HN : Hid (1 ≤ zs.length ∧ zs.length ≤ 3) := ⟨by omega, by omega⟩
  have hd : decide (40000 < lenP Pa) = false := decide_eq_false h1
  rw [hd] at HLA
  have hd2 : decide ((zs.length : Int) < 1) = false := decide_eq_false (by omega)
  have hd3 : decide ((3 : Int) < (zs.length : Int)) = false := decide_eq_false (by omega)
  have HP := Lib.hid hp
  clear hd h1 h2 h3 ha hVA hp
  clear hB1 hbt
  go_enter Tryd.func5, Tryd.ntmps5
  go_wp2_with (refine wpList_load_blk rfl (ty := 44) rfl rfl HBa0.out Tryd.underlying44 rfl (pk_56 HZA.out) ?_; refine Hid.out ?_)
  refine Lib.hid ?_
  generalize (w.alloc (.cells ca 44)) = w0 at *
  go_wp2_with fail
  refine (HLA.out w0).mono ?_
  rintro e w1 ⟨rfl, hb1⟩
  have HBa1 := Lib.hid (HBa0.out.below hb1 HBa0.out.lt)
  have HT1 := Lib.hid (below_call HT0.out HT0.out.size hb1)
  have HVa1 := Lib.hid (HVa0.out.below hb1)
  have HR1 := Lib.hid (Reads.below HR0.out hb1)
  clear HBa0 HT0 HVa0 HR0
  clear hb1
  go_wp2_with (refine wpList_load_blk rfl (ty := 44) rfl rfl HBa1.out Tryd.underlying44 rfl (pk_56 HZA.out) ?_; refine Hid.out ?_)
  refine Lib.hid ?_
  go_wp2_with fail
  refine (encode_any HVa1.out).mono ?_
  rintro e w2 ⟨he, hb2⟩
  clear hd2 hd3
  obtain ⟨gx, cx, rfl, hox, hx1, hx2⟩ := he.get HP.out (x := (enc Pa).1) rfl (n := (Crc.sealed (enc Pa).1).length) (by rw [sealed_len])
  have hgx : w.heap.size ≤ gx := Nat.le_trans HT1.out.size (own_ge hox gx rfl)
  have HBa2 := Lib.hid (HBa1.out.below hb2 HBa1.out.lt)
  have HT2 := Lib.hid (below_call HT1.out HT1.out.size hb2)
  have HVa2 := Lib.hid (HVa1.out.below hb2)
  have HR2 := Lib.hid (Reads.below HR1.out hb2)
  clear HBa1 HT1 HVa1 HR1
  clear HBa2 HVa2
  have hel : 0 < (enc Pa).1.length := by rw [enc_form]; simp
  have hxl := sealed_len (enc Pa).1
  have hxm := HP.out.2
  obtain ⟨X, hX⟩ : ∃ X, X = Crc.sealed (enc Pa).1 := ⟨_, rfl⟩
  rw [← hX] at hxl hox hx1
  rw [← hX]
  have hxs : decide ((X.length : Int) < 5) = false := decide_eq_false (by omega)
  have HOX := Lib.hid hox
  have HXE := Lib.hid hX
  have HCX : Hid (X.length ≤ cx ∧ cx ≤ 9223372036854775807) := ⟨hx1, hx2⟩
  have HXM : Hid (5 ≤ X.length ∧ X.length ≤ 16384) := ⟨by omega, by omega⟩
  have HGX := Lib.hid hgx
  clear hox hX hx1 hx2 hb2 he hel hxl hxm hgx
  obtain ⟨b, o, rfl, _, _⟩ := Reads.flat HR2.out (by have := HN.out.1; omega) (by decide)
  go_wp2_with fail
  have hw8 : IntKind.i64.wrap (8 * (X.length : Int)) = 8 * (X.length : Int) := by have := HXM.out.2; rw [IntKind.wrap_i64]; omega
  clear hxs
  go_loopw [7] (fun i wr => ∃ k : Nat, k ≤ zs.length ∧ i = .int .i64 k ∧ Below w2.heap.size w2 wr ∧ (∀ z ∈ zs.take k, PosOk X z) ∧ (zs.take k).Nodup) (fun i _ => zs.length - (intOf i).toNat)
  case atStart => exact ⟨0, by omega, rfl, Below.refl _ _, (by intro z hz; cases hz), List.nodup_nil⟩
  case round =>
    obtain ⟨k, hk, rfl, hb, hpos, hnd⟩ := hrel
    have hn3 := HN.out.2
    obtain ⟨wo, rfl⟩ : ∃ wo : World, wo = wr := ⟨_, rfl⟩
    by_cases hlt : k < zs.length
    · have hRo := Reads.below HR2.out hb
      have c0 := Reads.cellAt (j := k) (v := .int .i64 zs[k]) hRo (by rw [List.getElem?_map, List.getElem?_eq_getElem hlt]; rfl)
      have HZK : Hid (zs[k]? = some zs[k]) := List.getElem?_eq_getElem hlt
      have hzb := HZN.out zs[k] (List.getElem_mem hlt)
      generalize zs[k] = z at c0 HZK hzb
      have HRo := Lib.hid hRo
      have HBo := Lib.hid hb
      have HPOS := Lib.hid hpos
      have HND := Lib.hid hnd
      clear hRo hb hpos hnd
      by_cases hv0 : z < 0
      · have d0 : decide (z < 0) = true := decide_eq_true hv0
        clear hzb hw8
        go_wp2_with fail
        refine (awake_any wo).mono ?_
        rintro e w' ⟨rfl, hb'⟩
        have HB' := Lib.hid (below_call (below_call HT2.out HT2.out.size HBo.out) (Nat.le_trans HT2.out.size HBo.out.size) hb')
        clear hb'
        go_wp2_with fail
        go_ret
        exact ⟨rfl, HB'.out⟩
      have d0 : decide (z < 0) = false := decide_eq_false hv0
      by_cases hv1 : 8 * (X.length : Int) ≤ z
      · have d1 : decide (8 * (X.length : Int) ≤ z) = true := decide_eq_true hv1
        clear hzb hv0 hv1
        go_wp2_with fail
        refine (awake_any wo).mono ?_
        rintro e w' ⟨rfl, hb'⟩
        have HB' := Lib.hid (below_call (below_call HT2.out HT2.out.size HBo.out) (Nat.le_trans HT2.out.size HBo.out.size) hb')
        clear hb'
        go_wp2_with fail
        go_ret
        exact ⟨rfl, HB'.out⟩
      have d1 : decide (8 * (X.length : Int) ≤ z) = false := decide_eq_false hv1
      have HPZ : Hid (PosOk X z) := ⟨by omega, by omega⟩
      clear hzb hv0 hv1
      go_wp2_with fail
      clear hw8 d0 d1 c0
      go_loopw [8] (fun i wr => ∃ j : Nat, j ≤ k ∧ i = .int .i64 j ∧ Below wo.heap.size wo wr ∧ ∀ q, q < j → zs[q]? ≠ some z) (fun i _ => k - (intOf i).toNat)
      case atStart => exact ⟨0, by omega, rfl, Below.refl _ _, (by intro q hq; omega)⟩
      case round =>
        obtain ⟨j, hj, rfl, hb, hne⟩ := hrel
        by_cases hjk : j < k
        · have hRr := Reads.below HRo.out hb
          have hjl : j < zs.length := by omega
          have c0 := Reads.cellAt (j := k) (v := .int .i64 z) hRr (by rw [List.getElem?_map, HZK.out]; rfl)
          have c1 := Reads.cellAt (j := j) (v := .int .i64 zs[j]) hRr (by rw [List.getElem?_map, List.getElem?_eq_getElem hjl]; rfl)
          have HZJ : Hid (zs[j]? = some zs[j]) := List.getElem?_eq_getElem hjl
          generalize zs[j] = y at c1 HZJ
          have HBr := Lib.hid hb
          have HNE := Lib.hid hne
          clear hRr hb hne
          by_cases hyz : y = z
          · have dy : decide (y = z) = true := decide_eq_true hyz
            have dy2 : (y == z) = true := beq_iff_eq.2 hyz
            clear hyz
            go_wp2_with fail
            refine PF.pf_begin (by kernel_rfl) ?_
            refine PF.pf_take0 0 (by kernel_rfl) rfl (fun _ _ _ _ _ h => h) (by kernel_rfl) (fun u => by go_simp; try rfl) ?_
            try simp only [Act.put, List.setIfInBounds_toArray, List.set_cons_zero, List.set_cons_succ]
            refine PF.pf_take0 1 (by kernel_rfl) rfl (fun _ _ _ _ _ h => h) (by kernel_rfl) (fun u => by go_simp; try rfl) ?_
            try simp only [Act.put, List.setIfInBounds_toArray, List.set_cons_zero, List.set_cons_succ]
            refine PF.pf_take0 2 (by kernel_rfl) rfl (fun _ _ _ _ _ h => h) (by kernel_rfl) (fun u => by go_simp; try rfl) ?_
            try simp only [Act.put, List.setIfInBounds_toArray, List.set_cons_zero, List.set_cons_succ]
            refine PF.pf_take1 3 (PF.Same (b) _) (by kernel_rfl) rfl (fun _ _ _ _ _ h => h) (by kernel_rfl) (PF.Same.refl _ _) (fun u hu => by have hcu := hu.cell; go_simp; try rfl) ?_
            try simp only [Act.put, List.setIfInBounds_toArray, List.set_cons_zero, List.set_cons_succ]
            refine PF.pf_take0 4 (by kernel_rfl) rfl (fun _ _ _ _ _ h => h) (by kernel_rfl) (fun u => by go_simp; try rfl) ?_
            try simp only [Act.put, List.setIfInBounds_toArray, List.set_cons_zero, List.set_cons_succ]
            refine PF.pf_take0 5 (by kernel_rfl) rfl (fun _ _ _ _ _ h => h) (by kernel_rfl) (fun u => by go_simp; try rfl) ?_
            try simp only [Act.put, List.setIfInBounds_toArray, List.set_cons_zero, List.set_cons_succ]
            refine PF.pf_take0 6 (by kernel_rfl) rfl (fun _ _ _ _ _ h => h) (by kernel_rfl) (fun u => by go_simp; try rfl) ?_
            try simp only [Act.put, List.setIfInBounds_toArray, List.set_cons_zero, List.set_cons_succ]
            refine PF.pf_take1 7 (PF.Same (b) _) (by kernel_rfl) rfl (fun _ _ _ _ _ h => h) (by kernel_rfl) (PF.Same.refl _ _) (fun u hu => by have hcu := hu.cell; go_simp; try rfl) ?_
            try simp only [Act.put, List.setIfInBounds_toArray, List.set_cons_zero, List.set_cons_succ]
            refine PF.pf_take0 8 (by kernel_rfl) rfl (fun _ _ _ _ _ h => h) (by kernel_rfl) (fun u => by go_simp; try rfl) ?_
            try simp only [Act.put, List.setIfInBounds_toArray, List.set_cons_zero, List.set_cons_succ]
            refine PF.pf_done (by kernel_rfl) ?_
            go_wp2_with fail
            refine (awake_any _).mono ?_
            rintro e w' ⟨rfl, hb'⟩
            have hbr : Below w.heap.size w wr := below_call (below_call HT2.out HT2.out.size HBo.out) (Nat.le_trans HT2.out.size HBo.out.size) HBr.out
            have HB' := Lib.hid (below_call hbr hbr.size (((Below.refl _ _).drew).trans hb'))
            clear hb' hbr
            go_wp2_with fail
            go_ret
            exact ⟨rfl, HB'.out⟩
          · have dy : decide (y = z) = false := decide_eq_false hyz
            have dy2 : (y == z) = false := beq_eq_false_iff_ne.2 hyz
            have HYZ := Lib.hid hyz
            clear hyz
            go_wp2_with fail
            refine PF.pf_begin (by kernel_rfl) ?_
            refine PF.pf_take0 0 (by kernel_rfl) rfl (fun _ _ _ _ _ h => h) (by kernel_rfl) (fun u => by go_simp; try rfl) ?_
            try simp only [Act.put, List.setIfInBounds_toArray, List.set_cons_zero, List.set_cons_succ]
            refine PF.pf_take0 1 (by kernel_rfl) rfl (fun _ _ _ _ _ h => h) (by kernel_rfl) (fun u => by go_simp; try rfl) ?_
            try simp only [Act.put, List.setIfInBounds_toArray, List.set_cons_zero, List.set_cons_succ]
            refine PF.pf_take0 2 (by kernel_rfl) rfl (fun _ _ _ _ _ h => h) (by kernel_rfl) (fun u => by go_simp; try rfl) ?_
            try simp only [Act.put, List.setIfInBounds_toArray, List.set_cons_zero, List.set_cons_succ]
            refine PF.pf_take1 3 (PF.Same (b) _) (by kernel_rfl) rfl (fun _ _ _ _ _ h => h) (by kernel_rfl) (PF.Same.refl _ _) (fun u hu => by have hcu := hu.cell; go_simp; try rfl) ?_
            try simp only [Act.put, List.setIfInBounds_toArray, List.set_cons_zero, List.set_cons_succ]
            refine PF.pf_take0 4 (by kernel_rfl) rfl (fun _ _ _ _ _ h => h) (by kernel_rfl) (fun u => by go_simp; try rfl) ?_
            try simp only [Act.put, List.setIfInBounds_toArray, List.set_cons_zero, List.set_cons_succ]
            refine PF.pf_take0 5 (by kernel_rfl) rfl (fun _ _ _ _ _ h => h) (by kernel_rfl) (fun u => by go_simp; try rfl) ?_
            try simp only [Act.put, List.setIfInBounds_toArray, List.set_cons_zero, List.set_cons_succ]
            refine PF.pf_take0 6 (by kernel_rfl) rfl (fun _ _ _ _ _ h => h) (by kernel_rfl) (fun u => by go_simp; try rfl) ?_
            try simp only [Act.put, List.setIfInBounds_toArray, List.set_cons_zero, List.set_cons_succ]
            refine PF.pf_take1 7 (PF.Same (b) _) (by kernel_rfl) rfl (fun _ _ _ _ _ h => h) (by kernel_rfl) (PF.Same.refl _ _) (fun u hu => by have hcu := hu.cell; go_simp; try rfl) ?_
            try simp only [Act.put, List.setIfInBounds_toArray, List.set_cons_zero, List.set_cons_succ]
            refine PF.pf_take0 8 (by kernel_rfl) rfl (fun _ _ _ _ _ h => h) (by kernel_rfl) (fun u => by go_simp; try rfl) ?_
            try simp only [Act.put, List.setIfInBounds_toArray, List.set_cons_zero, List.set_cons_succ]
            refine PF.pf_done (by kernel_rfl) ?_
            go_wp2_with fail
            go_roundw
            case rel => exact ⟨j + 1, by omega, by go_num, HBr.out.drew, fun q hq => by
              rcases Nat.lt_or_ge q j with h | h
              · exact HNE.out q h
              · obtain rfl : q = j := by omega
                rw [HZJ.out]
                intro e
                injection e with e
                exact HYZ.out e⟩
            case measure => simp [intOf]; omega
        · obtain rfl : j = k := by omega
          have HBr := Lib.hid hb
          have HNE := Lib.hid hne
          clear hb hne
          go_wp2_with fail
          go_roundw
          case rel => exact ⟨j + 1, by omega, by go_num, HBo.out.trans (HBr.out.mono HBo.out.size), fun y hy => by
              rw [List.take_succ_eq_append_getElem hlt, List.mem_append, List.mem_singleton] at hy
              have h9 := HZK.out
              rw [List.getElem?_eq_getElem hlt] at h9
              injection h9 with h9
              rcases hy with hy | rfl
              · exact HPOS.out y hy
              · rw [h9]; exact HPZ.out, by
              rw [List.take_succ_eq_append_getElem hlt]
              have h9 := HZK.out
              rw [List.getElem?_eq_getElem hlt] at h9
              injection h9 with h9
              rw [List.nodup_append]
              refine ⟨HND.out, by simp, fun a ha b hb => ?_⟩
              rw [List.mem_singleton] at hb
              subst hb
              intro e
              obtain ⟨q, hq, hq2⟩ := List.getElem_of_mem ha
              rw [List.getElem_take] at hq2
              rw [List.length_take] at hq
              refine HNE.out q (by omega) ?_
              rw [List.getElem?_eq_getElem (by omega), hq2, e, h9]⟩
          case measure => simp [intOf]; omega
    · obtain rfl : k = zs.length := by omega
      rw [List.take_length] at hpos hnd
      have HPOS := Lib.hid hpos
      have HND := Lib.hid hnd
      have HB3 := Lib.hid hb
      clear hpos hnd hb hw8
      have HX3 := Lib.hid (own_call HOX.out HB3.out)
      have HT3 := Lib.hid (below_call HT2.out HT2.out.size HB3.out)
      go_wp2_with fail
      go_loopw [9] (fun i wr => ∃ k : Nat, k ≤ zs.length ∧ i = .int .i64 k ∧ wr.ownsRow w1.heap.size 5 1 (.slice (some ⟨gx, 0, none⟩) X.length cx) X.length ((Crc.flips X ((zs.map Int.toNat).take k)).map bv) ∧ Below w.heap.size w wr) (fun i _ => zs.length - (intOf i).toNat)
      case atStart => exact ⟨0, by omega, rfl, HX3.out, HT3.out⟩
      case round =>
        obtain ⟨k, hk, rfl, hox, hbw⟩ := hrel
        by_cases hlt : k < zs.length
        · have c0 := Reads.cellAt (j := k) (v := .int .i64 zs[k]) (Reads.below HRW.out hbw) (by rw [List.getElem?_map, List.getElem?_eq_getElem hlt]; rfl)
          have hpz := HPOS.out zs[k] (List.getElem_mem hlt)
          have hL : (Crc.flips X ((zs.map Int.toNat).take k)).length = X.length := Crc.flips_len _ _
          have hstep : Crc.flips X ((zs.map Int.toNat).take (k + 1)) = Crc.flip (Crc.flips X ((zs.map Int.toNat).take k)) zs[k].toNat := by
            unfold Crc.flips
            rw [List.take_succ_eq_append_getElem (by rw [List.length_map]; exact hlt), List.foldl_append, List.getElem_map]
            rfl
          generalize Crc.flips X ((zs.map Int.toNat).take k) = L at hox hL hstep
          generalize zs[k] = z at c0 hpz hstep
          obtain ⟨p, rfl⟩ : ∃ p : Nat, z = (p : Int) := ⟨z.toNat, by have := hpz.1; omega⟩
          have hpl : p < 8 * X.length := by have := hpz.2; omega
          have hpd : p / 8 < L.length := by omega
          have hox' : wr.ownsRow w1.heap.size 5 1 (.slice (some ⟨gx, 0, none⟩) L.length cx) L.length (L.map bv) := by rw [hL]; exact hox
          have hat := own_at hox' hpd
          have hfz := hox'.frozenAt (p / 8)
          have hset := own_set hox' (p / 8) (L.getD (p / 8) 0 ^^^ UInt8.ofNat (2 ^ (p % 8)))
          generalize hq : L.getD (p / 8) 0 = q at hat hset
          have HSET := Lib.hid hset
          have HSTEP : Hid (Crc.flips X ((zs.map Int.toNat).take (k + 1)) = L.set (p / 8) (q ^^^ UInt8.ofNat (2 ^ (p % 8)))) := (by
            have h := hstep
            unfold Crc.flip at h
            rw [Int.toNat_natCast, hq] at h
            exact h)
          have HBW := Lib.hid hbw
          have HL := Lib.hid hL
          have hxm := HXM.out.2
          have hpX : p / 8 < X.length := by omega
          have hr8 : p % 8 < 8 := by omega
          have q8 : IntKind.i64.wrap ((p : Int) / 8) = ((p / 8 : Nat) : Int) := by rw [IntKind.wrap_i64]; omega
          clear hxm
          generalize p / 8 = j at *
          obtain ⟨y, hy⟩ : ∃ y, y = UInt8.ofNat (2 ^ (p % 8)) := ⟨_, rfl⟩
          have hsw : IntKind.u8.wrap (2 ^ min ((p : Int).tmod 8).toNat 8) = (y.toNat : Int) := by
            rw [hy]
            exact pow_one hr8
          rw [← hy] at HSET HSTEP
          have hxo : bits .xor .u8 (q.toNat : Int) (y.toNat : Int) = ((q ^^^ y).toNat : Int) := w_xor8' _ _
          generalize q ^^^ y = v at hxo HSET HSTEP
          clear hr8 hy
          have hjX : (j : Int) < (X.length : Int) := by omega
          have hj0 : (0 : Int) ≤ (j : Int) := by omega
          clear hpX
          clear hset hstep hbw hL hox hox' hpz hpl hpd hq
          go_wp2_with fail
          refine PF.pf_begin (by kernel_rfl) ?_
          refine PF.pf_take0 0 (by kernel_rfl) rfl (fun _ _ _ _ _ h => h) (by kernel_rfl) (fun u => by go_simp; try rfl) ?_
          try simp only [Act.put, List.setIfInBounds_toArray, List.set_cons_zero, List.set_cons_succ]
          refine PF.pf_take0 1 (by kernel_rfl) rfl (fun _ _ _ _ _ h => h) (by kernel_rfl) (fun u => by go_simp; try rfl) ?_
          try simp only [Act.put, List.setIfInBounds_toArray, List.set_cons_zero, List.set_cons_succ]
          refine PF.pf_take0 2 (by kernel_rfl) rfl (fun _ _ _ _ _ h => h) (by kernel_rfl) (fun u => by go_simp; try rfl) ?_
          try simp only [Act.put, List.setIfInBounds_toArray, List.set_cons_zero, List.set_cons_succ]
          refine PF.pf_take0 3 (by kernel_rfl) rfl (fun _ _ _ _ _ h => h) (by kernel_rfl) (fun u => by go_simp; try rfl) ?_
          try simp only [Act.put, List.setIfInBounds_toArray, List.set_cons_zero, List.set_cons_succ]
          refine PF.pf_take1 4 (PF.Same (b) _) (by kernel_rfl) rfl (fun _ _ _ _ _ h => h) (by kernel_rfl) (PF.Same.refl _ _) (fun u hu => by have hcu := hu.cell; go_simp; try rfl) ?_
          try simp only [Act.put, List.setIfInBounds_toArray, List.set_cons_zero, List.set_cons_succ]
          refine PF.pf_take0 5 (by kernel_rfl) rfl (fun _ _ _ _ _ h => h) (by kernel_rfl) (fun u => by go_simp; try rfl) ?_
          try simp only [Act.put, List.setIfInBounds_toArray, List.set_cons_zero, List.set_cons_succ]
          refine PF.pf_take0 6 (by kernel_rfl) rfl (fun _ _ _ _ _ h => h) (by kernel_rfl) (fun u => by go_simp; try rfl) ?_
          try simp only [Act.put, List.setIfInBounds_toArray, List.set_cons_zero, List.set_cons_succ]
          refine PF.pf_take0 7 (by kernel_rfl) rfl (fun _ _ _ _ _ h => h) (by kernel_rfl) (fun u => by go_simp; try rfl) ?_
          try simp only [Act.put, List.setIfInBounds_toArray, List.set_cons_zero, List.set_cons_succ]
          refine PF.pf_take0 8 (by kernel_rfl) rfl (fun _ _ _ _ _ h => h) (by kernel_rfl) (fun u => by go_simp; try rfl) ?_
          try simp only [Act.put, List.setIfInBounds_toArray, List.set_cons_zero, List.set_cons_succ]
          refine PF.pf_take0 9 (by kernel_rfl) rfl (fun _ _ _ _ _ h => h) (by kernel_rfl) (fun u => by go_simp; try rfl) ?_
          try simp only [Act.put, List.setIfInBounds_toArray, List.set_cons_zero, List.set_cons_succ]
          refine PF.pf_take1 10 (PF.Same (b) _) (by kernel_rfl) rfl (fun _ _ _ _ _ h => h) (by kernel_rfl) (PF.Same.refl _ _) (fun u hu => by have hcu := hu.cell; go_simp; try rfl) ?_
          try simp only [Act.put, List.setIfInBounds_toArray, List.set_cons_zero, List.set_cons_succ]
          refine PF.pf_take0 11 (by kernel_rfl) rfl (fun _ _ _ _ _ h => h) (by kernel_rfl) (fun u => by go_simp; try rfl) ?_
          try simp only [Act.put, List.setIfInBounds_toArray, List.set_cons_zero, List.set_cons_succ]
          refine PF.pf_take0 12 (by kernel_rfl) rfl (fun _ _ _ _ _ h => h) (by kernel_rfl) (fun u => by go_simp; try rfl) ?_
          try simp only [Act.put, List.setIfInBounds_toArray, List.set_cons_zero, List.set_cons_succ]
          refine PF.pf_take1 13 (PF.Same (gx) _) (by kernel_rfl) rfl (fun _ _ _ _ _ h => h) (by kernel_rfl) (PF.Same.refl _ _) (fun u hu => by have hcu := hu.cell; go_simp; try rfl) ?_
          try simp only [Act.put, List.setIfInBounds_toArray, List.set_cons_zero, List.set_cons_succ]
          refine PF.pf_take0 14 (by kernel_rfl) rfl (fun _ _ _ _ _ h => h) (by kernel_rfl) (fun u => by go_simp; try rfl) ?_
          try simp only [Act.put, List.setIfInBounds_toArray, List.set_cons_zero, List.set_cons_succ]
          refine PF.pf_take0 15 (by kernel_rfl) rfl (fun _ _ _ _ _ h => h) (by kernel_rfl) (fun u => by go_simp; try rfl) ?_
          try simp only [Act.put, List.setIfInBounds_toArray, List.set_cons_zero, List.set_cons_succ]
          refine PF.pf_take0 16 (by kernel_rfl) rfl (fun _ _ _ _ _ h => h) (by kernel_rfl) (fun u => by go_simp; try rfl) ?_
          try simp only [Act.put, List.setIfInBounds_toArray, List.set_cons_zero, List.set_cons_succ]
          refine PF.pf_take1 17 (PF.Same (b) _) (by kernel_rfl) rfl (fun _ _ _ _ _ h => h) (by kernel_rfl) (PF.Same.refl _ _) (fun u hu => by have hcu := hu.cell; go_simp; try rfl) ?_
          try simp only [Act.put, List.setIfInBounds_toArray, List.set_cons_zero, List.set_cons_succ]
          refine PF.pf_take0 18 (by kernel_rfl) rfl (fun _ _ _ _ _ h => h) (by kernel_rfl) (fun u => by go_simp; try rfl) ?_
          try simp only [Act.put, List.setIfInBounds_toArray, List.set_cons_zero, List.set_cons_succ]
          refine PF.pf_take0 19 (by kernel_rfl) rfl (fun _ _ _ _ _ h => h) (by kernel_rfl) (fun u => by go_simp; try rfl) ?_
          try simp only [Act.put, List.setIfInBounds_toArray, List.set_cons_zero, List.set_cons_succ]
          refine PF.pf_take0 20 (by kernel_rfl) rfl (fun _ _ _ _ _ h => h) (by kernel_rfl) (fun u => by go_simp; try rfl) ?_
          try simp only [Act.put, List.setIfInBounds_toArray, List.set_cons_zero, List.set_cons_succ]
          refine PF.pf_take0 21 (by kernel_rfl) rfl (fun _ _ _ _ _ h => h) (by kernel_rfl) (fun u => by go_simp; try rfl) ?_
          try simp only [Act.put, List.setIfInBounds_toArray, List.set_cons_zero, List.set_cons_succ]
          refine PF.pf_exec 22 (by kernel_rfl) rfl (by kernel_rfl) (fun K hK => ?_)
          go_simp
          refine hK _ _ (by repeat (first | exact PF.owes_nil | refine PF.owes_left ?_ | refine PF.owes_no (by decide +kernel) ?_ | refine PF.owes_yes (by first | rfl | assumption | go_simp) ?_)) ?_
          clear hK K
          try simp only [Act.put, List.setIfInBounds_toArray, List.set_cons_zero, List.set_cons_succ]
          refine PF.pf_done (by kernel_rfl) ?_
          go_wp2_with fail
          go_roundw
          case rel => exact ⟨k + 1, by omega, by go_num, by rw [HSTEP.out]; have h := HSET.out; rw [HL.out] at h; exact h, HBW.out.drew.setCell (p := ⟨gx, j, none⟩) HGX.out _⟩
          case measure => simp [intOf]; omega
        · obtain rfl : k = zs.length := by omega
          have hml : (zs.map Int.toNat).length = zs.length := List.length_map _
          rw [show (zs.map Int.toNat).take zs.length = zs.map Int.toNat by rw [← hml, List.take_length]] at hox
          have hLL : (Crc.flips X (zs.map Int.toNat)).length = X.length := Crc.flips_len _ _
          have hno : dec (Crc.flips X (zs.map Int.toNat)) = none := by
            unfold dec
            rw [HXE.out, Crc.spoilt (by have := HP.out.2; omega) (by rw [hml]; exact HN.out.1) (by rw [hml]; exact HN.out.2) (fun p hp => by
              obtain ⟨z, hz, rfl⟩ := List.mem_map.1 hp
              have h1 := HPOS.out z hz
              rw [← HXE.out]
              have h2 := h1.1
              have h3 := h1.2
              omega) (by
              unfold List.Nodup
              rw [List.pairwise_map]
              refine List.Pairwise.imp_of_mem (fun {x y} hx hy hxy e => hxy ?_) HND.out
              have h1 := (HPOS.out x hx).1
              have h2 := (HPOS.out y hy).1
              omega)]
          generalize Crc.flips X (zs.map Int.toNat) = L at hox hLL hno
          have hox2 := own_bytes hox
          rw [← hLL] at hox
          have HDC := Lib.hid (decode_any (some ⟨gx, 0, none⟩) cx L wr hox2 (by have := HXM.out.2; omega) (by have := HCX.out.1; omega) HCX.out.2)
          rw [hLL] at HDC
          have HNO := Lib.hid hno
          have HBW := Lib.hid hbw
          clear hox hox2 hno hbw hLL hml
          go_wp2_with fail
          refine HDC.out.mono ?_
          rintro e w20 ⟨hdp, hb20⟩
          unfold DecPost at hdp
          rw [HNO.out] at hdp
          obtain rfl := hdp
          have HB20 := Lib.hid (below_call HBW.out HBW.out.size hb20)
          clear hb20
          go_wp2_with (refine wpList_alloc_blk rfl rfl zero_pk ?_; rintro gz wz hgz hBz hbz; refine Hid.out ?_)
          refine Lib.hid ?_
          go_wp2_with (refine wpList_store_blk rfl rfl rfl rfl hBz rfl (pk_56 zPk_size) zPk_oneL ?_; rintro w21 hBy hmy; refine Hid.out ?_)
          refine Lib.hid ?_
          have HB21 := Lib.hid (below_call HB20.out HB20.out.size (hbz.trans (hmy.to_below hbz.size fun b hb e => by omega)))
          have HBZ := Lib.hid hBy
          clear hBz hbz hgz hBy hmy
          go_wp2_with (refine wpList_load_blkG (by kernel_rfl) (ty := 44) rfl rfl HBZ.out Tryd.underlying44 rfl (pk_56 zPk_size) ?_; refine Hid.out ?_)
          refine Lib.hid ?_
          go_wp2_with (refine wpList_build_pk0G (by kernel_rfl) rfl ?_; refine Hid.out ?_)
          refine Lib.hid ?_
          go_wp2_with fail
          refine (same_any (zpk_v w21) (zpk_v w21)).mono ?_
          rintro e w22 ⟨rfl, hb22⟩
          rw [decide_eq_true (PkEq.refl _)]
          have HB22 := Lib.hid (below_call HB21.out HB21.out.size hb22)
          clear hb22
          go_wp2_with fail
          refine (awake_any w22).mono ?_
          rintro e w23 ⟨rfl, hb23⟩
          have HB23 := Lib.hid (below_call HB22.out HB22.out.size hb23)
          clear hb23
          go_wp2_with fail
          go_ret
          exact ⟨rfl, HB23.out⟩
theorem WireSpoilt.walk {w : World} (ca : Array Value) (Pa : Pk) (ha : PkA w ca Pa) (A : Option Addr) (zs : List Int) (c : Nat) (hz : Reads w 1 A zs.length (zs.map fun z => .int .i64 z)) (hzb : ∀ z ∈ zs, -9223372036854775808 ≤ z ∧ z < 9223372036854775808) :
    Calls Tryd.prog 5 #[.agg ca, .slice A zs.length c] w fun e w' => e = .returned (.bool true) ∧ Below w.heap.size w w' := by
  by_cases h1 : 40000 < lenP Pa
  · exact spl_long ha h1
  by_cases h2 : zs.length < 1
  · exact spl_few ha h1 h2
  by_cases h3 : 3 < zs.length
  · exact spl_many ha h1 h2 h3
  by_cases hp : OkL Pa
  · exact spl_yes ha hz hzb h1 h2 h3 hp
  · exact spl_no ha h1 h2 h3 hp
end Go.Proofs.YtdckdjkkaangmaaDoor
