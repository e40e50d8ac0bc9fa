/- Great structs, as blocks; a packet, decoded. -/
import Derived.Test.YtdckdjkkaangmaaDoorJF
import Derived.Test.YtdckdjkkaangmaaDoorJD
import Derived.Laws.ResultCell
namespace Go.Proofs.YtdckdjkkaangmaaDoor
set_option linter.unusedVariables false
set_option linter.unusedSimpArgs false
set_option maxRecDepth 100000
open Go.RowKit

section
variable {P : Program} {ops : Array Oper} {rest : List Oper} {op : Oper} {a : Act} {w : World} {Q : Exit → Act → World → Prop}
theorem wpList_alloc_blk (hgd : op.guard = none) {ty : TypeId} (ho : op.op = .alloc ty) {Z : Array Value} (hz : ∀ w, (zeroValue ty).run P w = .ok (.agg Z) w)
    (h : ∀ g w', w.heap.size = g → Blk w' g ty Z → Below w.heap.size w w' → wpList P ops Q rest (a.put op.dst (.pointer (some ⟨g, 0, none⟩))) w') : wpList P ops Q (op :: rest) a w :=
  wpList_alloc_z hgd ho hz (h _ _ rfl (Blk.new _ _ _) (below_new _ _))
theorem wpList_store_blk (hgd : op.guard = none) {ty : TypeId} {x y : Operand} (ho : op.op = .store ty x y) {g : Nat} {t : TypeId} {c0 cs : Array Value} (hx : a.eval x = .pointer (some ⟨g, 0, none⟩)) (hy : a.eval y = .agg cs)
    (hB : Blk w g t c0) (hs : c0.size = cs.size) (hi : (P.info? ty).map (·.size) = some cs.size) (h1 : ∀ v ∈ cs.toList, v.oneCell' = true)
    (h : ∀ w', Blk w' g t cs → Mod (fun b => b = g) w w' → wpList P ops Q rest (a.put op.dst undef) w') : wpList P ops Q (op :: rest) a w := by
  refine wpList_store_rg hgd ho (vs := cs.toList) hx (by rw [hy]) (hB.there (by rw [hs]; simp)) (by simpa using hi) h1 ?_
  have hp := hB.puts cs.toList 0
  rw [putL_all hs] at hp
  exact h _ hp (mod_setCells _ _ _)
theorem wpList_load_blk (hgd : op.guard = none) {ty : TypeId} {x : Operand} (ho : op.op = .load ty x) {g : Nat} {t : TypeId} {cs : Array Value} (hx : a.eval x = .pointer (some ⟨g, 0, none⟩)) (hB : Blk w g t cs) {d : TypeDesc}
    (hu : P.underlying ty = some d) (hd : d.isRow = true) (hi : (P.info? ty).map (·.size) = some cs.size) (h : wpList P ops Q rest (a.put op.dst (.agg cs)) w) : wpList P ops Q (op :: rest) a w :=
  wpList_load_rg hgd ho hx hB.rangeAll hu hd (by simpa using hi) (by simpa using h)
end
theorem results_blk_tmp {P : Program} {fn : Func} {p u : Tmp} {ty : TypeId} (h : fn.results = #[.cell p ty, .tmp u]) (tmps : Array Value) {w : World} {g : Nat} {t : TypeId} {cs : Array Value} (hB : Blk w g t cs) {d : TypeDesc}
    (hp : tmps.getD p undef = .pointer (some ⟨g, 0, none⟩)) (hu : P.underlying ty = some d) (hd : (match d with | .struct _ | .array _ _ => true | _ => false) = true) (hi : (P.info? ty).map (·.size) = some cs.size) {v : Value} (hv : tmps.getD u undef = v) :
    (results fn tmps).run P w = .ok (.tuple #[.agg cs, v]) w := by
  rw [results_cell_tmp h, hp, hv]
  have ha : (asAddr (.pointer (some ⟨g, 0, none⟩))).run P w = .ok ⟨g, 0, none⟩ w := by simp [asAddr]
  rw [ha]
  simp only [Result.andThen]
  rw [run_loadVar_row w g t ty cs _ d hB hu hd hi]
theorem PkO.low {B B' : Nat} {w : World} {cs : Array Value} {P : Pk} (h : PkO B w cs P) (hB : B' ≤ B) : PkO B' w cs P := by
  obtain ⟨hv, C, hC, h1, h2⟩ := h
  refine ⟨hv, C, by omega, fun o ho => ?_, h2⟩
  obtain ⟨A, c, e, q1, q2⟩ := h1 o ho
  refine ⟨A, c, e, q1, fun ad ea => ?_⟩
  obtain ⟨a1, a2, a3, a4⟩ := q2 ad ea
  exact ⟨a1, a2, by omega, a4⟩
theorem build_pk0 (w : World) : (Instr.build 44 #[]).run Tryd.prog w = .ok (.agg zPk) w := by kernel_rfl
theorem wpList_build_pk0 {ops : Array Oper} {rest : List Oper} {dst : Option Nat} {ty : TypeId} {pos : String} {after : Array Edge} {a : Act} {w : World} {Q : Exit → Act → World → Prop}
    (h : wpList Tryd.prog ops Q rest (a.put dst (.agg zPk)) w) : wpList Tryd.prog ops Q ({ dst := dst, op := .build 44 #[], type := ty, pos := pos, after := after, guard := none } :: rest) a w :=
  wpList_plain rfl fun _ hK => by
    unfold Oper.wp execOp
    have hb := build_pk0 w
    simp only [Sem.run_bind, List.map_toArray, List.map_nil, hb, Result.andThen_ok, Sem.run_pure]
    exact hK _ _ h
/-- What bytes are decoded as. -/
def dec (l : List UInt8) : Option Pk := match Crc.opened l with
  | none => none
  | some t => if 16384 < l.length then none else decT t
def DecPost (B : Nat) (l : List UInt8) (e : Ending) (w' : World) : Prop := match dec l with
  | none => e = .returned (.tuple #[.agg zPk, .int .i64 2])
  | some P => ∃ cs, e = .returned (.tuple #[.agg cs, .int .i64 0]) ∧ PkO B w' cs P
theorem decode_none {B : Nat} {l : List UInt8} {w' : World} (h : dec l = none) : DecPost B l (.returned (.tuple #[.agg zPk, .int .i64 2])) w' := by
  unfold DecPost
  rw [h]
theorem zPk_oneL : ∀ v ∈ zPk.toList, v.oneCell' = true := fun v hv => zPk_one v (by simpa using hv)
set_option maxRecDepth 100000 in
set_option maxHeartbeats 16000000 in
theorem decode_shut (A : Option Addr) (cap : Nat) (l : List UInt8) (w : World) (hp : Bytes w A l) (hn : l.length ≤ 1000000) (hc1 : l.length ≤ cap) (hc2 : cap ≤ 9223372036854775807) (ho : Crc.opened l = none) :
    Calls Tryd.prog 8 #[.slice A l.length cap] w fun e w' => DecPost w.heap.size l e w' ∧ Below w.heap.size w w' := by
  have hd : dec l = none := by unfold dec; rw [ho]
  have HD := Lib.hid hd
  have HO := Lib.hid ho
  clear hd ho
  go_enter Tryd.func8, Tryd.ntmps8
  go_wp2_with (refine wpList_alloc_blk rfl rfl zero_pk ?_; rintro g w0 hg hB0 hb0; refine Hid.out ?_)
  refine Lib.hid ?_
  go_wp2_with fail
  refine (open_any A cap l w0 (hp.below hb0) hn hc1 hc2).mono ?_
  rintro e w1 ⟨hop, hb1⟩
  rw [HO.out] at hop
  obtain rfl : e = _ := hop
  have hB1 := hB0.below hb1 hB0.lt
  have hbt : Below w.heap.size w w1 := below_call hb0 hb0.size hb1
  have HB1 := Lib.hid hB1
  have HBT := Lib.hid hbt
  have HG := Lib.hid hg
  clear hB0 hb0 hb1 hB1 hbt hp hg
  go_wp2_with (refine wpList_build_pk0 ?_; refine Hid.out ?_)
  refine Lib.hid ?_
  go_wp2_with (refine wpList_store_blk rfl rfl rfl rfl HB1.out rfl info_pk zPk_oneL ?_; rintro w2 hB2 hm2; refine Hid.out ?_)
  refine Lib.hid ?_
  go_wp2_with fail
  refine bodyPost_ret (v := .tuple #[.agg zPk, .int .i64 2]) (results_blk_tmp Tryd.results8 _ hB2 rfl Tryd.underlying44 rfl info_pk rfl) rfl ?_
  exact ⟨decode_none HD.out, HBT.out.trans (hm2.to_below HBT.out.size fun b hb e => by have := HG.out; omega)⟩
theorem decC_one (t : List UInt8) : ∀ v ∈ (decC t).toList, v.oneCell' = true := by
  intro v hv
  obtain ⟨i, hi, rfl⟩ := List.getElem_of_mem hv
  have he : (decC t)[i]? = some (decC t).toList[i] := by rw [Array.getElem?_eq_getElem (by simpa using hi)]; simp
  unfold decC at he
  rw [set_get (by rw [zPk_size]; omega)] at he
  by_cases e : i = 0
  · rw [if_pos e] at he
    injection he with he
    unfold decC
    rw [← he]
    rfl
  · rw [if_neg e] at he
    exact zPk_one _ (Array.mem_of_getElem? he)
set_option maxRecDepth 100000 in
set_option maxHeartbeats 16000000 in
theorem decode_big (A : Option Addr) (cap : Nat) (l : List UInt8) (w : World) (hp : Bytes w A l) (hn : l.length ≤ 1000000) (hc1 : l.length ≤ cap) (hc2 : cap ≤ 9223372036854775807) {t : List UInt8} (ho : Crc.opened l = some t) (hbig : 16384 < l.length) :
    Calls Tryd.prog 8 #[.slice A l.length cap] w fun e w' => DecPost w.heap.size l e w' ∧ Below w.heap.size w w' := by
  have hd : dec l = none := by unfold dec; rw [ho]; simp only; rw [if_pos hbig]
  have HD := Lib.hid hd
  have hgt : decide ((16384 : Int) < (l.length : Int)) = true := decide_eq_true (by omega)
  clear hd hbig
  have HO := Lib.hid ho
  clear ho
  go_enter Tryd.func8, Tryd.ntmps8
  go_wp2_with (refine wpList_alloc_blk rfl rfl zero_pk ?_; rintro g w0 hg hB0 hb0; refine Hid.out ?_)
  refine Lib.hid ?_
  go_wp2_with fail
  refine (open_any A cap l w0 (hp.below hb0) hn hc1 hc2).mono ?_
  rintro e w1 ⟨hop, hb1⟩
  rw [HO.out] at hop
  obtain ⟨v, rfl, hown⟩ := hop
  obtain ⟨A1, c1, rfl, hl1, hl2⟩ := own_slice hown
  have hA1 : Bytes w1 A1 t := own_bytes hown
  have hB1 := hB0.below hb1 hB0.lt
  have hbt : Below w.heap.size w w1 := below_call hb0 hb0.size hb1
  have HB1 := Lib.hid hB1
  have HBT := Lib.hid hbt
  have HG := Lib.hid hg
  clear hB0 hb0 hb1 hB1 hbt hp hg hown
  go_wp2_with (refine wpList_build_pk0 ?_; refine Hid.out ?_)
  refine Lib.hid ?_
  go_wp2_with (refine wpList_store_blk rfl rfl rfl rfl HB1.out rfl info_pk zPk_oneL ?_; rintro w2 hB2 hm2; refine Hid.out ?_)
  refine Lib.hid ?_
  go_wp2_with fail
  refine bodyPost_ret (v := .tuple #[.agg zPk, .int .i64 2]) (results_blk_tmp Tryd.results8 _ hB2 rfl Tryd.underlying44 rfl info_pk rfl) rfl ?_
  exact ⟨decode_none HD.out, HBT.out.trans (hm2.to_below HBT.out.size fun b hb e => by have := HG.out; omega)⟩
set_option maxRecDepth 100000 in
set_option maxHeartbeats 16000000 in
theorem opened_len {l t : List UInt8} (h : Crc.opened l = some t) : t.length ≤ l.length := by
  unfold Crc.opened at h
  split at h
  · cases h
  · split at h
    · injection h with h
      rw [← h, List.length_take]
      omega
    · cases h
set_option maxRecDepth 100000 in
set_option maxHeartbeats 16000000 in
theorem decode_small (A : Option Addr) (cap : Nat) (l : List UInt8) (w : World) (hp : Bytes w A l) (hn : l.length ≤ 1000000) (hc1 : l.length ≤ cap) (hc2 : cap ≤ 9223372036854775807) {t : List UInt8} (ho : Crc.opened l = some t) (hbig : ¬ 16384 < l.length) :
    Calls Tryd.prog 8 #[.slice A l.length cap] w fun e w' => DecPost w.heap.size l e w' ∧ Below w.heap.size w w' := by
  have hd : dec l = decT t := by unfold dec; rw [ho]; simp only; rw [if_neg hbig]
  have HD := Lib.hid hd
  have hgt : decide ((16384 : Int) < (l.length : Int)) = false := decide_eq_false (by omega)
  have htl := opened_len ho
  have hkw : IntKind.i64.wrap (decK t : Int) = (decK t : Int) := by have := decK_lt t; rw [IntKind.wrap_i64]; omega
  clear hd hbig
  have HO := Lib.hid ho
  clear ho
  go_enter Tryd.func8, Tryd.ntmps8
  go_wp2_with (refine wpList_alloc_blk rfl rfl zero_pk ?_; rintro g w0 hg hB0 hb0; refine Hid.out ?_)
  refine Lib.hid ?_
  go_wp2_with fail
  refine (open_any A cap l w0 (hp.below hb0) hn hc1 hc2).mono ?_
  rintro e w1 ⟨hop, hb1⟩
  rw [HO.out] at hop
  obtain ⟨v, rfl, hown⟩ := hop
  obtain ⟨A1, c1, rfl, hl1, hl2⟩ := own_slice hown
  have hA1 : Bytes w1 A1 t := own_bytes hown
  have hB1 := hB0.below hb1 hB0.lt
  have hbt : Below w.heap.size w w1 := below_call hb0 hb0.size hb1
  have HB1 := Lib.hid hB1
  have HBT := Lib.hid hbt
  have HG := Lib.hid hg
  clear hB0 hb0 hb1 hB1 hbt hp hg hown
  have HTL : Hid (t.length ≤ 1000000) := Nat.le_trans htl hn
  clear htl
  go_wp2_with fail
  refine (rdr_new A1 c1 _ t w1 hA1 rfl (Nat.le_trans HTL.out (by decide))).mono ?_
  rintro e w2 ⟨r, rfl, hr2, hb2⟩
  have hu := rdr_u8 w2 _ _ r t 0 false hr2
  rw [List.drop_zero] at hu
  have hlo := hb2.size
  have hbt2 : Below w.heap.size w w2 := below_call HBT.out HBT.out.size hb2
  have hB2 := HB1.out.below hb2 HB1.out.lt
  have hgl : g < w1.heap.size := HB1.out.lt
  have hrl : w1.heap.size ≤ r ∧ r < w2.heap.size := by obtain ⟨_, _, _, a1, a2, _⟩ := hr2; exact ⟨a1, a2⟩
  generalize hlow : w1.heap.size = lo at *
  generalize hhiw : w2.heap.size = hi at *
  go_wp2_with fail
  refine hu.mono ?_
  rintro e w3 ⟨rfl, hr3, hm3⟩
  rw [Nat.zero_add] at hr3
  have hk3 : (stepP 0 0 t false).1 = decK t := rfl
  rw [hk3]
  have hB3 := hB2.mod hm3 fun e => by have := e.1; omega
  have hs3 := hm3.size
  rw [hhiw] at hs3
  have hbt3 : Below w.heap.size w w3 := hbt2.trans (hm3.to_below (by have := hbt2.size; omega) fun b hb e => by have := e.1; have := HBT.out.size; omega)
  have HR3 := Lib.hid hr3
  have HB3 := Lib.hid hB3
  have HBT3 := Lib.hid hbt3
  have HS3 := Lib.hid hs3
  have HGL := Lib.hid hgl
  have HHL := Lib.hid hlo
  have HLO : Hid (w.heap.size ≤ lo) := (by have := HBT.out.size; show w.heap.size ≤ lo; omega)
  clear hr3 hB3 hbt3 hs3 hk3 hm3 hu hr2 hb2 hbt2 hB2 hlo hA1 hl1 hl2 hgl HB1 hlow hhiw
  go_wp2_with (refine wpList_build_pk (k := (decK t : Int)) rfl ?_; refine Hid.out ?_)
  refine Lib.hid ?_
  go_wp2_with (refine wpList_alloc_blk rfl rfl zero_pk ?_; rintro pb w4 hpb hB4 hb4; refine Hid.out ?_)
  refine Lib.hid ?_
  have HB4 := Lib.hid hB4
  clear hB4
  go_wp2_with (refine wpList_store_blk (cs := decC t) rfl rfl rfl rfl HB4.out (by rw [decC_size]; rfl) (by rw [decC_size]; exact info_pk) (decC_one t) ?_; rintro w5 hB5 hm5; refine Hid.out ?_)
  refine Lib.hid ?_
  have hxb : Blk (w5.alloc (.cells #[.pointer (some ⟨r, 0, none⟩)] 66)) w5.heap.size 66 #[.pointer (some ⟨r, 0, none⟩)] := Blk.new _ _ _
  have hs5 := hm5.size
  have hs4 := hb4.size
  have hrd6 : Rdr (w5.alloc (.cells #[.pointer (some ⟨r, 0, none⟩)] 66)) lo hi r t (dec0 t).2.1 (dec0 t).2.2 := ((HR3.out.below hb4).mod hm5 fun k h1 h2 e => by have := HS3.out; omega).below (below_new _ _)
  have hB6 : Blk (w5.alloc (.cells #[.pointer (some ⟨r, 0, none⟩)] 66)) pb 44 (decC t) := hB5.alloc _
  have hpl := hB5.lt
  have hS6 : RSt (w5.alloc (.cells #[.pointer (some ⟨r, 0, none⟩)] 66)) w5.heap.size lo hi r pb 44 t (dec0 t) := ⟨hrd6, hxb, hB6, fun e => by have := e.2; have := HS3.out; omega, fun e => by have := e.2; have := HS3.out; omega, by omega⟩
  have hg6 : Blk (w5.alloc (.cells #[.pointer (some ⟨r, 0, none⟩)] 66)) g 44 zPk := ((HB3.out.below hb4 HB3.out.lt).mod hm5 fun e => by have := HB3.out.lt; omega).alloc _
  have hbt6 : Below w.heap.size w (w5.alloc (.cells #[.pointer (some ⟨r, 0, none⟩)] 66)) := ((below_call HBT3.out HBT3.out.size hb4).trans (hm5.to_below (by have := HBT3.out.size; omega) fun b hb e => by have := HBT3.out.size; omega)).alloc (by have := HBT3.out.size; omega) _
  have hhi6 : hi ≤ (w5.alloc (.cells #[.pointer (some ⟨r, 0, none⟩)] 66)).heap.size := by have := HS3.out; simp; omega
  have HF : Hid (Calls Tryd.prog 22 #[.iface 64 (.pointer (some ⟨w5.heap.size, 0, none⟩)), pc pb 0] (w5.alloc (.cells #[.pointer (some ⟨r, 0, none⟩)] 66)) _) := rfields_all hS6 hhi6 HTL.out
  have HG6 := Lib.hid hg6
  have HBT6 := Lib.hid hbt6
  have HHI6 := Lib.hid hhi6
  have HPB : Hid (hi ≤ pb) := (by have := HS3.out; show hi ≤ pb; omega)
  have HW6 : Hid (w.heap.size ≤ (w5.alloc (.cells #[.pointer (some ⟨r, 0, none⟩)] 66)).heap.size) := hbt6.size
  clear hs5 hs4 hrd6 hB6 hpl hS6 hg6 hbt6 hhi6 hxb hm5 hB5 hb4 hpb
  clear HR3 HB3 HBT3 HS3 HB4 HTL
  by_cases hkk : 1 ≤ decK t ∧ decK t ≤ 6
  · have HKK := Lib.hid hkk
    clear hkk
    go_wp2_with fail
    refine HF.out.mono ?_
    rintro e w7 hfp
    unfold FPost at hfp
    rw [if_pos HKK.out] at hfp
    obtain ⟨rfl, cs, hB7, hP7, hr7, hm7⟩ := hfp
    have hend := rdr_end w7 lo hi r t _ _ hr7
    have hbt7 : Below w.heap.size w w7 := HBT6.out.trans (hm7.to_below HW6.out fun b hb e => by
      have h1 := HPB.out
      have h2 := HLO.out
      rcases e with e | e
      · have := e.1; omega
      · have := HHL.out; omega)
    have hg7 := HG6.out.mod hm7 fun e => by
      have h1 := HPB.out
      have h2 := HGL.out
      have h3 := HHL.out
      rcases e with e | e
      · have := e.1; omega
      · omega
    have hs7 := hm7.size
    have HP7 := Lib.hid hP7
    have HB7 := Lib.hid hB7
    have HBT7 := Lib.hid hbt7
    have HG7 := Lib.hid hg7
    have HS7 := Lib.hid hs7
    clear hP7 hB7 hbt7 hg7 hs7 hr7 hm7
    by_cases hf : ((decL t).2.2 || decide ((decL t).2.1 < t.length)) = true
    · rw [hf] at hend
      simp only [if_true] at hend
      have HEND := Lib.hid hend
      have HDN : Hid (dec l = none) := (by show dec l = none; rw [HD.out]; unfold decT; rw [if_pos HKK.out, if_pos hf])
      clear hend hf
      go_wp2_with fail
      refine HEND.out.mono ?_
      rintro e w8 ⟨rfl, _, hm8⟩
      have HG8 := Lib.hid (HG7.out.mod hm8 fun e => by have := e.1; have := HGL.out; omega)
      have HBT8 := Lib.hid (HBT7.out.trans (hm8.to_below HBT7.out.size fun b hb e => by have := e.1; have := HLO.out; omega))
      clear hm8
      go_wp2_with (refine wpList_build_pk0 ?_; refine Hid.out ?_)
      refine Lib.hid ?_
      go_wp2_with (refine wpList_store_blk rfl rfl rfl rfl HG8.out rfl info_pk zPk_oneL ?_; rintro w9 hB9 hm9; refine Hid.out ?_)
      refine Lib.hid ?_
      go_wp2_with fail
      refine bodyPost_ret (v := .tuple #[.agg zPk, .int .i64 2]) (results_blk_tmp Tryd.results8 _ hB9 rfl Tryd.underlying44 rfl info_pk rfl) rfl ?_
      exact ⟨decode_none HDN.out, HBT8.out.trans (hm9.to_below HBT8.out.size fun b hb e => by have := HG.out; omega)⟩
    · have hff : ((decL t).2.2 || decide ((decL t).2.1 < t.length)) = false := by simpa using hf
      rw [hff] at hend
      simp only [Bool.false_eq_true, if_false] at hend
      have HEND := Lib.hid hend
      have HDN : Hid (dec l = some (readPk (decS t).1 (txtO (decK t)) (decX t).1 (decL t).1)) := (by show dec l = _; rw [HD.out]; unfold decT; rw [if_pos HKK.out, if_neg hf])
      clear hend hf hff
      go_wp2_with fail
      refine HEND.out.mono ?_
      rintro e w8 ⟨rfl, _, hm8⟩
      have HG8 := Lib.hid (HG7.out.mod hm8 fun e => by have := e.1; have := HGL.out; omega)
      have HBT8 := Lib.hid (HBT7.out.trans (hm8.to_below HBT7.out.size fun b hb e => by have := e.1; have := HLO.out; omega))
      have HB8 := Lib.hid (HB7.out.mod hm8 fun e => by have := e.2; have := HPB.out; omega)
      have HP8 := Lib.hid (HP7.out.mod hm8 fun k h1 h2 e => by have := e.2; have := HHI6.out; omega)
      have HSZ : Hid ((Tryd.prog.info? 44).map (·.size) = some cs.size) := (by show _ = _; rw [HP7.out.pk.size]; exact info_pk)
      clear hm8
      go_wp2_with (refine wpList_load_blk rfl rfl rfl HB8.out Tryd.underlying44 rfl HSZ.out ?_; refine Hid.out ?_)
      refine Lib.hid ?_
      go_wp2_with (refine wpList_store_blk rfl rfl rfl rfl HG8.out (by rw [HP7.out.pk.size]; rfl) HSZ.out HP7.out.pk.one ?_; rintro w9 hB9 hm9; refine Hid.out ?_)
      refine Lib.hid ?_
      go_wp2_with fail
      refine bodyPost_ret (v := .tuple #[.agg cs, .int .i64 0]) (results_blk_tmp Tryd.results8 _ hB9 rfl Tryd.underlying44 rfl HSZ.out rfl) rfl ?_
      have hP9 := HP8.out.mod hm9 fun k h1 h2 e => by have := HHI6.out; have := HGL.out; have := HHL.out; omega
      exact ⟨by unfold DecPost; rw [HDN.out]; exact ⟨cs, rfl, hP9.low HW6.out⟩, HBT8.out.trans (hm9.to_below HBT8.out.size fun b hb e => by have := HG.out; omega)⟩
  · have HDN : Hid (dec l = none) := (by show dec l = none; rw [HD.out]; unfold decT; rw [if_neg hkk])
    have HKK := Lib.hid hkk
    clear hkk
    go_wp2_with fail
    refine HF.out.mono ?_
    rintro e w8 hfp
    unfold FPost at hfp
    rw [if_neg HKK.out] at hfp
    obtain ⟨rfl, hw8⟩ := hfp
    have HG8 := HG6
    have HBT8 := HBT6
    rw [hw8] at HG8 HBT8
    clear hw8
    go_wp2_with (refine wpList_build_pk0 ?_; refine Hid.out ?_)
    refine Lib.hid ?_
    go_wp2_with (refine wpList_store_blk rfl rfl rfl rfl HG8.out rfl info_pk zPk_oneL ?_; rintro w9 hB9 hm9; refine Hid.out ?_)
    refine Lib.hid ?_
    go_wp2_with fail
    refine bodyPost_ret (v := .tuple #[.agg zPk, .int .i64 2]) (results_blk_tmp Tryd.results8 _ hB9 rfl Tryd.underlying44 rfl info_pk rfl) rfl ?_
    exact ⟨decode_none HDN.out, HBT8.out.trans (hm9.to_below HBT8.out.size fun b hb e => by have := HG.out; omega)⟩
theorem decode_any (A : Option Addr) (cap : Nat) (l : List UInt8) (w : World) (hp : Bytes w A l) (hn : l.length ≤ 1000000) (hc1 : l.length ≤ cap) (hc2 : cap ≤ 9223372036854775807) :
    Calls Tryd.prog 8 #[.slice A l.length cap] w fun e w' => DecPost w.heap.size l e w' ∧ Below w.heap.size w w' := by
  cases ho : Crc.opened l with
  | none => exact decode_shut A cap l w hp hn hc1 hc2 ho
  | some t =>
    by_cases hb : 16384 < l.length
    · exact decode_big A cap l w hp hn hc1 hc2 ho hb
    · exact decode_small A cap l w hp hn hc1 hc2 ho hb
end Go.Proofs.YtdckdjkkaangmaaDoor
