/- The document's packet with its kind's field alone. -/
import Derived.Test.YtdckdjkkaangmaaDoorWireC2
import Derived.Test.YtdckdjkkaangmaaDoorWireL2
namespace Go.Proofs.YtdckdjkkaangmaaDoor
set_option linter.unusedVariables false
set_option linter.unusedSimpArgs false
set_option maxRecDepth 100000
open Go.RowKit

theorem wpList_build2 {P : Program} {ops : Array Oper} {rest : List Oper} {op : Oper} {a : Act} {w : World} {Q : Exit → Act → World → Prop} (hgd : op.guard = none) {ty : TypeId} {i j : Nat} {p q : Operand} (ho : op.op = .build ty #[(i, p), (j, q)]) {x y v : Value} (hx : a.eval p = x) (hy : a.eval q = y)
    (hb : (Instr.build ty #[(i, x), (j, y)]).run P w = .ok v w) (h : wpList P ops Q rest (a.put op.dst v) w) : wpList P ops Q (op :: rest) a w :=
  wpList_plain hgd fun _ hK => by
    unfold Oper.wp execOp
    simp only [ho, Sem.run_bind, List.map_toArray, List.map_cons, List.map_nil, hx, hy, hb, Result.andThen_ok, Sem.run_pure]
    exact hK _ _ h
theorem rng_len {cs : Array Value} (h : cs.size = 56) {o n : Nat} (ho : o + n ≤ 56) : (rng cs o n).length = n := by unfold rng; rw [List.length_take, List.length_drop, Array.length_toList, h]; omega
theorem build_ask (k : Int) (vs : List Value) (h : vs.length = 6) (w : World) : (Instr.build 44 #[(0, .int .i64 k), (1, .agg vs.toArray)]).run Tryd.prog w = .ok (.agg (putL (zPk.setIfInBounds 0 (.int .i64 k)) 1 vs)) w := by
  obtain _ | ⟨v0, vs⟩ := vs
  · simp at h
  obtain _ | ⟨v1, vs⟩ := vs
  · simp at h
  obtain _ | ⟨v2, vs⟩ := vs
  · simp at h
  obtain _ | ⟨v3, vs⟩ := vs
  · simp at h
  obtain _ | ⟨v4, vs⟩ := vs
  · simp at h
  obtain _ | ⟨v5, vs⟩ := vs
  · simp at h
  obtain _ | ⟨v, vs⟩ := vs
  · kernel_rfl
  · simp at h
theorem build_says (k : Int) (vs : List Value) (h : vs.length = 12) (w : World) : (Instr.build 44 #[(0, .int .i64 k), (2, .agg vs.toArray)]).run Tryd.prog w = .ok (.agg (putL (zPk.setIfInBounds 0 (.int .i64 k)) 7 vs)) w := by
  obtain _ | ⟨v0, vs⟩ := vs
  · simp at h
  obtain _ | ⟨v1, vs⟩ := vs
  · simp at h
  obtain _ | ⟨v2, vs⟩ := vs
  · simp at h
  obtain _ | ⟨v3, vs⟩ := vs
  · simp at h
  obtain _ | ⟨v4, vs⟩ := vs
  · simp at h
  obtain _ | ⟨v5, vs⟩ := vs
  · simp at h
  obtain _ | ⟨v6, vs⟩ := vs
  · simp at h
  obtain _ | ⟨v7, vs⟩ := vs
  · simp at h
  obtain _ | ⟨v8, vs⟩ := vs
  · simp at h
  obtain _ | ⟨v9, vs⟩ := vs
  · simp at h
  obtain _ | ⟨v10, vs⟩ := vs
  · simp at h
  obtain _ | ⟨v11, vs⟩ := vs
  · simp at h
  obtain _ | ⟨v, vs⟩ := vs
  · kernel_rfl
  · simp at h
theorem build_req (k : Int) (vs : List Value) (h : vs.length = 10) (w : World) : (Instr.build 44 #[(0, .int .i64 k), (3, .agg vs.toArray)]).run Tryd.prog w = .ok (.agg (putL (zPk.setIfInBounds 0 (.int .i64 k)) 19 vs)) w := by
  obtain _ | ⟨v0, vs⟩ := vs
  · simp at h
  obtain _ | ⟨v1, vs⟩ := vs
  · simp at h
  obtain _ | ⟨v2, vs⟩ := vs
  · simp at h
  obtain _ | ⟨v3, vs⟩ := vs
  · simp at h
  obtain _ | ⟨v4, vs⟩ := vs
  · simp at h
  obtain _ | ⟨v5, vs⟩ := vs
  · simp at h
  obtain _ | ⟨v6, vs⟩ := vs
  · simp at h
  obtain _ | ⟨v7, vs⟩ := vs
  · simp at h
  obtain _ | ⟨v8, vs⟩ := vs
  · simp at h
  obtain _ | ⟨v9, vs⟩ := vs
  · simp at h
  obtain _ | ⟨v, vs⟩ := vs
  · kernel_rfl
  · simp at h
theorem build_resp (k : Int) (vs : List Value) (h : vs.length = 9) (w : World) : (Instr.build 44 #[(0, .int .i64 k), (4, .agg vs.toArray)]).run Tryd.prog w = .ok (.agg (putL (zPk.setIfInBounds 0 (.int .i64 k)) 29 vs)) w := by
  obtain _ | ⟨v0, vs⟩ := vs
  · simp at h
  obtain _ | ⟨v1, vs⟩ := vs
  · simp at h
  obtain _ | ⟨v2, vs⟩ := vs
  · simp at h
  obtain _ | ⟨v3, vs⟩ := vs
  · simp at h
  obtain _ | ⟨v4, vs⟩ := vs
  · simp at h
  obtain _ | ⟨v5, vs⟩ := vs
  · simp at h
  obtain _ | ⟨v6, vs⟩ := vs
  · simp at h
  obtain _ | ⟨v7, vs⟩ := vs
  · simp at h
  obtain _ | ⟨v8, vs⟩ := vs
  · simp at h
  obtain _ | ⟨v, vs⟩ := vs
  · kernel_rfl
  · simp at h
theorem build_call (k : Int) (vs : List Value) (h : vs.length = 9) (w : World) : (Instr.build 44 #[(0, .int .i64 k), (5, .agg vs.toArray)]).run Tryd.prog w = .ok (.agg (putL (zPk.setIfInBounds 0 (.int .i64 k)) 38 vs)) w := by
  obtain _ | ⟨v0, vs⟩ := vs
  · simp at h
  obtain _ | ⟨v1, vs⟩ := vs
  · simp at h
  obtain _ | ⟨v2, vs⟩ := vs
  · simp at h
  obtain _ | ⟨v3, vs⟩ := vs
  · simp at h
  obtain _ | ⟨v4, vs⟩ := vs
  · simp at h
  obtain _ | ⟨v5, vs⟩ := vs
  · simp at h
  obtain _ | ⟨v6, vs⟩ := vs
  · simp at h
  obtain _ | ⟨v7, vs⟩ := vs
  · simp at h
  obtain _ | ⟨v8, vs⟩ := vs
  · simp at h
  obtain _ | ⟨v, vs⟩ := vs
  · kernel_rfl
  · simp at h
theorem build_reply (k : Int) (vs : List Value) (h : vs.length = 9) (w : World) : (Instr.build 44 #[(0, .int .i64 k), (6, .agg vs.toArray)]).run Tryd.prog w = .ok (.agg (putL (zPk.setIfInBounds 0 (.int .i64 k)) 47 vs)) w := by
  obtain _ | ⟨v0, vs⟩ := vs
  · simp at h
  obtain _ | ⟨v1, vs⟩ := vs
  · simp at h
  obtain _ | ⟨v2, vs⟩ := vs
  · simp at h
  obtain _ | ⟨v3, vs⟩ := vs
  · simp at h
  obtain _ | ⟨v4, vs⟩ := vs
  · simp at h
  obtain _ | ⟨v5, vs⟩ := vs
  · simp at h
  obtain _ | ⟨v6, vs⟩ := vs
  · simp at h
  obtain _ | ⟨v7, vs⟩ := vs
  · simp at h
  obtain _ | ⟨v8, vs⟩ := vs
  · simp at h
  obtain _ | ⟨v, vs⟩ := vs
  · kernel_rfl
  · simp at h
set_option maxRecDepth 100000 in
set_option maxHeartbeats 16000000 in
theorem dalone_ask {w : World} {cs : Array Value} {P : Pk} (hP : PkV w cs P) (hk : P.n 0 = 1) : Calls Tryd.prog 46 #[.agg cs] w fun e w' => e = .returned (.agg (aloneC cs (P.n 0))) ∧ Below w.heap.size w w' := by
  have hB1 : Blk (w.alloc (.cells cs 44)) w.heap.size 44 cs := Blk.new _ _ _
  have hb1 := below_new w (.cells cs 44)
  have hs1 : (w.alloc (.cells cs 44)).heap.size = w.heap.size + 1 := by simp
  have HA1 := Lib.hid hB1
  have HB1 := Lib.hid hb1
  have HS1 := Lib.hid hs1
  have HP := Lib.hid hP
  have HK := Lib.hid hk
  have HZ := Lib.hid (rng_len hP.size (o := 1) (n := 6) (by omega))
  have HI : Hid ((Tryd.prog.info? 28).map (·.size) = some (rng cs 1 6).length) := (by show _ = _; rw [HZ.out]; kernel_rfl)
  have HC : Hid (putL (zPk.setIfInBounds 0 (.int .i64 1)) 1 (rng cs 1 6) = aloneC cs 1) := rfl
  clear hB1 hb1 hs1 hP hk
  go_enter Tryd.func46, Tryd.ntmps46
  go_wp2_with (refine wpList_alloc_blk rfl rfl zero_pk ?_; rintro g w2 hg hB2 hb2; refine Hid.out ?_)
  refine Lib.hid ?_
  have hA2 := HA1.out.below hb2 HA1.out.lt
  have z0 := (hA2.cell 0).trans HP.out.kind.1
  rw [HK.out] at z0
  have HR : Hid (w2.rangeAt w.heap.size 1 (rng cs 1 6)) := hA2.range 1 6
  have HG2 := Lib.hid hB2
  have HB2 := Lib.hid (HB1.out.trans (hb2.mono HB1.out.size))
  have HGE : Hid (w.heap.size + 1 = g) := (by have := HS1.out; show _ = _; omega)
  clear hg hB2 hb2 hA2
  go_wp2_with (refine wpList_load_rg rfl (ty := 28) rfl rfl HR.out Tryd.underlying28 rfl HI.out ?_; refine Hid.out ?_)
  refine Lib.hid ?_
  go_wp2_with (refine wpList_build2 (x := .int .i64 1) (y := .agg (rng cs 1 6).toArray) rfl (ty := 44) rfl rfl rfl (build_ask 1 (rng cs 1 6) HZ.out _) ?_; refine Hid.out ?_)
  refine Lib.hid ?_
  rw [HC.out]
  go_wp2_with (refine wpList_store_blk rfl rfl rfl rfl HG2.out (by rw [aloneC_size]; rfl) (pk_size (aloneC_size _ _)) (by have h := HP.out.alone.one; rw [HK.out] at h; exact h) ?_; rintro w3 hB3 hm3; refine Hid.out ?_)
  refine Lib.hid ?_
  clear z0
  go_wp2_with fail
  refine bodyPost_ret (v := .agg (aloneC cs 1)) (results_blk Tryd.results46 _ hB3 rfl Tryd.underlying44 rfl (pk_size (aloneC_size _ _))) rfl ?_
  exact ⟨by rw [HK.out], HB2.out.trans (hm3.to_below HB2.out.size fun b hb e => by have := HGE.out; omega)⟩
set_option maxRecDepth 100000 in
set_option maxHeartbeats 16000000 in
theorem dalone_says {w : World} {cs : Array Value} {P : Pk} (hP : PkV w cs P) (hk : P.n 0 = 2) : Calls Tryd.prog 46 #[.agg cs] w fun e w' => e = .returned (.agg (aloneC cs (P.n 0))) ∧ Below w.heap.size w w' := by
  have hB1 : Blk (w.alloc (.cells cs 44)) w.heap.size 44 cs := Blk.new _ _ _
  have hb1 := below_new w (.cells cs 44)
  have hs1 : (w.alloc (.cells cs 44)).heap.size = w.heap.size + 1 := by simp
  have HA1 := Lib.hid hB1
  have HB1 := Lib.hid hb1
  have HS1 := Lib.hid hs1
  have HP := Lib.hid hP
  have HK := Lib.hid hk
  have HZ := Lib.hid (rng_len hP.size (o := 7) (n := 12) (by omega))
  have HI : Hid ((Tryd.prog.info? 30).map (·.size) = some (rng cs 7 12).length) := (by show _ = _; rw [HZ.out]; kernel_rfl)
  have HC : Hid (putL (zPk.setIfInBounds 0 (.int .i64 2)) 7 (rng cs 7 12) = aloneC cs 2) := rfl
  clear hB1 hb1 hs1 hP hk
  go_enter Tryd.func46, Tryd.ntmps46
  go_wp2_with (refine wpList_alloc_blk rfl rfl zero_pk ?_; rintro g w2 hg hB2 hb2; refine Hid.out ?_)
  refine Lib.hid ?_
  have hA2 := HA1.out.below hb2 HA1.out.lt
  have z0 := (hA2.cell 0).trans HP.out.kind.1
  rw [HK.out] at z0
  have HR : Hid (w2.rangeAt w.heap.size 7 (rng cs 7 12)) := hA2.range 7 12
  have HG2 := Lib.hid hB2
  have HB2 := Lib.hid (HB1.out.trans (hb2.mono HB1.out.size))
  have HGE : Hid (w.heap.size + 1 = g) := (by have := HS1.out; show _ = _; omega)
  clear hg hB2 hb2 hA2
  go_wp2_with (refine wpList_load_rg rfl (ty := 30) rfl rfl HR.out Tryd.underlying30 rfl HI.out ?_; refine Hid.out ?_)
  refine Lib.hid ?_
  go_wp2_with (refine wpList_build2 (x := .int .i64 2) (y := .agg (rng cs 7 12).toArray) rfl (ty := 44) rfl rfl rfl (build_says 2 (rng cs 7 12) HZ.out _) ?_; refine Hid.out ?_)
  refine Lib.hid ?_
  rw [HC.out]
  go_wp2_with (refine wpList_store_blk rfl rfl rfl rfl HG2.out (by rw [aloneC_size]; rfl) (pk_size (aloneC_size _ _)) (by have h := HP.out.alone.one; rw [HK.out] at h; exact h) ?_; rintro w3 hB3 hm3; refine Hid.out ?_)
  refine Lib.hid ?_
  clear z0
  go_wp2_with fail
  refine bodyPost_ret (v := .agg (aloneC cs 2)) (results_blk Tryd.results46 _ hB3 rfl Tryd.underlying44 rfl (pk_size (aloneC_size _ _))) rfl ?_
  exact ⟨by rw [HK.out], HB2.out.trans (hm3.to_below HB2.out.size fun b hb e => by have := HGE.out; omega)⟩
set_option maxRecDepth 100000 in
set_option maxHeartbeats 16000000 in
theorem dalone_req {w : World} {cs : Array Value} {P : Pk} (hP : PkV w cs P) (hk : P.n 0 = 3) : Calls Tryd.prog 46 #[.agg cs] w fun e w' => e = .returned (.agg (aloneC cs (P.n 0))) ∧ Below w.heap.size w w' := by
  have hB1 : Blk (w.alloc (.cells cs 44)) w.heap.size 44 cs := Blk.new _ _ _
  have hb1 := below_new w (.cells cs 44)
  have hs1 : (w.alloc (.cells cs 44)).heap.size = w.heap.size + 1 := by simp
  have HA1 := Lib.hid hB1
  have HB1 := Lib.hid hb1
  have HS1 := Lib.hid hs1
  have HP := Lib.hid hP
  have HK := Lib.hid hk
  have HZ := Lib.hid (rng_len hP.size (o := 19) (n := 10) (by omega))
  have HI : Hid ((Tryd.prog.info? 35).map (·.size) = some (rng cs 19 10).length) := (by show _ = _; rw [HZ.out]; kernel_rfl)
  have HC : Hid (putL (zPk.setIfInBounds 0 (.int .i64 3)) 19 (rng cs 19 10) = aloneC cs 3) := rfl
  clear hB1 hb1 hs1 hP hk
  go_enter Tryd.func46, Tryd.ntmps46
  go_wp2_with (refine wpList_alloc_blk rfl rfl zero_pk ?_; rintro g w2 hg hB2 hb2; refine Hid.out ?_)
  refine Lib.hid ?_
  have hA2 := HA1.out.below hb2 HA1.out.lt
  have z0 := (hA2.cell 0).trans HP.out.kind.1
  rw [HK.out] at z0
  have HR : Hid (w2.rangeAt w.heap.size 19 (rng cs 19 10)) := hA2.range 19 10
  have HG2 := Lib.hid hB2
  have HB2 := Lib.hid (HB1.out.trans (hb2.mono HB1.out.size))
  have HGE : Hid (w.heap.size + 1 = g) := (by have := HS1.out; show _ = _; omega)
  clear hg hB2 hb2 hA2
  go_wp2_with (refine wpList_load_rg rfl (ty := 35) rfl rfl HR.out Tryd.underlying35 rfl HI.out ?_; refine Hid.out ?_)
  refine Lib.hid ?_
  go_wp2_with (refine wpList_build2 (x := .int .i64 3) (y := .agg (rng cs 19 10).toArray) rfl (ty := 44) rfl rfl rfl (build_req 3 (rng cs 19 10) HZ.out _) ?_; refine Hid.out ?_)
  refine Lib.hid ?_
  rw [HC.out]
  go_wp2_with (refine wpList_store_blk rfl rfl rfl rfl HG2.out (by rw [aloneC_size]; rfl) (pk_size (aloneC_size _ _)) (by have h := HP.out.alone.one; rw [HK.out] at h; exact h) ?_; rintro w3 hB3 hm3; refine Hid.out ?_)
  refine Lib.hid ?_
  clear z0
  go_wp2_with fail
  refine bodyPost_ret (v := .agg (aloneC cs 3)) (results_blk Tryd.results46 _ hB3 rfl Tryd.underlying44 rfl (pk_size (aloneC_size _ _))) rfl ?_
  exact ⟨by rw [HK.out], HB2.out.trans (hm3.to_below HB2.out.size fun b hb e => by have := HGE.out; omega)⟩
set_option maxRecDepth 100000 in
set_option maxHeartbeats 16000000 in
theorem dalone_resp {w : World} {cs : Array Value} {P : Pk} (hP : PkV w cs P) (hk : P.n 0 = 4) : Calls Tryd.prog 46 #[.agg cs] w fun e w' => e = .returned (.agg (aloneC cs (P.n 0))) ∧ Below w.heap.size w w' := by
  have hB1 : Blk (w.alloc (.cells cs 44)) w.heap.size 44 cs := Blk.new _ _ _
  have hb1 := below_new w (.cells cs 44)
  have hs1 : (w.alloc (.cells cs 44)).heap.size = w.heap.size + 1 := by simp
  have HA1 := Lib.hid hB1
  have HB1 := Lib.hid hb1
  have HS1 := Lib.hid hs1
  have HP := Lib.hid hP
  have HK := Lib.hid hk
  have HZ := Lib.hid (rng_len hP.size (o := 29) (n := 9) (by omega))
  have HI : Hid ((Tryd.prog.info? 37).map (·.size) = some (rng cs 29 9).length) := (by show _ = _; rw [HZ.out]; kernel_rfl)
  have HC : Hid (putL (zPk.setIfInBounds 0 (.int .i64 4)) 29 (rng cs 29 9) = aloneC cs 4) := rfl
  clear hB1 hb1 hs1 hP hk
  go_enter Tryd.func46, Tryd.ntmps46
  go_wp2_with (refine wpList_alloc_blk rfl rfl zero_pk ?_; rintro g w2 hg hB2 hb2; refine Hid.out ?_)
  refine Lib.hid ?_
  have hA2 := HA1.out.below hb2 HA1.out.lt
  have z0 := (hA2.cell 0).trans HP.out.kind.1
  rw [HK.out] at z0
  have HR : Hid (w2.rangeAt w.heap.size 29 (rng cs 29 9)) := hA2.range 29 9
  have HG2 := Lib.hid hB2
  have HB2 := Lib.hid (HB1.out.trans (hb2.mono HB1.out.size))
  have HGE : Hid (w.heap.size + 1 = g) := (by have := HS1.out; show _ = _; omega)
  clear hg hB2 hb2 hA2
  go_wp2_with (refine wpList_load_rg rfl (ty := 37) rfl rfl HR.out Tryd.underlying37 rfl HI.out ?_; refine Hid.out ?_)
  refine Lib.hid ?_
  go_wp2_with (refine wpList_build2 (x := .int .i64 4) (y := .agg (rng cs 29 9).toArray) rfl (ty := 44) rfl rfl rfl (build_resp 4 (rng cs 29 9) HZ.out _) ?_; refine Hid.out ?_)
  refine Lib.hid ?_
  rw [HC.out]
  go_wp2_with (refine wpList_store_blk rfl rfl rfl rfl HG2.out (by rw [aloneC_size]; rfl) (pk_size (aloneC_size _ _)) (by have h := HP.out.alone.one; rw [HK.out] at h; exact h) ?_; rintro w3 hB3 hm3; refine Hid.out ?_)
  refine Lib.hid ?_
  clear z0
  go_wp2_with fail
  refine bodyPost_ret (v := .agg (aloneC cs 4)) (results_blk Tryd.results46 _ hB3 rfl Tryd.underlying44 rfl (pk_size (aloneC_size _ _))) rfl ?_
  exact ⟨by rw [HK.out], HB2.out.trans (hm3.to_below HB2.out.size fun b hb e => by have := HGE.out; omega)⟩
set_option maxRecDepth 100000 in
set_option maxHeartbeats 16000000 in
theorem dalone_call {w : World} {cs : Array Value} {P : Pk} (hP : PkV w cs P) (hk : P.n 0 = 5) : Calls Tryd.prog 46 #[.agg cs] w fun e w' => e = .returned (.agg (aloneC cs (P.n 0))) ∧ Below w.heap.size w w' := by
  have hB1 : Blk (w.alloc (.cells cs 44)) w.heap.size 44 cs := Blk.new _ _ _
  have hb1 := below_new w (.cells cs 44)
  have hs1 : (w.alloc (.cells cs 44)).heap.size = w.heap.size + 1 := by simp
  have HA1 := Lib.hid hB1
  have HB1 := Lib.hid hb1
  have HS1 := Lib.hid hs1
  have HP := Lib.hid hP
  have HK := Lib.hid hk
  have HZ := Lib.hid (rng_len hP.size (o := 38) (n := 9) (by omega))
  have HI : Hid ((Tryd.prog.info? 39).map (·.size) = some (rng cs 38 9).length) := (by show _ = _; rw [HZ.out]; kernel_rfl)
  have HC : Hid (putL (zPk.setIfInBounds 0 (.int .i64 5)) 38 (rng cs 38 9) = aloneC cs 5) := rfl
  clear hB1 hb1 hs1 hP hk
  go_enter Tryd.func46, Tryd.ntmps46
  go_wp2_with (refine wpList_alloc_blk rfl rfl zero_pk ?_; rintro g w2 hg hB2 hb2; refine Hid.out ?_)
  refine Lib.hid ?_
  have hA2 := HA1.out.below hb2 HA1.out.lt
  have z0 := (hA2.cell 0).trans HP.out.kind.1
  rw [HK.out] at z0
  have HR : Hid (w2.rangeAt w.heap.size 38 (rng cs 38 9)) := hA2.range 38 9
  have HG2 := Lib.hid hB2
  have HB2 := Lib.hid (HB1.out.trans (hb2.mono HB1.out.size))
  have HGE : Hid (w.heap.size + 1 = g) := (by have := HS1.out; show _ = _; omega)
  clear hg hB2 hb2 hA2
  go_wp2_with (refine wpList_load_rg rfl (ty := 39) rfl rfl HR.out Tryd.underlying39 rfl HI.out ?_; refine Hid.out ?_)
  refine Lib.hid ?_
  go_wp2_with (refine wpList_build2 (x := .int .i64 5) (y := .agg (rng cs 38 9).toArray) rfl (ty := 44) rfl rfl rfl (build_call 5 (rng cs 38 9) HZ.out _) ?_; refine Hid.out ?_)
  refine Lib.hid ?_
  rw [HC.out]
  go_wp2_with (refine wpList_store_blk rfl rfl rfl rfl HG2.out (by rw [aloneC_size]; rfl) (pk_size (aloneC_size _ _)) (by have h := HP.out.alone.one; rw [HK.out] at h; exact h) ?_; rintro w3 hB3 hm3; refine Hid.out ?_)
  refine Lib.hid ?_
  clear z0
  go_wp2_with fail
  refine bodyPost_ret (v := .agg (aloneC cs 5)) (results_blk Tryd.results46 _ hB3 rfl Tryd.underlying44 rfl (pk_size (aloneC_size _ _))) rfl ?_
  exact ⟨by rw [HK.out], HB2.out.trans (hm3.to_below HB2.out.size fun b hb e => by have := HGE.out; omega)⟩
set_option maxRecDepth 100000 in
set_option maxHeartbeats 16000000 in
theorem dalone_reply {w : World} {cs : Array Value} {P : Pk} (hP : PkV w cs P) (hk : P.n 0 = 6) : Calls Tryd.prog 46 #[.agg cs] w fun e w' => e = .returned (.agg (aloneC cs (P.n 0))) ∧ Below w.heap.size w w' := by
  have hB1 : Blk (w.alloc (.cells cs 44)) w.heap.size 44 cs := Blk.new _ _ _
  have hb1 := below_new w (.cells cs 44)
  have hs1 : (w.alloc (.cells cs 44)).heap.size = w.heap.size + 1 := by simp
  have HA1 := Lib.hid hB1
  have HB1 := Lib.hid hb1
  have HS1 := Lib.hid hs1
  have HP := Lib.hid hP
  have HK := Lib.hid hk
  have HZ := Lib.hid (rng_len hP.size (o := 47) (n := 9) (by omega))
  have HI : Hid ((Tryd.prog.info? 42).map (·.size) = some (rng cs 47 9).length) := (by show _ = _; rw [HZ.out]; kernel_rfl)
  have HC : Hid (putL (zPk.setIfInBounds 0 (.int .i64 6)) 47 (rng cs 47 9) = aloneC cs 6) := rfl
  clear hB1 hb1 hs1 hP hk
  go_enter Tryd.func46, Tryd.ntmps46
  go_wp2_with (refine wpList_alloc_blk rfl rfl zero_pk ?_; rintro g w2 hg hB2 hb2; refine Hid.out ?_)
  refine Lib.hid ?_
  have hA2 := HA1.out.below hb2 HA1.out.lt
  have z0 := (hA2.cell 0).trans HP.out.kind.1
  rw [HK.out] at z0
  have HR : Hid (w2.rangeAt w.heap.size 47 (rng cs 47 9)) := hA2.range 47 9
  have HG2 := Lib.hid hB2
  have HB2 := Lib.hid (HB1.out.trans (hb2.mono HB1.out.size))
  have HGE : Hid (w.heap.size + 1 = g) := (by have := HS1.out; show _ = _; omega)
  clear hg hB2 hb2 hA2
  go_wp2_with (refine wpList_load_rg rfl (ty := 42) rfl rfl HR.out Tryd.underlying42 rfl HI.out ?_; refine Hid.out ?_)
  refine Lib.hid ?_
  go_wp2_with (refine wpList_build2 (x := .int .i64 6) (y := .agg (rng cs 47 9).toArray) rfl (ty := 44) rfl rfl rfl (build_reply 6 (rng cs 47 9) HZ.out _) ?_; refine Hid.out ?_)
  refine Lib.hid ?_
  rw [HC.out]
  go_wp2_with (refine wpList_store_blk rfl rfl rfl rfl HG2.out (by rw [aloneC_size]; rfl) (pk_size (aloneC_size _ _)) (by have h := HP.out.alone.one; rw [HK.out] at h; exact h) ?_; rintro w3 hB3 hm3; refine Hid.out ?_)
  refine Lib.hid ?_
  clear z0
  go_wp2_with fail
  refine bodyPost_ret (v := .agg (aloneC cs 6)) (results_blk Tryd.results46 _ hB3 rfl Tryd.underlying44 rfl (pk_size (aloneC_size _ _))) rfl ?_
  exact ⟨by rw [HK.out], HB2.out.trans (hm3.to_below HB2.out.size fun b hb e => by have := HGE.out; omega)⟩
theorem dalone_any {w : World} {cs : Array Value} {P : Pk} (hP : PkV w cs P) (h1 : 1 ≤ P.n 0) (h6 : P.n 0 ≤ 6) : Calls Tryd.prog 46 #[.agg cs] w fun e w' => e = .returned (.agg (aloneC cs (P.n 0))) ∧ Below w.heap.size w w' := by
  by_cases k1 : P.n 0 = 1
  · exact dalone_ask hP k1
  by_cases k2 : P.n 0 = 2
  · exact dalone_says hP k2
  by_cases k3 : P.n 0 = 3
  · exact dalone_req hP k3
  by_cases k4 : P.n 0 = 4
  · exact dalone_resp hP k4
  by_cases k5 : P.n 0 = 5
  · exact dalone_call hP k5
  exact dalone_reply hP (by omega)
end Go.Proofs.YtdckdjkkaangmaaDoor
