/- The document's: a call of one's own; two calls, two replies that are the same. -/
import Derived.Test.YtpbaofabflgpkaaCliC
namespace Go.Proofs.Ytpbaofabflgpkaa
set_option linter.unusedVariables false
set_option linter.unusedSimpArgs false
open Go.RowKit

set_option maxRecDepth 100000 in
set_option maxHeartbeats 4000000 in
theorem rowncall_any {K : Nat → Prop} {w : World} {C : Cal} {v : Value} (h : SlB K w v C.body) (hn : C.body.length ≤ 1000000) :
    Calls Try.prog 9 #[.agg (calL C v).toArray] w fun e w' => (∃ v', e = .returned (.agg (calL C v').toArray) ∧ SlB (fun b => w.heap.size ≤ b) w' v' C.body) ∧ Below w.heap.size w w' := by
  have hB1 : Blk (w.alloc (.cells (calL C v).toArray 27)) w.heap.size 27 (calL C v).toArray := Blk.new _ _ _
  have hb1 := below_new w (.cells (calL C v).toArray 27)
  have HB1 := Lib.hid hB1
  have HT1 := Lib.hid hb1
  have HV := Lib.hid (h.below hb1)
  clear hB1 hb1 h
  go_enter Try.func9, Try.ntmps9
  go_wp2_with (refine wpList_alloc_blk rfl rfl zero_call ?_; rintro g w2 hg hB2 hb2; refine Hid.out ?_)
  refine Lib.hid ?_
  have HB2 := Lib.hid (HB1.out.below hb2 HB1.out.lt)
  have HR2 := Lib.hid hB2
  have HT2 := Lib.hid (below_call HT1.out HT1.out.size hb2)
  have HV2 := Lib.hid (HV.out.below hb2)
  have HG : Hid (w.heap.size < g) := by
    show _ < _
    rw [← hg]
    simp
  have HGL : Hid (g < w2.heap.size) := hB2.lt
  clear hB2 hb2 hg HB1 HT1 HV
  obtain ⟨A, c, rfl, hA, _⟩ := HV2.out
  have hc8 := ((HB2.out.below (below_new w2 (.cells #[] 5)) HB2.out.lt).cell 8).trans (b := (calL C (.slice A C.body.length c)).toArray[8]?) rfl
  have c8 : (w2.alloc (.cells #[] 5)).cell? ⟨w.heap.size, 8, none⟩ = some (.slice A C.body.length c) := hc8.trans rfl
  have hown0 : (w2.alloc (.cells #[] 5)).ownsRow w2.heap.size 5 1 (.slice (some ⟨w2.heap.size, 0, none⟩) 0 0) 0 [] := World.ownsRow_made _ _ _ (Nat.le_refl _) (by simp [maxLen]) rfl
  have hA' := Reads.alloc hA (.cells #[] 5)
  have h1 := bv_one C.body
  generalize hrow : C.body.map bv = r at hA' h1
  obtain ⟨n, hnn⟩ : ∃ n, n = C.body.length := ⟨_, rfl⟩
  have HN : Hid (n = C.body.length ∧ n ≤ 1000000) := ⟨hnn, by rw [hnn]; exact hn⟩
  rw [← hnn] at c8 hA' ⊢
  have HR := Lib.hid hrow
  clear hrow hA hc8 hnn hn
  go_wp2_with (at_builtin; refine app_list bytes_ty rfl rfl hown0 rfl hA' rfl h1 (by have := HN.out.2; omega) (by simp) ?_; intro v3 w3 hown3 hg3 _; refine Hid.out ?_)
  refine Lib.hid ?_
  have hb3 : Below w2.heap.size w2 w3 := (below_new _ _).grown hg3 (by simp) (own_ge hown0)
  have HB3 := Lib.hid (HB2.out.below hb3 HB2.out.lt)
  have HR3 := Lib.hid (HR2.out.below hb3 HR2.out.lt)
  have HT3 := Lib.hid (below_call HT2.out HT2.out.size hb3)
  obtain ⟨A3, c3, rfl, q1, q2⟩ := own_slice hown3
  rw [Nat.zero_add] at hown3 q1 ⊢
  rw [List.nil_append, ← HR.out] at hown3
  have HV3 : Hid (SlB (fun b => g < b) w3 (.slice A3 n c3) C.body) := by
    have h := hown3
    rw [HN.out.1] at h q1 ⊢
    exact ⟨A3, c3, rfl, own_bytes h, q1, by simpa [maxLen] using q2, fun _ ad ea => by have h5 := own_ge h ad.block (by rw [ea]; rfl); have := HGL.out; show _ < _; omega⟩
  have c8' : w3.cell? ⟨w.heap.size, 8, none⟩ = some (.slice A C.body.length c) := (HB3.out.cell 8).trans rfl
  have f8 := HB3.out.free 8
  clear hown3 hg3 hb3 q1 q2 c8 hown0 hA' h1 HB2 HR2 HT2 HV2
  have hB4 : Blk (w3.setCell ⟨w.heap.size, 8, none⟩ (.slice A3 n c3)) w.heap.size 27 (calL C (.slice A3 n c3)).toArray := HB3.out.put 8 (.slice A3 n c3)
  have hm4 : Mod (fun b => b = w.heap.size) w3 (w3.setCell ⟨w.heap.size, 8, none⟩ (.slice A3 n c3)) := Mod.set (S := fun b => b = w.heap.size) (Mod.refl _ _) (p := ⟨w.heap.size, 8, none⟩) (fun _ => rfl) _
  have HB4 := Lib.hid hB4
  have HR4 := Lib.hid (HR3.out.mod hm4 fun e => by have := HG.out; omega)
  have HT4 : Hid (Below w.heap.size w (w3.setCell ⟨w.heap.size, 8, none⟩ (.slice A3 n c3))) := HT3.out.trans (hm4.to_below HT3.out.size fun b hb e => by omega)
  have HV4 := Lib.hid (HV3.out.mod hm4 fun b h e => by have h : g < b := h; have := HG.out; omega)
  clear hB4 hm4 HV3 HT3 HR3 HB3
  go_wp2_with (refine wpList_load_blk rfl (ty := 27) rfl rfl HB4.out Try.underlying27 rfl (info_call rfl) ?_; refine Hid.out ?_)
  refine Lib.hid ?_
  go_wp2_with (refine wpList_store_blk rfl rfl rfl rfl HR4.out rfl (info_call rfl) (calL_one rfl) ?_; rintro w5 hB5 hm5; refine Hid.out ?_)
  refine Lib.hid ?_
  go_wp2_with fail
  refine bodyPost_ret (results_c Try.results9 _ hB5 rfl Try.underlying27 rfl (info_call rfl)) rfl ?_
  refine ⟨⟨_, rfl, (HV4.out.mod hm5 fun b h e => by have h : g < b := h; omega).weak fun b _ h => by have h : g < b := h; have := HG.out; omega⟩, HT4.out.trans (hm5.to_below HT4.out.size fun b hb e => by have := HG.out; omega)⟩
set_option maxRecDepth 100000 in
set_option maxHeartbeats 8000000 in
theorem rsamecall_any {K1 K2 : Nat → Prop} {w : World} {C : Cal} {v1 v2 : Value} (h1 : SlB K1 w v1 C.body) (h2 : SlB K2 w v2 C.body) :
    Calls Try.prog 13 #[.agg (calL C v1).toArray, .agg (calL C v2).toArray] w fun e w' => e = .returned (.bool true) ∧ Below w.heap.size w w' := by
  have hA : Blk ((w.alloc (.cells (calL C v1).toArray 27)).alloc (.cells (calL C v2).toArray 27)) w.heap.size 27 (calL C v1).toArray := (Blk.new _ _ _).alloc _
  have hB : Blk ((w.alloc (.cells (calL C v1).toArray 27)).alloc (.cells (calL C v2).toArray 27)) (w.heap.size + 1) 27 (calL C v2).toArray := by simpa using Blk.new (w.alloc (.cells (calL C v1).toArray 27)) 27 (calL C v2).toArray
  have hb : Below w.heap.size w ((w.alloc (.cells (calL C v1).toArray 27)).alloc (.cells (calL C v2).toArray 27)) := (below_new w _).alloc (by simp) _
  obtain ⟨A1, c1, rfl, hr1, _⟩ := h1
  obtain ⟨A2, c2, rfl, hr2, _⟩ := h2
  have s1 := hr1.below hb
  have s2 := hr2.below hb
  have v1 := conv_str (P := Try.prog) (n := C.body.length) (c := c1) Try.underlying25 Try.underlying5 Try.underlying9 s1 rfl
  have v2 := conv_str (P := Try.prog) (n := C.body.length) (c := c2) Try.underlying25 Try.underlying5 Try.underlying9 s2 rfl
  have a0 : ((w.alloc (.cells (calL C (.slice A1 C.body.length c1)).toArray 27)).alloc (.cells (calL C (.slice A2 C.body.length c2)).toArray 27)).cell? ⟨w.heap.size, 0, none⟩ = some (.int .i64 C.cl) := (hA.cell 0).trans rfl
  have b0 : ((w.alloc (.cells (calL C (.slice A1 C.body.length c1)).toArray 27)).alloc (.cells (calL C (.slice A2 C.body.length c2)).toArray 27)).cell? ⟨w.heap.size + 1, 0, none⟩ = some (.int .i64 C.cl) := (hB.cell 0).trans rfl
  have a1 : ((w.alloc (.cells (calL C (.slice A1 C.body.length c1)).toArray 27)).alloc (.cells (calL C (.slice A2 C.body.length c2)).toArray 27)).cell? ⟨w.heap.size, 1, none⟩ = some (.int .u64 (C.inc : Int)) := (hA.cell 1).trans rfl
  have b1 : ((w.alloc (.cells (calL C (.slice A1 C.body.length c1)).toArray 27)).alloc (.cells (calL C (.slice A2 C.body.length c2)).toArray 27)).cell? ⟨w.heap.size + 1, 1, none⟩ = some (.int .u64 (C.inc : Int)) := (hB.cell 1).trans rfl
  have a2 : ((w.alloc (.cells (calL C (.slice A1 C.body.length c1)).toArray 27)).alloc (.cells (calL C (.slice A2 C.body.length c2)).toArray 27)).cell? ⟨w.heap.size, 2, none⟩ = some (.int .u64 (C.n : Int)) := (hA.cell 2).trans rfl
  have b2 : ((w.alloc (.cells (calL C (.slice A1 C.body.length c1)).toArray 27)).alloc (.cells (calL C (.slice A2 C.body.length c2)).toArray 27)).cell? ⟨w.heap.size + 1, 2, none⟩ = some (.int .u64 (C.n : Int)) := (hB.cell 2).trans rfl
  have a3 : ((w.alloc (.cells (calL C (.slice A1 C.body.length c1)).toArray 27)).alloc (.cells (calL C (.slice A2 C.body.length c2)).toArray 27)).cell? ⟨w.heap.size, 3, none⟩ = some (.int .i64 C.kind) := (hA.cell 3).trans rfl
  have b3 : ((w.alloc (.cells (calL C (.slice A1 C.body.length c1)).toArray 27)).alloc (.cells (calL C (.slice A2 C.body.length c2)).toArray 27)).cell? ⟨w.heap.size + 1, 3, none⟩ = some (.int .i64 C.kind) := (hB.cell 3).trans rfl
  have a4 : ((w.alloc (.cells (calL C (.slice A1 C.body.length c1)).toArray 27)).alloc (.cells (calL C (.slice A2 C.body.length c2)).toArray 27)).cell? ⟨w.heap.size, 4, none⟩ = some (.int .i64 C.ch) := (hA.cell 4).trans rfl
  have b4 : ((w.alloc (.cells (calL C (.slice A1 C.body.length c1)).toArray 27)).alloc (.cells (calL C (.slice A2 C.body.length c2)).toArray 27)).cell? ⟨w.heap.size + 1, 4, none⟩ = some (.int .i64 C.ch) := (hB.cell 4).trans rfl
  have a5 : ((w.alloc (.cells (calL C (.slice A1 C.body.length c1)).toArray 27)).alloc (.cells (calL C (.slice A2 C.body.length c2)).toArray 27)).cell? ⟨w.heap.size, 5, none⟩ = some (.int .i64 C.sub) := (hA.cell 5).trans rfl
  have b5 : ((w.alloc (.cells (calL C (.slice A1 C.body.length c1)).toArray 27)).alloc (.cells (calL C (.slice A2 C.body.length c2)).toArray 27)).cell? ⟨w.heap.size + 1, 5, none⟩ = some (.int .i64 C.sub) := (hB.cell 5).trans rfl
  have a6 : ((w.alloc (.cells (calL C (.slice A1 C.body.length c1)).toArray 27)).alloc (.cells (calL C (.slice A2 C.body.length c2)).toArray 27)).cell? ⟨w.heap.size, 6, none⟩ = some (.int .u64 (C.seq : Int)) := (hA.cell 6).trans rfl
  have b6 : ((w.alloc (.cells (calL C (.slice A1 C.body.length c1)).toArray 27)).alloc (.cells (calL C (.slice A2 C.body.length c2)).toArray 27)).cell? ⟨w.heap.size + 1, 6, none⟩ = some (.int .u64 (C.seq : Int)) := (hB.cell 6).trans rfl
  have a7 : ((w.alloc (.cells (calL C (.slice A1 C.body.length c1)).toArray 27)).alloc (.cells (calL C (.slice A2 C.body.length c2)).toArray 27)).cell? ⟨w.heap.size, 7, none⟩ = some (.int .u64 (C.at_ : Int)) := (hA.cell 7).trans rfl
  have b7 : ((w.alloc (.cells (calL C (.slice A1 C.body.length c1)).toArray 27)).alloc (.cells (calL C (.slice A2 C.body.length c2)).toArray 27)).cell? ⟨w.heap.size + 1, 7, none⟩ = some (.int .u64 (C.at_ : Int)) := (hB.cell 7).trans rfl
  have a8 : ((w.alloc (.cells (calL C (.slice A1 C.body.length c1)).toArray 27)).alloc (.cells (calL C (.slice A2 C.body.length c2)).toArray 27)).cell? ⟨w.heap.size, 8, none⟩ = some (.slice A1 C.body.length c1) := (hA.cell 8).trans rfl
  have b8 : ((w.alloc (.cells (calL C (.slice A1 C.body.length c1)).toArray 27)).alloc (.cells (calL C (.slice A2 C.body.length c2)).toArray 27)).cell? ⟨w.heap.size + 1, 8, none⟩ = some (.slice A2 C.body.length c2) := (hB.cell 8).trans rfl
  have HT := Lib.hid hb
  clear hA hB hb hr1 hr2 s1 s2
  go_enter Try.func13, Try.ntmps13
  go_wp2_with fail
  go_ret
  exact ⟨rfl, HT.out⟩
set_option maxRecDepth 100000 in
set_option maxHeartbeats 8000000 in
theorem rsamereply_any {K1 K2 : Nat → Prop} {w : World} {R : Rep} {v1 v2 : Value} (h1 : SlB K1 w v1 R.body) (h2 : SlB K2 w v2 R.body) :
    Calls Try.prog 11 #[.agg (repL R v1).toArray, .agg (repL R v2).toArray] w fun e w' => e = .returned (.bool true) ∧ Below w.heap.size w w' := by
  have hA : Blk ((w.alloc (.cells (repL R v1).toArray 36)).alloc (.cells (repL R v2).toArray 36)) w.heap.size 36 (repL R v1).toArray := (Blk.new _ _ _).alloc _
  have hB : Blk ((w.alloc (.cells (repL R v1).toArray 36)).alloc (.cells (repL R v2).toArray 36)) (w.heap.size + 1) 36 (repL R v2).toArray := by simpa using Blk.new (w.alloc (.cells (repL R v1).toArray 36)) 36 (repL R v2).toArray
  have hb : Below w.heap.size w ((w.alloc (.cells (repL R v1).toArray 36)).alloc (.cells (repL R v2).toArray 36)) := (below_new w _).alloc (by simp) _
  obtain ⟨A1, c1, rfl, hr1, _⟩ := h1
  obtain ⟨A2, c2, rfl, hr2, _⟩ := h2
  have s1 := hr1.below hb
  have s2 := hr2.below hb
  have v1 := conv_str (P := Try.prog) (n := R.body.length) (c := c1) Try.underlying25 Try.underlying5 Try.underlying9 s1 rfl
  have v2 := conv_str (P := Try.prog) (n := R.body.length) (c := c2) Try.underlying25 Try.underlying5 Try.underlying9 s2 rfl
  have a0 : ((w.alloc (.cells (repL R (.slice A1 R.body.length c1)).toArray 36)).alloc (.cells (repL R (.slice A2 R.body.length c2)).toArray 36)).cell? ⟨w.heap.size, 0, none⟩ = some (.int .i64 R.cl) := (hA.cell 0).trans rfl
  have b0 : ((w.alloc (.cells (repL R (.slice A1 R.body.length c1)).toArray 36)).alloc (.cells (repL R (.slice A2 R.body.length c2)).toArray 36)).cell? ⟨w.heap.size + 1, 0, none⟩ = some (.int .i64 R.cl) := (hB.cell 0).trans rfl
  have a1 : ((w.alloc (.cells (repL R (.slice A1 R.body.length c1)).toArray 36)).alloc (.cells (repL R (.slice A2 R.body.length c2)).toArray 36)).cell? ⟨w.heap.size, 1, none⟩ = some (.int .u64 (R.inc : Int)) := (hA.cell 1).trans rfl
  have b1 : ((w.alloc (.cells (repL R (.slice A1 R.body.length c1)).toArray 36)).alloc (.cells (repL R (.slice A2 R.body.length c2)).toArray 36)).cell? ⟨w.heap.size + 1, 1, none⟩ = some (.int .u64 (R.inc : Int)) := (hB.cell 1).trans rfl
  have a2 : ((w.alloc (.cells (repL R (.slice A1 R.body.length c1)).toArray 36)).alloc (.cells (repL R (.slice A2 R.body.length c2)).toArray 36)).cell? ⟨w.heap.size, 2, none⟩ = some (.int .u64 (R.n : Int)) := (hA.cell 2).trans rfl
  have b2 : ((w.alloc (.cells (repL R (.slice A1 R.body.length c1)).toArray 36)).alloc (.cells (repL R (.slice A2 R.body.length c2)).toArray 36)).cell? ⟨w.heap.size + 1, 2, none⟩ = some (.int .u64 (R.n : Int)) := (hB.cell 2).trans rfl
  have a3 : ((w.alloc (.cells (repL R (.slice A1 R.body.length c1)).toArray 36)).alloc (.cells (repL R (.slice A2 R.body.length c2)).toArray 36)).cell? ⟨w.heap.size, 3, none⟩ = some (.int .i64 R.res) := (hA.cell 3).trans rfl
  have b3 : ((w.alloc (.cells (repL R (.slice A1 R.body.length c1)).toArray 36)).alloc (.cells (repL R (.slice A2 R.body.length c2)).toArray 36)).cell? ⟨w.heap.size + 1, 3, none⟩ = some (.int .i64 R.res) := (hB.cell 3).trans rfl
  have a4 : ((w.alloc (.cells (repL R (.slice A1 R.body.length c1)).toArray 36)).alloc (.cells (repL R (.slice A2 R.body.length c2)).toArray 36)).cell? ⟨w.heap.size, 4, none⟩ = some (.int .u64 (R.at_ : Int)) := (hA.cell 4).trans rfl
  have b4 : ((w.alloc (.cells (repL R (.slice A1 R.body.length c1)).toArray 36)).alloc (.cells (repL R (.slice A2 R.body.length c2)).toArray 36)).cell? ⟨w.heap.size + 1, 4, none⟩ = some (.int .u64 (R.at_ : Int)) := (hB.cell 4).trans rfl
  have a5 : ((w.alloc (.cells (repL R (.slice A1 R.body.length c1)).toArray 36)).alloc (.cells (repL R (.slice A2 R.body.length c2)).toArray 36)).cell? ⟨w.heap.size, 5, none⟩ = some (.int .i64 R.own) := (hA.cell 5).trans rfl
  have b5 : ((w.alloc (.cells (repL R (.slice A1 R.body.length c1)).toArray 36)).alloc (.cells (repL R (.slice A2 R.body.length c2)).toArray 36)).cell? ⟨w.heap.size + 1, 5, none⟩ = some (.int .i64 R.own) := (hB.cell 5).trans rfl
  have a6 : ((w.alloc (.cells (repL R (.slice A1 R.body.length c1)).toArray 36)).alloc (.cells (repL R (.slice A2 R.body.length c2)).toArray 36)).cell? ⟨w.heap.size, 6, none⟩ = some (.int .i64 R.prod) := (hA.cell 6).trans rfl
  have b6 : ((w.alloc (.cells (repL R (.slice A1 R.body.length c1)).toArray 36)).alloc (.cells (repL R (.slice A2 R.body.length c2)).toArray 36)).cell? ⟨w.heap.size + 1, 6, none⟩ = some (.int .i64 R.prod) := (hB.cell 6).trans rfl
  have a7 : ((w.alloc (.cells (repL R (.slice A1 R.body.length c1)).toArray 36)).alloc (.cells (repL R (.slice A2 R.body.length c2)).toArray 36)).cell? ⟨w.heap.size, 7, none⟩ = some (.int .u64 (R.seq : Int)) := (hA.cell 7).trans rfl
  have b7 : ((w.alloc (.cells (repL R (.slice A1 R.body.length c1)).toArray 36)).alloc (.cells (repL R (.slice A2 R.body.length c2)).toArray 36)).cell? ⟨w.heap.size + 1, 7, none⟩ = some (.int .u64 (R.seq : Int)) := (hB.cell 7).trans rfl
  have a8 : ((w.alloc (.cells (repL R (.slice A1 R.body.length c1)).toArray 36)).alloc (.cells (repL R (.slice A2 R.body.length c2)).toArray 36)).cell? ⟨w.heap.size, 8, none⟩ = some (.slice A1 R.body.length c1) := (hA.cell 8).trans rfl
  have b8 : ((w.alloc (.cells (repL R (.slice A1 R.body.length c1)).toArray 36)).alloc (.cells (repL R (.slice A2 R.body.length c2)).toArray 36)).cell? ⟨w.heap.size + 1, 8, none⟩ = some (.slice A2 R.body.length c2) := (hB.cell 8).trans rfl
  have HT := Lib.hid hb
  clear hA hB hb hr1 hr2 s1 s2
  go_enter Try.func11, Try.ntmps11
  go_wp2_with fail
  go_ret
  exact ⟨rfl, HT.out⟩
end Go.Proofs.Ytpbaofabflgpkaa
