/- A client's calls: own, with, ask, next, after, mine. -/
import Derived.Test.YtpbaofabflgpkaaCliB
namespace Go.Proofs.Ytpbaofabflgpkaa
set_option linter.unusedVariables false
set_option linter.unusedSimpArgs false
open Go.RowKit

set_option maxRecDepth 100000 in
set_option maxHeartbeats 4000000 in
theorem own_any {K : Nat → Prop} {w : World} {C : Cal} {v : Value} (h : SlB K w v C.body) (hn : C.body.length ≤ 1000000) :
    Calls Try.prog 24 #[.agg (calL C v).toArray] w fun e w' => (∃ v', e = .returned (.agg (calL C v').toArray) ∧ SlB (fun b => w.heap.size ≤ b) w' v' C.body) ∧ Below w.heap.size w w' := by
  have hB1 : Blk (w.alloc (.cells (calL C v).toArray 27)) w.heap.size 27 (calL C v).toArray := Blk.new _ _ _
  have hb1 := below_new w (.cells (calL C v).toArray 27)
  have HB1 := Lib.hid hB1
  have HT1 := Lib.hid hb1
  have HV := Lib.hid (h.below hb1)
  have HO := Lib.hid h.one
  clear hB1 hb1 h
  go_enter Try.func24, Try.ntmps24
  go_wp2_with (refine wpList_alloc_blk rfl rfl zero_call ?_; rintro g w2 hg hB2 hb2; refine Hid.out ?_)
  refine Lib.hid ?_
  have HB2 := Lib.hid (HB1.out.below hb2 HB1.out.lt)
  have HR2 := Lib.hid hB2
  have HT2 := Lib.hid (below_call HT1.out HT1.out.size hb2)
  have HV2 := Lib.hid (HV.out.below hb2)
  have HG : Hid (w.heap.size < g) := by
    show _ < _
    rw [← hg]
    simp
  have c8 : w2.cell? ⟨w.heap.size, 8, none⟩ = some v := (HB2.out.cell 8).trans rfl
  have HR2L : Hid (g < w2.heap.size) := hB2.lt
  clear hB2 hb2 hg HB1 HT1 HV
  go_wp2_with fail
  refine (bclone_any HV2.out (by omega)).mono ?_
  rintro e w3 ⟨⟨v', rfl, hv'⟩, hb3⟩
  obtain ⟨A', c', e', _⟩ := id hv'
  subst e'
  obtain ⟨n', hn'⟩ : ∃ n', n' = C.body.length := ⟨_, rfl⟩
  rw [← hn'] at hv' ⊢
  clear hn'
  have HB3 := Lib.hid (HB2.out.below hb3 HB2.out.lt)
  have HR3 := Lib.hid (HR2.out.below hb3 HR2.out.lt)
  have HT3 := Lib.hid (below_call HT2.out HT2.out.size hb3)
  have HV3 := Lib.hid hv'
  have c8' : w3.cell? ⟨w.heap.size, 8, none⟩ = some v := (HB3.out.cell 8).trans rfl
  have f8 := HB3.out.free 8
  have o8 := hv'.one
  clear hb3 c8 hv' HB2 HR2 HT2 HV2
  have hB4 : Blk (w3.setCell ⟨w.heap.size, 8, none⟩ (.slice A' n' c')) w.heap.size 27 (calL C (.slice A' n' c')).toArray := HB3.out.put 8 (.slice A' n' c')
  have hm4 : Mod (fun b => b = w.heap.size) w3 (w3.setCell ⟨w.heap.size, 8, none⟩ (.slice A' n' c')) := Mod.set (S := fun b => b = w.heap.size) (Mod.refl _ _) (p := ⟨w.heap.size, 8, none⟩) (fun _ => rfl) _
  have HB4 := Lib.hid hB4
  have HR4 := Lib.hid (HR3.out.mod hm4 fun e => by have := HG.out; omega)
  have HT4 : Hid (Below w.heap.size w (w3.setCell ⟨w.heap.size, 8, none⟩ (.slice A' n' c'))) := HT3.out.trans (hm4.to_below HT3.out.size fun b hb e => by omega)
  have HV4 : Hid (SlB (fun b => g < b) (w3.setCell ⟨w.heap.size, 8, none⟩ (.slice A' n' c')) (.slice A' n' c') C.body) := (HV3.out.weak (K' := fun b => g < b) fun b _ h => by have h : w2.heap.size ≤ b := h; have := HR2L.out; omega).mod hm4 fun b h e => by have h : g < b := h; have := HG.out; omega
  clear hB4 hm4
  go_wp2_with (refine wpList_load_blk rfl (ty := 27) rfl rfl HB4.out Try.underlying27 rfl (info_call rfl) ?_; refine Hid.out ?_)
  refine Lib.hid ?_
  go_wp2_with (refine wpList_store_blk rfl rfl rfl rfl HR4.out rfl (info_call rfl) (calL_one o8) ?_; rintro w5 hB5 hm5; refine Hid.out ?_)
  refine Lib.hid ?_
  go_wp2_with fail
  refine bodyPost_ret (results_c Try.results24 _ hB5 rfl Try.underlying27 rfl (info_call rfl)) rfl ?_
  refine ⟨⟨_, rfl, (HV4.out.mod hm5 fun b h e => by have h : g < b := h; omega).weak fun b _ h => by have h : g < b := h; have := HG.out; omega⟩, HT4.out.trans (hm5.to_below HT4.out.size fun b hb e => by have := HG.out; omega)⟩
end Go.Proofs.Ytpbaofabflgpkaa
