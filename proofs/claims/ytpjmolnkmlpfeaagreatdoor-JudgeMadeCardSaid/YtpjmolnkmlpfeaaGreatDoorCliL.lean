/- The document's: a call of one's own; two calls, two replies that are the same. -/
import Derived.Test.YtpjmolnkmlpfeaaGreatDoorCliC
namespace Go.Proofs.YtpjmolnkmlpfeaaGreatDoor
set_option linter.unusedVariables false
set_option linter.unusedSimpArgs false
set_option maxRecDepth 100000
open Go.RowKit

set_option maxRecDepth 100000 in
set_option maxHeartbeats 4000000 in
theorem rowncall_any {K : Nat → Prop} {w : World} {C : Cal} {v : Value} (h : SlB K w v C.body) (hn : C.body.length ≤ 140737488351232) :
    Calls Tryz.prog 14 #[.agg (calL C v).toArray] w fun e w' => (∃ v', e = .returned (.agg (calL C v').toArray) ∧ SlB (fun b => w.heap.size ≤ b) w' v' C.body) ∧ Below w.heap.size w w' := by
  have hB1 : Blk (w.alloc (.cells (calL C v).toArray 25)) w.heap.size 25 (calL C v).toArray := Blk.new _ _ _
  have hb1 := below_new w (.cells (calL C v).toArray 25)
  have HB1 := Lib.hid hB1
  have HT1 := Lib.hid hb1
  have HV := Lib.hid (h.below hb1)
  clear hB1 hb1 h
  go_enter Tryz.func14, Tryz.ntmps14
  go_wp2_with (refine wpList_alloc_blk rfl rfl zero_call ?_; rintro g w2 hg hB2 hb2; refine Hid.out ?_)
  refine Lib.hid ?_
  have HB2 := Lib.hid (HB1.out.below hb2 HB1.out.lt)
  have HR2 := Lib.hid hB2
  have HT2 := Lib.hid (below_call HT1.out HT1.out.size hb2)
  have HV2 := Lib.hid (HV.out.below hb2)
  have HG : Hid (w.heap.size < g) := by
    show _ < _
    rw [← hg]
    simp
  have HGL : Hid (g < w2.heap.size) := hB2.lt
  clear hB2 hb2 hg HB1 HT1 HV
  obtain ⟨A, c, rfl, hA, _⟩ := HV2.out
  have hc8 := ((HB2.out.below (below_new w2 (.cells #[] 5)) HB2.out.lt).cell 8).trans (b := (calL C (.slice A C.body.length c)).toArray[8]?) rfl
  have c8 : (w2.alloc (.cells #[] 5)).cell? ⟨w.heap.size, 8, none⟩ = some (.slice A C.body.length c) := hc8.trans rfl
  have hown0 : (w2.alloc (.cells #[] 5)).ownsRow w2.heap.size 5 1 (.slice (some ⟨w2.heap.size, 0, none⟩) 0 0) 0 [] := World.ownsRow_made _ _ _ (Nat.le_refl _) (by simp [maxLen]) rfl
  have hA' := Reads.alloc hA (.cells #[] 5)
  have h1 := bv_one C.body
  generalize hrow : C.body.map bv = r at hA' h1
  obtain ⟨n, hnn⟩ : ∃ n, n = C.body.length := ⟨_, rfl⟩
  have HN : Hid (n = C.body.length ∧ n ≤ 140737488351232) := ⟨hnn, by rw [hnn]; exact hn⟩
  rw [← hnn] at c8 hA' ⊢
  have HR := Lib.hid hrow
  clear hrow hA hc8 hnn hn
  go_wp2_with (at_builtin; refine app_list bytesK_ty rfl rfl hown0 rfl hA' rfl h1 (by have := HN.out.2; omega) (by simp) ?_; intro v3 w3 hown3 hg3 _; refine Hid.out ?_)
  refine Lib.hid ?_
  have hb3 : Below w2.heap.size w2 w3 := (below_new _ _).grown hg3 (by simp) (own_ge hown0)
  have HB3 := Lib.hid (HB2.out.below hb3 HB2.out.lt)
  have HR3 := Lib.hid (HR2.out.below hb3 HR2.out.lt)
  have HT3 := Lib.hid (below_call HT2.out HT2.out.size hb3)
  obtain ⟨A3, c3, rfl, q1, q2⟩ := own_slice hown3
  rw [Nat.zero_add] at hown3 q1 ⊢
  rw [List.nil_append, ← HR.out] at hown3
  have HV3 : Hid (SlB (fun b => g < b) w3 (.slice A3 n c3) C.body) := by
    have h := hown3
    rw [HN.out.1] at h q1 ⊢
    exact ⟨A3, c3, rfl, own_bytes h, q1, by simpa [maxLen] using q2, fun _ ad ea => by have h5 := own_ge h ad.block (by rw [ea]; rfl); have := HGL.out; show _ < _; omega⟩
  have c8' : w3.cell? ⟨w.heap.size, 8, none⟩ = some (.slice A C.body.length c) := (HB3.out.cell 8).trans rfl
  have f8 := HB3.out.free 8
  clear hown3 hg3 hb3 q1 q2 c8 hown0 hA' h1 HB2 HR2 HT2 HV2
  have hB4 : Blk (w3.setCell ⟨w.heap.size, 8, none⟩ (.slice A3 n c3)) w.heap.size 25 (calL C (.slice A3 n c3)).toArray := HB3.out.put 8 (.slice A3 n c3)
  have hm4 : Mod (fun b => b = w.heap.size) w3 (w3.setCell ⟨w.heap.size, 8, none⟩ (.slice A3 n c3)) := Mod.set (S := fun b => b = w.heap.size) (Mod.refl _ _) (p := ⟨w.heap.size, 8, none⟩) (fun _ => rfl) _
  have HB4 := Lib.hid hB4
  have HR4 := Lib.hid (HR3.out.mod hm4 fun e => by have := HG.out; omega)
  have HT4 : Hid (Below w.heap.size w (w3.setCell ⟨w.heap.size, 8, none⟩ (.slice A3 n c3))) := HT3.out.trans (hm4.to_below HT3.out.size fun b hb e => by omega)
  have HV4 := Lib.hid (HV3.out.mod hm4 fun b h e => by have h : g < b := h; have := HG.out; omega)
  clear hB4 hm4 HV3 HT3 HR3 HB3
  go_wp2_with (refine wpList_load_blk rfl (ty := 25) rfl rfl HB4.out Tryz.underlying25 rfl (info_call rfl) ?_; refine Hid.out ?_)
  refine Lib.hid ?_
  go_wp2_with (refine wpList_store_blk rfl rfl rfl rfl HR4.out rfl (info_call rfl) (calL_one rfl) ?_; rintro w5 hB5 hm5; refine Hid.out ?_)
  refine Lib.hid ?_
  go_wp2_with fail
  refine bodyPost_ret (results_c Tryz.results14 _ hB5 rfl Tryz.underlying25 rfl (info_call rfl)) rfl ?_
  refine ⟨⟨_, rfl, (HV4.out.mod hm5 fun b h e => by have h : g < b := h; omega).weak fun b _ h => by have h : g < b := h; have := HG.out; omega⟩, HT4.out.trans (hm5.to_below HT4.out.size fun b hb e => by have := HG.out; omega)⟩
end Go.Proofs.YtpjmolnkmlpfeaaGreatDoor
