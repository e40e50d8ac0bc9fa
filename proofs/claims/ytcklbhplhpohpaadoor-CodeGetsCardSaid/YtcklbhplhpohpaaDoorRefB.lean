/- The document's Text; a part's bytes by the document. (Printed by refb.py.) -/
import Derived.Test.YtcklbhplhpohpaaDoorRefA
namespace Go.Proofs.YtcklbhplhpohpaaDoor
open Go.RowKit

theorem str_cells (l : List UInt8) : Lib.strCells ⟨l.toArray⟩ = l.map bv := by
  show (l.toArray.toList).map _ = _
  rw [List.toList_toArray]
  rfl
set_option maxRecDepth 100000 in
theorem rtext_any (s : List UInt8) (hs : s.length ≤ 140737488300000) (w : World) :
    Calls Tryd.prog 42 #[.string ⟨s.toArray⟩] w (Owned (short s.length ++ s) w) := by
  obtain ⟨i0, hi, hz0, hz1, hz2⟩ := info_parts info_u8
  have hl := short_len (y := s.length) (by omega)
  have HS := Lib.hid (rshort_any s.length (by omega) w)
  go_enter Tryd.func42, Tryd.ntmps42
  go_wp2_with fail
  refine HS.out.mono ?_
  rintro e w1 ⟨A, c, rfl, ho, hb⟩
  have HB := Lib.hid hb
  have hsz := hb.size
  have HO := Lib.hid ho
  clear ho hb
  go_wp2_with (at_builtin; refine Hid.out ?_)
  refine Lib.hid ?_
  refine Lib.wpList_append_own_string _ rfl (.tmp 6) (.tmp 7) 27 9 rfl w.heap.size 5 i0 Tryd.underlying27 Tryd.underlying9 hi hz0 hz1 hz2 _ _ _ rfl HO.out ⟨s.toArray⟩ rfl (by simp [maxLen, ByteArray.size]; omega) (by simp [ByteArray.size]; omega) hsz ?_
  intro v2 w2 hown2 hg2 _
  have HO2 := Lib.hid hown2
  have HB2 := Lib.hid (own_below HB.out hg2 hsz (own_ge HO.out))
  clear hown2 hg2
  go_wp2_with fail
  go_ret
  obtain ⟨A2, c2, rfl, _, _⟩ := own_slice HO2.out
  have h := HO2.out
  rw [str_cells, ← List.map_append] at h
  refine ⟨A2, c2, by simp [ByteArray.size], ?_, HB2.out⟩
  simpa [ByteArray.size] using h
def PartBytes (p : Pt) (w : World) (e : Ending) (w' : World) : Prop := ∃ A c, e = .returned (.slice A p.put.length c) ∧ Bytes w' A p.put ∧ Below w.heap.size w w'
theorem Owned.part {p : Pt} {l : List UInt8} (hl : l = p.put) {w w0 : World} {e : Ending} {w' : World} (hb : Below w0.heap.size w0 w) (h : Owned l w e w') : PartBytes p w0 e w' := by
  subst hl
  obtain ⟨A, c, h1, h2, h3⟩ := h
  exact ⟨A, c, h1, own_bytes h2, below_call hb hb.size h3⟩
set_option maxRecDepth 100000 in
set_option maxHeartbeats 1000000 in
theorem pbytes_0 (p : Pt) (hk : p.k = 0) (w : World) (hp : p.ok w) (_hlim : p.b.length ≤ 140737488300000) : Calls Tryd.prog 14 #[p.val] w (PartBytes p w) := by
  have hbx := below_new w p.obj
  have hblk : Blk (w.alloc p.obj) w.heap.size 36 #[.int .i64 p.s.toInt, .int .i64 p.m.toInt, .int .u64 (p.x.toNat : Int), .slice p.A p.b.length p.c] := Blk.new _ _ _
  have hn : p.n = p.x.toNat := rfl
  have hx := p.n_lt
  unfold Pt.obj at hbx hblk
  have HS := fun w => Lib.hid (sort_k p 0 hk w)
  have hput : p.put = putP 0 p.n p.b := by unfold Pt.put; rw [hk]
  have HPUT := Lib.hid hput
  rw [← hn] at hbx hblk
  unfold Pt.val at HS ⊢
  rw [← hn] at HS ⊢
  have HP := Lib.hid hp
  clear hk hn hput hp
  go_enter Tryd.func14, Tryd.ntmps14
  go_wp2_with fail
  refine (HS _).out.mono ?_
  rintro e w2 ⟨rfl, hb2⟩
  have HX := Lib.hid (hbx.trans (hb2.mono (by simp)))
  have hblk2 := hblk.below hb2 (by simp)
  have x2 := hblk2.cell 2
  have x3 := hblk2.cell 3
  simp only [List.getElem?_toArray, List.getElem?_cons_succ, List.getElem?_cons_zero] at x2 x3
  have HB2 : Hid (Bytes w2 p.A p.b) := HP.out.1.below HX.out
  clear hblk2 hblk hbx hb2
  have HC := fun W => Lib.hid (wide_any p.n 1 hx (by decide) W)
  go_wp2_with fail
  refine (HC _).out.mono ?_
  rintro e w3 h3
  have h4 := Owned.part (p := p) (by rw [HPUT.out]; rfl) HX.out h3
  obtain ⟨A, c, rfl, h5, h6⟩ := h4
  have H5 := Lib.hid h5
  have H6 := Lib.hid h6
  clear h5 h6 h3
  go_wp2_with fail
  go_ret
  exact ⟨A, c, rfl, H5.out, H6.out⟩
set_option maxRecDepth 100000 in
set_option maxHeartbeats 1000000 in
theorem pbytes_1 (p : Pt) (hk : p.k = 1) (w : World) (hp : p.ok w) (_hlim : p.b.length ≤ 140737488300000) : Calls Tryd.prog 14 #[p.val] w (PartBytes p w) := by
  have hbx := below_new w p.obj
  have hblk : Blk (w.alloc p.obj) w.heap.size 36 #[.int .i64 p.s.toInt, .int .i64 p.m.toInt, .int .u64 (p.x.toNat : Int), .slice p.A p.b.length p.c] := Blk.new _ _ _
  have hn : p.n = p.x.toNat := rfl
  have hx := p.n_lt
  unfold Pt.obj at hbx hblk
  have HS := fun w => Lib.hid (sort_k p 1 hk w)
  have hput : p.put = putP 1 p.n p.b := by unfold Pt.put; rw [hk]
  have HPUT := Lib.hid hput
  rw [← hn] at hbx hblk
  unfold Pt.val at HS ⊢
  rw [← hn] at HS ⊢
  have HP := Lib.hid hp
  clear hk hn hput hp
  go_enter Tryd.func14, Tryd.ntmps14
  go_wp2_with fail
  refine (HS _).out.mono ?_
  rintro e w2 ⟨rfl, hb2⟩
  have HX := Lib.hid (hbx.trans (hb2.mono (by simp)))
  have hblk2 := hblk.below hb2 (by simp)
  have x2 := hblk2.cell 2
  have x3 := hblk2.cell 3
  simp only [List.getElem?_toArray, List.getElem?_cons_succ, List.getElem?_cons_zero] at x2 x3
  have HB2 : Hid (Bytes w2 p.A p.b) := HP.out.1.below HX.out
  clear hblk2 hblk hbx hb2
  have HC := fun W => Lib.hid (wide_any p.n 4 hx (by decide) W)
  go_wp2_with fail
  refine (HC _).out.mono ?_
  rintro e w3 h3
  have h4 := Owned.part (p := p) (by rw [HPUT.out, wideL_4]; rfl) HX.out h3
  obtain ⟨A, c, rfl, h5, h6⟩ := h4
  have H5 := Lib.hid h5
  have H6 := Lib.hid h6
  clear h5 h6 h3
  go_wp2_with fail
  go_ret
  exact ⟨A, c, rfl, H5.out, H6.out⟩
set_option maxRecDepth 100000 in
set_option maxHeartbeats 1000000 in
theorem pbytes_2 (p : Pt) (hk : p.k = 2) (w : World) (hp : p.ok w) (_hlim : p.b.length ≤ 140737488300000) : Calls Tryd.prog 14 #[p.val] w (PartBytes p w) := by
  have hbx := below_new w p.obj
  have hblk : Blk (w.alloc p.obj) w.heap.size 36 #[.int .i64 p.s.toInt, .int .i64 p.m.toInt, .int .u64 (p.x.toNat : Int), .slice p.A p.b.length p.c] := Blk.new _ _ _
  have hn : p.n = p.x.toNat := rfl
  have hx := p.n_lt
  unfold Pt.obj at hbx hblk
  have HS := fun w => Lib.hid (sort_k p 2 hk w)
  have hput : p.put = putP 2 p.n p.b := by unfold Pt.put; rw [hk]
  have HPUT := Lib.hid hput
  rw [← hn] at hbx hblk
  unfold Pt.val at HS ⊢
  rw [← hn] at HS ⊢
  have HP := Lib.hid hp
  clear hk hn hput hp
  go_enter Tryd.func14, Tryd.ntmps14
  go_wp2_with fail
  refine (HS _).out.mono ?_
  rintro e w2 ⟨rfl, hb2⟩
  have HX := Lib.hid (hbx.trans (hb2.mono (by simp)))
  have hblk2 := hblk.below hb2 (by simp)
  have x2 := hblk2.cell 2
  have x3 := hblk2.cell 3
  simp only [List.getElem?_toArray, List.getElem?_cons_succ, List.getElem?_cons_zero] at x2 x3
  have HB2 : Hid (Bytes w2 p.A p.b) := HP.out.1.below HX.out
  clear hblk2 hblk hbx hb2
  have HC := fun W => Lib.hid (rshort_any p.n hx W)
  go_wp2_with fail
  refine (HC _).out.mono ?_
  rintro e w3 h3
  have h4 := Owned.part (p := p) (by rw [HPUT.out]; rfl) HX.out h3
  obtain ⟨A, c, rfl, h5, h6⟩ := h4
  have H5 := Lib.hid h5
  have H6 := Lib.hid h6
  clear h5 h6 h3
  go_wp2_with fail
  go_ret
  exact ⟨A, c, rfl, H5.out, H6.out⟩
set_option maxRecDepth 100000 in
set_option maxHeartbeats 1000000 in
theorem pbytes_3 (p : Pt) (hk : p.k = 3) (w : World) (hp : p.ok w) (hlim : p.b.length ≤ 140737488300000) : Calls Tryd.prog 14 #[p.val] w (PartBytes p w) := by
  have hbx := below_new w p.obj
  have hblk : Blk (w.alloc p.obj) w.heap.size 36 #[.int .i64 p.s.toInt, .int .i64 p.m.toInt, .int .u64 (p.x.toNat : Int), .slice p.A p.b.length p.c] := Blk.new _ _ _
  have hn : p.n = p.x.toNat := rfl
  have hx := p.n_lt
  unfold Pt.obj at hbx hblk
  have HS := fun w => Lib.hid (sort_k p 3 hk w)
  have hput : p.put = putP 3 p.n p.b := by unfold Pt.put; rw [hk]
  have HPUT := Lib.hid hput
  rw [← hn] at hbx hblk
  unfold Pt.val at HS ⊢
  rw [← hn] at HS ⊢
  have HP := Lib.hid hp
  clear hk hn hput hp
  go_enter Tryd.func14, Tryd.ntmps14
  go_wp2_with fail
  refine (HS _).out.mono ?_
  rintro e w2 ⟨rfl, hb2⟩
  have HX := Lib.hid (hbx.trans (hb2.mono (by simp)))
  have hblk2 := hblk.below hb2 (by simp)
  have x2 := hblk2.cell 2
  have x3 := hblk2.cell 3
  simp only [List.getElem?_toArray, List.getElem?_cons_succ, List.getElem?_cons_zero] at x2 x3
  have HB2 : Hid (Bytes w2 p.A p.b) := HP.out.1.below HX.out
  clear hblk2 hblk hbx hb2
  have hcv := conv_str (P := Tryd.prog) (w := w2) (n := p.b.length) (c := p.c) Tryd.underlying27 Tryd.underlying5 Tryd.underlying9 HB2.out rfl
  have HC := fun W => Lib.hid (rtext_any p.b hlim W)
  go_wp2_with fail
  refine (HC _).out.mono ?_
  rintro e w3 h3
  have h4 := Owned.part (p := p) (by rw [HPUT.out]; rfl) HX.out h3
  obtain ⟨A, c, rfl, h5, h6⟩ := h4
  have H5 := Lib.hid h5
  have H6 := Lib.hid h6
  clear h5 h6 h3
  go_wp2_with fail
  go_ret
  exact ⟨A, c, rfl, H5.out, H6.out⟩
set_option maxRecDepth 100000 in
set_option maxHeartbeats 1000000 in
theorem pbytes_4 (p : Pt) (hk : p.k = 4) (w : World) (hp : p.ok w) (_hlim : p.b.length ≤ 140737488300000) : Calls Tryd.prog 14 #[p.val] w (PartBytes p w) := by
  have hbx := below_new w p.obj
  have hblk : Blk (w.alloc p.obj) w.heap.size 36 #[.int .i64 p.s.toInt, .int .i64 p.m.toInt, .int .u64 (p.x.toNat : Int), .slice p.A p.b.length p.c] := Blk.new _ _ _
  have hn : p.n = p.x.toNat := rfl
  have hx := p.n_lt
  unfold Pt.obj at hbx hblk
  have HS := fun w => Lib.hid (sort_k p 4 hk w)
  have hput : p.put = putP 4 p.n p.b := by unfold Pt.put; rw [hk]
  have HPUT := Lib.hid hput
  rw [← hn] at hbx hblk
  unfold Pt.val at HS ⊢
  rw [← hn] at HS ⊢
  have HP := Lib.hid hp
  clear hk hn hput hp
  go_enter Tryd.func14, Tryd.ntmps14
  go_wp2_with fail
  refine (HS _).out.mono ?_
  rintro e w2 ⟨rfl, hb2⟩
  have HX := Lib.hid (hbx.trans (hb2.mono (by simp)))
  have hblk2 := hblk.below hb2 (by simp)
  have x2 := hblk2.cell 2
  have x3 := hblk2.cell 3
  simp only [List.getElem?_toArray, List.getElem?_cons_succ, List.getElem?_cons_zero] at x2 x3
  have HB2 : Hid (Bytes w2 p.A p.b) := HP.out.1.below HX.out
  clear hblk2 hblk hbx hb2
  go_wp2_with fail
  go_ret
  have e : p.put = p.b := by rw [HPUT.out]; rfl
  exact ⟨p.A, p.c, by rw [e]; rfl, by rw [e]; exact HB2.out, HX.out⟩
theorem pbytes_any (p : Pt) (w : World) (hp : p.ok w) (hlim : p.b.length ≤ 140737488300000) : Calls Tryd.prog 14 #[p.val] w (PartBytes p w) := by
  rcases p.k_cases with hk | hk | hk | hk | hk
  · exact pbytes_0 p hk w hp hlim
  · exact pbytes_1 p hk w hp hlim
  · exact pbytes_2 p hk w hp hlim
  · exact pbytes_3 p hk w hp hlim
  · exact pbytes_4 p hk w hp hlim
end Go.Proofs.YtcklbhplhpohpaaDoor
