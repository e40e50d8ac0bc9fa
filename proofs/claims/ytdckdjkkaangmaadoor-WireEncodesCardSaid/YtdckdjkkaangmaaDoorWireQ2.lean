/- The document's Own. -/
import Derived.Test.YtdckdjkkaangmaaDoorWireL2
import Derived.Test.YtdckdjkkaangmaaDoorWireK2
namespace Go.Proofs.YtdckdjkkaangmaaDoor
set_option linter.unusedVariables false
set_option linter.unusedSimpArgs false
set_option maxRecDepth 100000
open Go.RowKit

theorem PkV.of_own {w0 w : World} {cs cs' : Array Value} {P : Pk} (hP : PkV w0 cs P) (hsz : cs'.size = 56) (hget : ∀ o, o ∉ txtOffs → o ≠ 28 → cs'[o]? = cs[o]?) (hT : ∀ o ∈ txtOffs, ∃ A c, cs'[o]? = some (.slice A (P.t o).length c) ∧ (P.t o).length ≤ c ∧ c ≤ 9223372036854775807 ∧ Bytes w A (P.t o))
    (hK : ∃ A c, cs'[28]? = some (.slice A P.k.length c) ∧ P.k.length ≤ c ∧ c ≤ 9223372036854775807 ∧ Keeps w A P.k ∧ ∀ ad, A = some ad → ad.block < w.heap.size) : PkV w cs' P := by
  obtain ⟨A, c, e, k1, k2, k3, k4⟩ := hK
  refine ⟨hsz, ?_, fun o ho => ?_, fun o ho => ?_, fun o ho => ?_, ⟨A, c, e, k3, k1, k2, ?_⟩, hP.keeps, fun A' n' c' e' ad ea => ?_⟩
  · rw [hget 0 (by decide) (by decide)]
    exact hP.kind
  · rw [hget o (offs_apart.2 o ho).2.1 (offs_apart.2 o ho).2.2.1]
    exact hP.ints o ho
  · rw [hget o (offs_apart.1 o ho).2.1 (offs_apart.1 o ho).2.2.1]
    exact hP.nums o ho
  · obtain ⟨A, c, e, h1, h2, h3⟩ := hT o ho
    obtain ⟨_, _, _, _, _, _, h4⟩ := hP.txts o ho
    exact ⟨A, c, e, h3, h1, h2, h4⟩
  · obtain ⟨_, _, _, _, _, _, h4⟩ := hP.keep
    exact h4
  · rw [e] at e'
    injection e' with e'
    injection e' with e'
    exact k4 ad (e'.trans ea)
set_option maxRecDepth 100000 in
set_option maxHeartbeats 64000000 in
theorem rown_any {w : World} {cs : Array Value} {P : Pk} (hP : PkV w cs P) :
    Calls Tryd.prog 16 #[.agg cs] w fun e w' => (∃ cs', e = .returned (.agg cs') ∧ PkV w' cs' P) ∧ Below w.heap.size w w' := by
  have hB1 : Blk (w.alloc (.cells cs 44)) w.heap.size 44 cs := Blk.new _ _ _
  have hbt := below_new w (.cells cs 44)
  have HP := Lib.hid hP
  have hs1 : (w.alloc (.cells cs 44)).heap.size = w.heap.size + 1 := by simp
  go_enter Tryd.func16, Tryd.ntmps16
  go_wp2_with (refine wpList_alloc_blk rfl rfl zero_pk ?_; rintro g x0 hg hG hb1; refine Hid.out ?_)
  refine Lib.hid ?_
  have HG0 := Lib.hid hG
  have HB0 := Lib.hid (hB1.below hb1 hB1.lt)
  have HT0 := Lib.hid (below_call hbt (by omega) hb1)
  have HGL : Hid (g = w.heap.size + 1 ∧ w.heap.size + 2 ≤ x0.heap.size) := ⟨by omega, by have := hG.lt; omega⟩
  have HZ0 : Hid (cs.size = 56) := hP.size
  have HX0 : Hid (w.heap.size + 2 ≤ x0.heap.size) := HGL.out.2
  clear hB1 hbt hP hs1 hG hb1 hg
  obtain ⟨cs0, hcs0⟩ : ∃ c, c = cs := ⟨_, rfl⟩
  have HS0 := Lib.hid hcs0
  rw [← hcs0] at HB0 HZ0
  clear hcs0
  obtain ⟨A6, c6, e6, hy6, _, _, hl6⟩ := HP.out.txts 6 (by decide)
  have hy := Reads.alloc (Reads.below hy6 HT0.out) (.cells #[] 5)
  have hsx : (x0).heap.size = x0.heap.size := by rfl
  have hw : ((x0).alloc (.cells #[] 5)).ownsRow x0.heap.size 5 1 (.slice (some ⟨x0.heap.size, 0, none⟩) 0 0) 0 [] := by
    have h := World.ownsRow_made (x0) #[] 0 (base := (x0).heap.size) (e := 5) (size := 1) (Nat.le_refl _) (by simp [maxLen]) rfl
    exact h
  have HSX := Lib.hid hsx
  clear hsx
  have e' : cs0[6]? = some (.slice A6 (P.t 6).length c6) := by rw [HS0.out]; exact e6
  have cc := ((HB0.out.alloc (.cells #[] 5)).cell 6).trans e'
  have h1 := bv_one (P.t 6)
  generalize hrow : (P.t 6).map bv = r at hy h1
  generalize hlen : (P.t 6).length = n6 at *
  have HR6 := Lib.hid hrow
  have HL6 := Lib.hid hlen
  clear hrow hlen e6 e' hy6
  go_wp2_with (at_builtin; refine app_list bytes_ty rfl rfl hw rfl hy rfl h1 (by omega) (by simp) ?_; intro v y0 hown hg2 _; refine Hid.out ?_)
  refine Lib.hid ?_
  have hbn : Below (x0).heap.size (x0) y0 := (below_new _ _).grown hg2 (by simp) (fun k hk => own_ge hw k hk)
  clear hg2 hw hy h1 cc hl6
  simp only [Nat.zero_add, List.nil_append] at hown
  obtain ⟨D6, d6, rfl, hd6, hm6⟩ := own_slice hown
  have hBn := HB0.out.below hbn HB0.out.lt
  have hmM : Mod (fun b => b = w.heap.size) (x0) (y0.setCell ⟨w.heap.size, 6, none⟩ (.slice D6 n6 d6)) := Mod.set (S := fun b => b = w.heap.size) (Mod.below hbn (Nat.le_refl _)) (p := ⟨w.heap.size, 6, none⟩) (fun _ => rfl) _
  have hm1 : Mod (fun b => b = w.heap.size) y0 (y0.setCell ⟨w.heap.size, 6, none⟩ (.slice D6 n6 d6)) := Mod.set (S := fun b => b = w.heap.size) (Mod.refl _ _) (p := ⟨w.heap.size, 6, none⟩) (fun _ => rfl) _
  have HX1 : Hid (w.heap.size + 2 ≤ (y0.setCell ⟨w.heap.size, 6, none⟩ (.slice D6 n6 d6)).heap.size) := Nat.le_trans HX0.out hmM.size
  have HT1 : Hid (Below w.heap.size w (y0.setCell ⟨w.heap.size, 6, none⟩ (.slice D6 n6 d6))) := HT0.out.trans (hmM.to_below HT0.out.size fun b hb e => by omega)
  have HG1 := Lib.hid (HG0.out.mod hmM fun e => by have := HGL.out.1; omega)
  have HB1 := Lib.hid (hBn.put 6 (.slice D6 n6 d6))
  have hN : ∀ o, (cs0.setIfInBounds 6 (.slice D6 n6 d6))[o]? = if o = 6 then some (.slice D6 n6 d6) else cs0[o]? := fun o => set_get (by rw [HZ0.out]; omega)
  have HZ1 : Hid ((cs0.setIfInBounds 6 (.slice D6 n6 d6)).size = 56) := (by show _ = _; rw [Array.size_setIfInBounds]; exact HZ0.out)
  generalize cs0.setIfInBounds 6 (.slice D6 n6 d6) = cs1 at *
  have HS1 : Hid (∀ o, o ∉ ([6] : List Nat) → cs1[o]? = cs[o]?) := fun o h => by
    rw [hN, if_neg (fun e => h (by rw [e]; decide))]
    rw [HS0.out]
  have HD6 : Hid (n6 ≤ d6 ∧ d6 ≤ 9223372036854775807) := ⟨hd6, by simpa [maxLen] using hm6⟩
  have HV6_1 : Hid (cs1[6]? = some (.slice D6 n6 d6)) := (by show _ = _; rw [hN, if_pos rfl])
  have HBX : Hid (w.heap.size + 2 ≤ x0.heap.size) := HX0.out
  have HO6_1 : Hid (TxO (y0.setCell ⟨w.heap.size, 6, none⟩ (.slice D6 n6 d6)) (w.heap.size + 2) (y0.setCell ⟨w.heap.size, 6, none⟩ (.slice D6 n6 d6)).heap.size D6 (P.t 6)) := by
    have h := hown
    rw [← HR6.out, ← HL6.out] at h
    have hq := (TxO.own (base_le h HBX.out) (Nat.le_refl _)).mod hm1 fun k h1 h2 e => by omega
    exact ⟨hq.1, fun ad ea => by obtain ⟨a1, a2, a3, a4, a5, a6⟩ := hq.2 ad ea; exact ⟨a1, a2, a3, a5, a5, a6⟩⟩
  have cn0 := hBn.cell 6
  have fn0 := hBn.free 6
  rw [Array.getElem?_eq_getElem (by rw [HZ0.out]; omega)] at cn0
  generalize cs0[6]'_ = u6 at cn0
  clear HSX HBX hN hown hbn hBn hmM hm1 hd6 hm6 HX0 HT0 HG0 HB0 HZ0 HS0
  obtain ⟨A18, c18, e18, hy18, _, _, hl18⟩ := HP.out.txts 18 (by decide)
  have hy := Reads.alloc (Reads.below hy18 HT1.out) (.cells #[] 5)
  have hsx : ((y0.setCell ⟨w.heap.size, 6, none⟩ (.slice D6 n6 d6))).heap.size = y0.heap.size := by simp
  have hw : (((y0.setCell ⟨w.heap.size, 6, none⟩ (.slice D6 n6 d6))).alloc (.cells #[] 5)).ownsRow y0.heap.size 5 1 (.slice (some ⟨y0.heap.size, 0, none⟩) 0 0) 0 [] := by
    have h := World.ownsRow_made ((y0.setCell ⟨w.heap.size, 6, none⟩ (.slice D6 n6 d6))) #[] 0 (base := ((y0.setCell ⟨w.heap.size, 6, none⟩ (.slice D6 n6 d6))).heap.size) (e := 5) (size := 1) (Nat.le_refl _) (by simp [maxLen]) rfl
    rw [hsx] at h; exact h
  have HSX := Lib.hid hsx
  clear hsx
  have e' : cs1[18]? = some (.slice A18 (P.t 18).length c18) := (HS1.out 18 (by decide)).trans e18
  have cc := ((HB1.out.alloc (.cells #[] 5)).cell 18).trans e'
  have h1 := bv_one (P.t 18)
  generalize hrow : (P.t 18).map bv = r at hy h1
  generalize hlen : (P.t 18).length = n18 at *
  have HR18 := Lib.hid hrow
  have HL18 := Lib.hid hlen
  clear hrow hlen e18 e' hy18
  go_wp2_with (at_builtin; refine app_list bytes_ty rfl rfl hw rfl hy rfl h1 (by omega) (by simp) ?_; intro v y1 hown hg2 _; refine Hid.out ?_)
  refine Lib.hid ?_
  have hbn : Below ((y0.setCell ⟨w.heap.size, 6, none⟩ (.slice D6 n6 d6))).heap.size ((y0.setCell ⟨w.heap.size, 6, none⟩ (.slice D6 n6 d6))) y1 := (below_new _ _).grown hg2 (by simp) (fun k hk => by rw [HSX.out]; exact own_ge hw k hk)
  clear hg2 hw hy h1 cc hl18 cn0 fn0
  simp only [Nat.zero_add, List.nil_append] at hown
  obtain ⟨D18, d18, rfl, hd18, hm18⟩ := own_slice hown
  have hBn := HB1.out.below hbn HB1.out.lt
  have hmM : Mod (fun b => b = w.heap.size) ((y0.setCell ⟨w.heap.size, 6, none⟩ (.slice D6 n6 d6))) (y1.setCell ⟨w.heap.size, 18, none⟩ (.slice D18 n18 d18)) := Mod.set (S := fun b => b = w.heap.size) (Mod.below hbn (Nat.le_refl _)) (p := ⟨w.heap.size, 18, none⟩) (fun _ => rfl) _
  have hm1 : Mod (fun b => b = w.heap.size) y1 (y1.setCell ⟨w.heap.size, 18, none⟩ (.slice D18 n18 d18)) := Mod.set (S := fun b => b = w.heap.size) (Mod.refl _ _) (p := ⟨w.heap.size, 18, none⟩) (fun _ => rfl) _
  have HX2 : Hid (w.heap.size + 2 ≤ (y1.setCell ⟨w.heap.size, 18, none⟩ (.slice D18 n18 d18)).heap.size) := Nat.le_trans HX1.out hmM.size
  have HT2 : Hid (Below w.heap.size w (y1.setCell ⟨w.heap.size, 18, none⟩ (.slice D18 n18 d18))) := HT1.out.trans (hmM.to_below HT1.out.size fun b hb e => by omega)
  have HG2 := Lib.hid (HG1.out.mod hmM fun e => by have := HGL.out.1; omega)
  have HB2 := Lib.hid (hBn.put 18 (.slice D18 n18 d18))
  have hN : ∀ o, (cs1.setIfInBounds 18 (.slice D18 n18 d18))[o]? = if o = 18 then some (.slice D18 n18 d18) else cs1[o]? := fun o => set_get (by rw [HZ1.out]; omega)
  have HZ2 : Hid ((cs1.setIfInBounds 18 (.slice D18 n18 d18)).size = 56) := (by show _ = _; rw [Array.size_setIfInBounds]; exact HZ1.out)
  generalize cs1.setIfInBounds 18 (.slice D18 n18 d18) = cs2 at *
  have HS2 : Hid (∀ o, o ∉ ([6, 18] : List Nat) → cs2[o]? = cs[o]?) := fun o h => by
    rw [hN, if_neg (fun e => h (by rw [e]; decide))]
    exact HS1.out o (fun h' => h (by simp only [List.mem_cons, List.not_mem_nil, or_false] at h' ⊢; omega))
  have HD18 : Hid (n18 ≤ d18 ∧ d18 ≤ 9223372036854775807) := ⟨hd18, by simpa [maxLen] using hm18⟩
  have HV18_2 : Hid (cs2[18]? = some (.slice D18 n18 d18)) := (by show _ = _; rw [hN, if_pos rfl])
  have HV6_2 : Hid (cs2[6]? = some (.slice D6 n6 d6)) := (by show _ = _; rw [hN, if_neg (by decide)]; exact HV6_1.out)
  have HBX : Hid (w.heap.size + 2 ≤ y0.heap.size) := (by have h := HX1.out; rw [HSX.out] at h; exact h)
  have HO18_2 : Hid (TxO (y1.setCell ⟨w.heap.size, 18, none⟩ (.slice D18 n18 d18)) (w.heap.size + 2) (y1.setCell ⟨w.heap.size, 18, none⟩ (.slice D18 n18 d18)).heap.size D18 (P.t 18)) := by
    have h := hown
    rw [← HR18.out, ← HL18.out] at h
    have hq := (TxO.own (base_le h HBX.out) (Nat.le_refl _)).mod hm1 fun k h1 h2 e => by omega
    exact ⟨hq.1, fun ad ea => by obtain ⟨a1, a2, a3, a4, a5, a6⟩ := hq.2 ad ea; exact ⟨a1, a2, a3, a5, a5, a6⟩⟩
  have HO6_2 : Hid (TxO (y1.setCell ⟨w.heap.size, 18, none⟩ (.slice D18 n18 d18)) (w.heap.size + 2) (y1.setCell ⟨w.heap.size, 18, none⟩ (.slice D18 n18 d18)).heap.size D6 (P.t 6)) := by
    have hq := HO6_1.out.mod hmM fun k h1 h2 e => by omega
    exact ⟨hq.1, fun ad ea => by obtain ⟨a1, a2, a3, a4, a5, a6⟩ := hq.2 ad ea; exact ⟨a1, a2, a3, a5, a5, a6⟩⟩
  have cn1 := hBn.cell 18
  have fn1 := hBn.free 18
  rw [Array.getElem?_eq_getElem (by rw [HZ1.out]; omega)] at cn1
  generalize cs1[18]'_ = u18 at cn1
  clear HSX HBX hN hown hbn hBn hmM hm1 hd18 hm18 HX1 HT1 HG1 HB1 HZ1 HS1 HO6_1 HV6_1
  obtain ⟨A27, c27, e27, hy27, _, _, hl27⟩ := HP.out.txts 27 (by decide)
  have hy := Reads.alloc (Reads.below hy27 HT2.out) (.cells #[] 5)
  have hsx : ((y1.setCell ⟨w.heap.size, 18, none⟩ (.slice D18 n18 d18))).heap.size = y1.heap.size := by simp
  have hw : (((y1.setCell ⟨w.heap.size, 18, none⟩ (.slice D18 n18 d18))).alloc (.cells #[] 5)).ownsRow y1.heap.size 5 1 (.slice (some ⟨y1.heap.size, 0, none⟩) 0 0) 0 [] := by
    have h := World.ownsRow_made ((y1.setCell ⟨w.heap.size, 18, none⟩ (.slice D18 n18 d18))) #[] 0 (base := ((y1.setCell ⟨w.heap.size, 18, none⟩ (.slice D18 n18 d18))).heap.size) (e := 5) (size := 1) (Nat.le_refl _) (by simp [maxLen]) rfl
    rw [hsx] at h; exact h
  have HSX := Lib.hid hsx
  clear hsx
  have e' : cs2[27]? = some (.slice A27 (P.t 27).length c27) := (HS2.out 27 (by decide)).trans e27
  have cc := ((HB2.out.alloc (.cells #[] 5)).cell 27).trans e'
  have h1 := bv_one (P.t 27)
  generalize hrow : (P.t 27).map bv = r at hy h1
  generalize hlen : (P.t 27).length = n27 at *
  have HR27 := Lib.hid hrow
  have HL27 := Lib.hid hlen
  clear hrow hlen e27 e' hy27
  go_wp2_with (at_builtin; refine app_list bytes_ty rfl rfl hw rfl hy rfl h1 (by omega) (by simp) ?_; intro v y2 hown hg2 _; refine Hid.out ?_)
  refine Lib.hid ?_
  have hbn : Below ((y1.setCell ⟨w.heap.size, 18, none⟩ (.slice D18 n18 d18))).heap.size ((y1.setCell ⟨w.heap.size, 18, none⟩ (.slice D18 n18 d18))) y2 := (below_new _ _).grown hg2 (by simp) (fun k hk => by rw [HSX.out]; exact own_ge hw k hk)
  clear hg2 hw hy h1 cc hl27 cn1 fn1
  simp only [Nat.zero_add, List.nil_append] at hown
  obtain ⟨D27, d27, rfl, hd27, hm27⟩ := own_slice hown
  have hBn := HB2.out.below hbn HB2.out.lt
  have hmM : Mod (fun b => b = w.heap.size) ((y1.setCell ⟨w.heap.size, 18, none⟩ (.slice D18 n18 d18))) (y2.setCell ⟨w.heap.size, 27, none⟩ (.slice D27 n27 d27)) := Mod.set (S := fun b => b = w.heap.size) (Mod.below hbn (Nat.le_refl _)) (p := ⟨w.heap.size, 27, none⟩) (fun _ => rfl) _
  have hm1 : Mod (fun b => b = w.heap.size) y2 (y2.setCell ⟨w.heap.size, 27, none⟩ (.slice D27 n27 d27)) := Mod.set (S := fun b => b = w.heap.size) (Mod.refl _ _) (p := ⟨w.heap.size, 27, none⟩) (fun _ => rfl) _
  have HX3 : Hid (w.heap.size + 2 ≤ (y2.setCell ⟨w.heap.size, 27, none⟩ (.slice D27 n27 d27)).heap.size) := Nat.le_trans HX2.out hmM.size
  have HT3 : Hid (Below w.heap.size w (y2.setCell ⟨w.heap.size, 27, none⟩ (.slice D27 n27 d27))) := HT2.out.trans (hmM.to_below HT2.out.size fun b hb e => by omega)
  have HG3 := Lib.hid (HG2.out.mod hmM fun e => by have := HGL.out.1; omega)
  have HB3 := Lib.hid (hBn.put 27 (.slice D27 n27 d27))
  have hN : ∀ o, (cs2.setIfInBounds 27 (.slice D27 n27 d27))[o]? = if o = 27 then some (.slice D27 n27 d27) else cs2[o]? := fun o => set_get (by rw [HZ2.out]; omega)
  have HZ3 : Hid ((cs2.setIfInBounds 27 (.slice D27 n27 d27)).size = 56) := (by show _ = _; rw [Array.size_setIfInBounds]; exact HZ2.out)
  generalize cs2.setIfInBounds 27 (.slice D27 n27 d27) = cs3 at *
  have HS3 : Hid (∀ o, o ∉ ([6, 18, 27] : List Nat) → cs3[o]? = cs[o]?) := fun o h => by
    rw [hN, if_neg (fun e => h (by rw [e]; decide))]
    exact HS2.out o (fun h' => h (by simp only [List.mem_cons, List.not_mem_nil, or_false] at h' ⊢; omega))
  have HD27 : Hid (n27 ≤ d27 ∧ d27 ≤ 9223372036854775807) := ⟨hd27, by simpa [maxLen] using hm27⟩
  have HV27_3 : Hid (cs3[27]? = some (.slice D27 n27 d27)) := (by show _ = _; rw [hN, if_pos rfl])
  have HV6_3 : Hid (cs3[6]? = some (.slice D6 n6 d6)) := (by show _ = _; rw [hN, if_neg (by decide)]; exact HV6_2.out)
  have HV18_3 : Hid (cs3[18]? = some (.slice D18 n18 d18)) := (by show _ = _; rw [hN, if_neg (by decide)]; exact HV18_2.out)
  have HBX : Hid (w.heap.size + 2 ≤ y1.heap.size) := (by have h := HX2.out; rw [HSX.out] at h; exact h)
  have HO27_3 : Hid (TxO (y2.setCell ⟨w.heap.size, 27, none⟩ (.slice D27 n27 d27)) (w.heap.size + 2) (y2.setCell ⟨w.heap.size, 27, none⟩ (.slice D27 n27 d27)).heap.size D27 (P.t 27)) := by
    have h := hown
    rw [← HR27.out, ← HL27.out] at h
    have hq := (TxO.own (base_le h HBX.out) (Nat.le_refl _)).mod hm1 fun k h1 h2 e => by omega
    exact ⟨hq.1, fun ad ea => by obtain ⟨a1, a2, a3, a4, a5, a6⟩ := hq.2 ad ea; exact ⟨a1, a2, a3, a5, a5, a6⟩⟩
  have HO6_3 : Hid (TxO (y2.setCell ⟨w.heap.size, 27, none⟩ (.slice D27 n27 d27)) (w.heap.size + 2) (y2.setCell ⟨w.heap.size, 27, none⟩ (.slice D27 n27 d27)).heap.size D6 (P.t 6)) := by
    have hq := HO6_2.out.mod hmM fun k h1 h2 e => by omega
    exact ⟨hq.1, fun ad ea => by obtain ⟨a1, a2, a3, a4, a5, a6⟩ := hq.2 ad ea; exact ⟨a1, a2, a3, a5, a5, a6⟩⟩
  have HO18_3 : Hid (TxO (y2.setCell ⟨w.heap.size, 27, none⟩ (.slice D27 n27 d27)) (w.heap.size + 2) (y2.setCell ⟨w.heap.size, 27, none⟩ (.slice D27 n27 d27)).heap.size D18 (P.t 18)) := by
    have hq := HO18_2.out.mod hmM fun k h1 h2 e => by omega
    exact ⟨hq.1, fun ad ea => by obtain ⟨a1, a2, a3, a4, a5, a6⟩ := hq.2 ad ea; exact ⟨a1, a2, a3, a5, a5, a6⟩⟩
  have cn2 := hBn.cell 27
  have fn2 := hBn.free 27
  rw [Array.getElem?_eq_getElem (by rw [HZ2.out]; omega)] at cn2
  generalize cs2[27]'_ = u27 at cn2
  clear HSX HBX hN hown hbn hBn hmM hm1 hd27 hm27 HX2 HT2 HG2 HB2 HZ2 HS2 HO6_2 HV6_2 HO18_2 HV18_2
  obtain ⟨A28, c28, e28, hy28, _, _, hl28⟩ := HP.out.keep
  have hy := Reads.alloc (Reads.below hy28 HT3.out) (.cells #[] 24)
  have hsx : ((y2.setCell ⟨w.heap.size, 27, none⟩ (.slice D27 n27 d27))).heap.size = y2.heap.size := by simp
  have hw : (((y2.setCell ⟨w.heap.size, 27, none⟩ (.slice D27 n27 d27))).alloc (.cells #[] 24)).ownsRow y2.heap.size 24 1 (.slice (some ⟨y2.heap.size, 0, none⟩) 0 0) 0 [] := by
    have h := World.ownsRow_made ((y2.setCell ⟨w.heap.size, 27, none⟩ (.slice D27 n27 d27))) #[] 0 (base := ((y2.setCell ⟨w.heap.size, 27, none⟩ (.slice D27 n27 d27))).heap.size) (e := 24) (size := 1) (Nat.le_refl _) (by simp [maxLen]) rfl
    rw [hsx] at h; exact h
  have HSX := Lib.hid hsx
  clear hsx
  have e' : cs3[28]? = some (.slice A28 P.k.length c28) := (HS3.out 28 (by decide)).trans e28
  have cc := ((HB3.out.alloc (.cells #[] 24)).cell 28).trans e'
  have h1 := u64_one P.k
  generalize hrow : P.k.map u64v = r at hy h1
  generalize hlen : P.k.length = n28 at *
  have HR28 := Lib.hid hrow
  have HL28 := Lib.hid hlen
  clear hrow hlen e28 e' hy28
  go_wp2_with (at_builtin; refine app_list u64_ty rfl rfl hw rfl hy rfl h1 (by omega) (by simp) ?_; intro v y3 hown hg2 _; refine Hid.out ?_)
  refine Lib.hid ?_
  have hbn : Below ((y2.setCell ⟨w.heap.size, 27, none⟩ (.slice D27 n27 d27))).heap.size ((y2.setCell ⟨w.heap.size, 27, none⟩ (.slice D27 n27 d27))) y3 := (below_new _ _).grown hg2 (by simp) (fun k hk => by rw [HSX.out]; exact own_ge hw k hk)
  clear hg2 hw hy h1 cc hl28 cn2 fn2
  simp only [Nat.zero_add, List.nil_append] at hown
  obtain ⟨D28, d28, rfl, hd28, hm28⟩ := own_slice hown
  have hBn := HB3.out.below hbn HB3.out.lt
  have hmM : Mod (fun b => b = w.heap.size) ((y2.setCell ⟨w.heap.size, 27, none⟩ (.slice D27 n27 d27))) (y3.setCell ⟨w.heap.size, 28, none⟩ (.slice D28 n28 d28)) := Mod.set (S := fun b => b = w.heap.size) (Mod.below hbn (Nat.le_refl _)) (p := ⟨w.heap.size, 28, none⟩) (fun _ => rfl) _
  have hm1 : Mod (fun b => b = w.heap.size) y3 (y3.setCell ⟨w.heap.size, 28, none⟩ (.slice D28 n28 d28)) := Mod.set (S := fun b => b = w.heap.size) (Mod.refl _ _) (p := ⟨w.heap.size, 28, none⟩) (fun _ => rfl) _
  have HX4 : Hid (w.heap.size + 2 ≤ (y3.setCell ⟨w.heap.size, 28, none⟩ (.slice D28 n28 d28)).heap.size) := Nat.le_trans HX3.out hmM.size
  have HT4 : Hid (Below w.heap.size w (y3.setCell ⟨w.heap.size, 28, none⟩ (.slice D28 n28 d28))) := HT3.out.trans (hmM.to_below HT3.out.size fun b hb e => by omega)
  have HG4 := Lib.hid (HG3.out.mod hmM fun e => by have := HGL.out.1; omega)
  have HB4 := Lib.hid (hBn.put 28 (.slice D28 n28 d28))
  have hN : ∀ o, (cs3.setIfInBounds 28 (.slice D28 n28 d28))[o]? = if o = 28 then some (.slice D28 n28 d28) else cs3[o]? := fun o => set_get (by rw [HZ3.out]; omega)
  have HZ4 : Hid ((cs3.setIfInBounds 28 (.slice D28 n28 d28)).size = 56) := (by show _ = _; rw [Array.size_setIfInBounds]; exact HZ3.out)
  generalize cs3.setIfInBounds 28 (.slice D28 n28 d28) = cs4 at *
  have HS4 : Hid (∀ o, o ∉ ([6, 18, 27, 28] : List Nat) → cs4[o]? = cs[o]?) := fun o h => by
    rw [hN, if_neg (fun e => h (by rw [e]; decide))]
    exact HS3.out o (fun h' => h (by simp only [List.mem_cons, List.not_mem_nil, or_false] at h' ⊢; omega))
  have HD28 : Hid (n28 ≤ d28 ∧ d28 ≤ 9223372036854775807) := ⟨hd28, by simpa [maxLen] using hm28⟩
  have HV28_4 : Hid (cs4[28]? = some (.slice D28 n28 d28)) := (by show _ = _; rw [hN, if_pos rfl])
  have HV6_4 : Hid (cs4[6]? = some (.slice D6 n6 d6)) := (by show _ = _; rw [hN, if_neg (by decide)]; exact HV6_3.out)
  have HV18_4 : Hid (cs4[18]? = some (.slice D18 n18 d18)) := (by show _ = _; rw [hN, if_neg (by decide)]; exact HV18_3.out)
  have HV27_4 : Hid (cs4[27]? = some (.slice D27 n27 d27)) := (by show _ = _; rw [hN, if_neg (by decide)]; exact HV27_3.out)
  have HBX : Hid (w.heap.size + 2 ≤ y2.heap.size) := (by have h := HX3.out; rw [HSX.out] at h; exact h)
  have HO28_4 : Hid (KpO (y3.setCell ⟨w.heap.size, 28, none⟩ (.slice D28 n28 d28)) (w.heap.size + 2) D28 P.k) := by
    have h := hown
    rw [← HR28.out, ← HL28.out] at h
    exact (KpO.own (base_le h HBX.out)).mod hm1 fun k h1 h2 e => by omega
  have HO6_4 : Hid (TxO (y3.setCell ⟨w.heap.size, 28, none⟩ (.slice D28 n28 d28)) (w.heap.size + 2) (y3.setCell ⟨w.heap.size, 28, none⟩ (.slice D28 n28 d28)).heap.size D6 (P.t 6)) := by
    have hq := HO6_3.out.mod hmM fun k h1 h2 e => by omega
    exact ⟨hq.1, fun ad ea => by obtain ⟨a1, a2, a3, a4, a5, a6⟩ := hq.2 ad ea; exact ⟨a1, a2, a3, a5, a5, a6⟩⟩
  have HO18_4 : Hid (TxO (y3.setCell ⟨w.heap.size, 28, none⟩ (.slice D28 n28 d28)) (w.heap.size + 2) (y3.setCell ⟨w.heap.size, 28, none⟩ (.slice D28 n28 d28)).heap.size D18 (P.t 18)) := by
    have hq := HO18_3.out.mod hmM fun k h1 h2 e => by omega
    exact ⟨hq.1, fun ad ea => by obtain ⟨a1, a2, a3, a4, a5, a6⟩ := hq.2 ad ea; exact ⟨a1, a2, a3, a5, a5, a6⟩⟩
  have HO27_4 : Hid (TxO (y3.setCell ⟨w.heap.size, 28, none⟩ (.slice D28 n28 d28)) (w.heap.size + 2) (y3.setCell ⟨w.heap.size, 28, none⟩ (.slice D28 n28 d28)).heap.size D27 (P.t 27)) := by
    have hq := HO27_3.out.mod hmM fun k h1 h2 e => by omega
    exact ⟨hq.1, fun ad ea => by obtain ⟨a1, a2, a3, a4, a5, a6⟩ := hq.2 ad ea; exact ⟨a1, a2, a3, a5, a5, a6⟩⟩
  have cn3 := hBn.cell 28
  have fn3 := hBn.free 28
  rw [Array.getElem?_eq_getElem (by rw [HZ3.out]; omega)] at cn3
  generalize cs3[28]'_ = u28 at cn3
  clear HSX HBX hN hown hbn hBn hmM hm1 hd28 hm28 HX3 HT3 HG3 HB3 HZ3 HS3 HO6_3 HV6_3 HO18_3 HV18_3 HO27_3 HV27_3
  obtain ⟨A37, c37, e37, hy37, _, _, hl37⟩ := HP.out.txts 37 (by decide)
  have hy := Reads.alloc (Reads.below hy37 HT4.out) (.cells #[] 5)
  have hsx : ((y3.setCell ⟨w.heap.size, 28, none⟩ (.slice D28 n28 d28))).heap.size = y3.heap.size := by simp
  have hw : (((y3.setCell ⟨w.heap.size, 28, none⟩ (.slice D28 n28 d28))).alloc (.cells #[] 5)).ownsRow y3.heap.size 5 1 (.slice (some ⟨y3.heap.size, 0, none⟩) 0 0) 0 [] := by
    have h := World.ownsRow_made ((y3.setCell ⟨w.heap.size, 28, none⟩ (.slice D28 n28 d28))) #[] 0 (base := ((y3.setCell ⟨w.heap.size, 28, none⟩ (.slice D28 n28 d28))).heap.size) (e := 5) (size := 1) (Nat.le_refl _) (by simp [maxLen]) rfl
    rw [hsx] at h; exact h
  have HSX := Lib.hid hsx
  clear hsx
  have e' : cs4[37]? = some (.slice A37 (P.t 37).length c37) := (HS4.out 37 (by decide)).trans e37
  have cc := ((HB4.out.alloc (.cells #[] 5)).cell 37).trans e'
  have h1 := bv_one (P.t 37)
  generalize hrow : (P.t 37).map bv = r at hy h1
  generalize hlen : (P.t 37).length = n37 at *
  have HR37 := Lib.hid hrow
  have HL37 := Lib.hid hlen
  clear hrow hlen e37 e' hy37
  go_wp2_with (at_builtin; refine app_list bytes_ty rfl rfl hw rfl hy rfl h1 (by omega) (by simp) ?_; intro v y4 hown hg2 _; refine Hid.out ?_)
  refine Lib.hid ?_
  have hbn : Below ((y3.setCell ⟨w.heap.size, 28, none⟩ (.slice D28 n28 d28))).heap.size ((y3.setCell ⟨w.heap.size, 28, none⟩ (.slice D28 n28 d28))) y4 := (below_new _ _).grown hg2 (by simp) (fun k hk => by rw [HSX.out]; exact own_ge hw k hk)
  clear hg2 hw hy h1 cc hl37 cn3 fn3
  simp only [Nat.zero_add, List.nil_append] at hown
  obtain ⟨D37, d37, rfl, hd37, hm37⟩ := own_slice hown
  have hBn := HB4.out.below hbn HB4.out.lt
  have hmM : Mod (fun b => b = w.heap.size) ((y3.setCell ⟨w.heap.size, 28, none⟩ (.slice D28 n28 d28))) (y4.setCell ⟨w.heap.size, 37, none⟩ (.slice D37 n37 d37)) := Mod.set (S := fun b => b = w.heap.size) (Mod.below hbn (Nat.le_refl _)) (p := ⟨w.heap.size, 37, none⟩) (fun _ => rfl) _
  have hm1 : Mod (fun b => b = w.heap.size) y4 (y4.setCell ⟨w.heap.size, 37, none⟩ (.slice D37 n37 d37)) := Mod.set (S := fun b => b = w.heap.size) (Mod.refl _ _) (p := ⟨w.heap.size, 37, none⟩) (fun _ => rfl) _
  have HX5 : Hid (w.heap.size + 2 ≤ (y4.setCell ⟨w.heap.size, 37, none⟩ (.slice D37 n37 d37)).heap.size) := Nat.le_trans HX4.out hmM.size
  have HT5 : Hid (Below w.heap.size w (y4.setCell ⟨w.heap.size, 37, none⟩ (.slice D37 n37 d37))) := HT4.out.trans (hmM.to_below HT4.out.size fun b hb e => by omega)
  have HG5 := Lib.hid (HG4.out.mod hmM fun e => by have := HGL.out.1; omega)
  have HB5 := Lib.hid (hBn.put 37 (.slice D37 n37 d37))
  have hN : ∀ o, (cs4.setIfInBounds 37 (.slice D37 n37 d37))[o]? = if o = 37 then some (.slice D37 n37 d37) else cs4[o]? := fun o => set_get (by rw [HZ4.out]; omega)
  have HZ5 : Hid ((cs4.setIfInBounds 37 (.slice D37 n37 d37)).size = 56) := (by show _ = _; rw [Array.size_setIfInBounds]; exact HZ4.out)
  generalize cs4.setIfInBounds 37 (.slice D37 n37 d37) = cs5 at *
  have HS5 : Hid (∀ o, o ∉ ([6, 18, 27, 28, 37] : List Nat) → cs5[o]? = cs[o]?) := fun o h => by
    rw [hN, if_neg (fun e => h (by rw [e]; decide))]
    exact HS4.out o (fun h' => h (by simp only [List.mem_cons, List.not_mem_nil, or_false] at h' ⊢; omega))
  have HD37 : Hid (n37 ≤ d37 ∧ d37 ≤ 9223372036854775807) := ⟨hd37, by simpa [maxLen] using hm37⟩
  have HV37_5 : Hid (cs5[37]? = some (.slice D37 n37 d37)) := (by show _ = _; rw [hN, if_pos rfl])
  have HV6_5 : Hid (cs5[6]? = some (.slice D6 n6 d6)) := (by show _ = _; rw [hN, if_neg (by decide)]; exact HV6_4.out)
  have HV18_5 : Hid (cs5[18]? = some (.slice D18 n18 d18)) := (by show _ = _; rw [hN, if_neg (by decide)]; exact HV18_4.out)
  have HV27_5 : Hid (cs5[27]? = some (.slice D27 n27 d27)) := (by show _ = _; rw [hN, if_neg (by decide)]; exact HV27_4.out)
  have HV28_5 : Hid (cs5[28]? = some (.slice D28 n28 d28)) := (by show _ = _; rw [hN, if_neg (by decide)]; exact HV28_4.out)
  have HBX : Hid (w.heap.size + 2 ≤ y3.heap.size) := (by have h := HX4.out; rw [HSX.out] at h; exact h)
  have HO37_5 : Hid (TxO (y4.setCell ⟨w.heap.size, 37, none⟩ (.slice D37 n37 d37)) (w.heap.size + 2) (y4.setCell ⟨w.heap.size, 37, none⟩ (.slice D37 n37 d37)).heap.size D37 (P.t 37)) := by
    have h := hown
    rw [← HR37.out, ← HL37.out] at h
    have hq := (TxO.own (base_le h HBX.out) (Nat.le_refl _)).mod hm1 fun k h1 h2 e => by omega
    exact ⟨hq.1, fun ad ea => by obtain ⟨a1, a2, a3, a4, a5, a6⟩ := hq.2 ad ea; exact ⟨a1, a2, a3, a5, a5, a6⟩⟩
  have HO6_5 : Hid (TxO (y4.setCell ⟨w.heap.size, 37, none⟩ (.slice D37 n37 d37)) (w.heap.size + 2) (y4.setCell ⟨w.heap.size, 37, none⟩ (.slice D37 n37 d37)).heap.size D6 (P.t 6)) := by
    have hq := HO6_4.out.mod hmM fun k h1 h2 e => by omega
    exact ⟨hq.1, fun ad ea => by obtain ⟨a1, a2, a3, a4, a5, a6⟩ := hq.2 ad ea; exact ⟨a1, a2, a3, a5, a5, a6⟩⟩
  have HO18_5 : Hid (TxO (y4.setCell ⟨w.heap.size, 37, none⟩ (.slice D37 n37 d37)) (w.heap.size + 2) (y4.setCell ⟨w.heap.size, 37, none⟩ (.slice D37 n37 d37)).heap.size D18 (P.t 18)) := by
    have hq := HO18_4.out.mod hmM fun k h1 h2 e => by omega
    exact ⟨hq.1, fun ad ea => by obtain ⟨a1, a2, a3, a4, a5, a6⟩ := hq.2 ad ea; exact ⟨a1, a2, a3, a5, a5, a6⟩⟩
  have HO27_5 : Hid (TxO (y4.setCell ⟨w.heap.size, 37, none⟩ (.slice D37 n37 d37)) (w.heap.size + 2) (y4.setCell ⟨w.heap.size, 37, none⟩ (.slice D37 n37 d37)).heap.size D27 (P.t 27)) := by
    have hq := HO27_4.out.mod hmM fun k h1 h2 e => by omega
    exact ⟨hq.1, fun ad ea => by obtain ⟨a1, a2, a3, a4, a5, a6⟩ := hq.2 ad ea; exact ⟨a1, a2, a3, a5, a5, a6⟩⟩
  have HO28_5 := Lib.hid (HO28_4.out.mod hmM fun k h1 h2 e => by omega)
  have cn4 := hBn.cell 37
  have fn4 := hBn.free 37
  rw [Array.getElem?_eq_getElem (by rw [HZ4.out]; omega)] at cn4
  generalize cs4[37]'_ = u37 at cn4
  clear HSX HBX hN hown hbn hBn hmM hm1 hd37 hm37 HX4 HT4 HG4 HB4 HZ4 HS4 HO6_4 HV6_4 HO18_4 HV18_4 HO27_4 HV27_4 HO28_4 HV28_4
  obtain ⟨A46, c46, e46, hy46, _, _, hl46⟩ := HP.out.txts 46 (by decide)
  have hy := Reads.alloc (Reads.below hy46 HT5.out) (.cells #[] 5)
  have hsx : ((y4.setCell ⟨w.heap.size, 37, none⟩ (.slice D37 n37 d37))).heap.size = y4.heap.size := by simp
  have hw : (((y4.setCell ⟨w.heap.size, 37, none⟩ (.slice D37 n37 d37))).alloc (.cells #[] 5)).ownsRow y4.heap.size 5 1 (.slice (some ⟨y4.heap.size, 0, none⟩) 0 0) 0 [] := by
    have h := World.ownsRow_made ((y4.setCell ⟨w.heap.size, 37, none⟩ (.slice D37 n37 d37))) #[] 0 (base := ((y4.setCell ⟨w.heap.size, 37, none⟩ (.slice D37 n37 d37))).heap.size) (e := 5) (size := 1) (Nat.le_refl _) (by simp [maxLen]) rfl
    rw [hsx] at h; exact h
  have HSX := Lib.hid hsx
  clear hsx
  have e' : cs5[46]? = some (.slice A46 (P.t 46).length c46) := (HS5.out 46 (by decide)).trans e46
  have cc := ((HB5.out.alloc (.cells #[] 5)).cell 46).trans e'
  have h1 := bv_one (P.t 46)
  generalize hrow : (P.t 46).map bv = r at hy h1
  generalize hlen : (P.t 46).length = n46 at *
  have HR46 := Lib.hid hrow
  have HL46 := Lib.hid hlen
  clear hrow hlen e46 e' hy46
  go_wp2_with (at_builtin; refine app_list bytes_ty rfl rfl hw rfl hy rfl h1 (by omega) (by simp) ?_; intro v y5 hown hg2 _; refine Hid.out ?_)
  refine Lib.hid ?_
  have hbn : Below ((y4.setCell ⟨w.heap.size, 37, none⟩ (.slice D37 n37 d37))).heap.size ((y4.setCell ⟨w.heap.size, 37, none⟩ (.slice D37 n37 d37))) y5 := (below_new _ _).grown hg2 (by simp) (fun k hk => by rw [HSX.out]; exact own_ge hw k hk)
  clear hg2 hw hy h1 cc hl46 cn4 fn4
  simp only [Nat.zero_add, List.nil_append] at hown
  obtain ⟨D46, d46, rfl, hd46, hm46⟩ := own_slice hown
  have hBn := HB5.out.below hbn HB5.out.lt
  have hmM : Mod (fun b => b = w.heap.size) ((y4.setCell ⟨w.heap.size, 37, none⟩ (.slice D37 n37 d37))) (y5.setCell ⟨w.heap.size, 46, none⟩ (.slice D46 n46 d46)) := Mod.set (S := fun b => b = w.heap.size) (Mod.below hbn (Nat.le_refl _)) (p := ⟨w.heap.size, 46, none⟩) (fun _ => rfl) _
  have hm1 : Mod (fun b => b = w.heap.size) y5 (y5.setCell ⟨w.heap.size, 46, none⟩ (.slice D46 n46 d46)) := Mod.set (S := fun b => b = w.heap.size) (Mod.refl _ _) (p := ⟨w.heap.size, 46, none⟩) (fun _ => rfl) _
  have HX6 : Hid (w.heap.size + 2 ≤ (y5.setCell ⟨w.heap.size, 46, none⟩ (.slice D46 n46 d46)).heap.size) := Nat.le_trans HX5.out hmM.size
  have HT6 : Hid (Below w.heap.size w (y5.setCell ⟨w.heap.size, 46, none⟩ (.slice D46 n46 d46))) := HT5.out.trans (hmM.to_below HT5.out.size fun b hb e => by omega)
  have HG6 := Lib.hid (HG5.out.mod hmM fun e => by have := HGL.out.1; omega)
  have HB6 := Lib.hid (hBn.put 46 (.slice D46 n46 d46))
  have hN : ∀ o, (cs5.setIfInBounds 46 (.slice D46 n46 d46))[o]? = if o = 46 then some (.slice D46 n46 d46) else cs5[o]? := fun o => set_get (by rw [HZ5.out]; omega)
  have HZ6 : Hid ((cs5.setIfInBounds 46 (.slice D46 n46 d46)).size = 56) := (by show _ = _; rw [Array.size_setIfInBounds]; exact HZ5.out)
  generalize cs5.setIfInBounds 46 (.slice D46 n46 d46) = cs6 at *
  have HS6 : Hid (∀ o, o ∉ ([6, 18, 27, 28, 37, 46] : List Nat) → cs6[o]? = cs[o]?) := fun o h => by
    rw [hN, if_neg (fun e => h (by rw [e]; decide))]
    exact HS5.out o (fun h' => h (by simp only [List.mem_cons, List.not_mem_nil, or_false] at h' ⊢; omega))
  have HD46 : Hid (n46 ≤ d46 ∧ d46 ≤ 9223372036854775807) := ⟨hd46, by simpa [maxLen] using hm46⟩
  have HV46_6 : Hid (cs6[46]? = some (.slice D46 n46 d46)) := (by show _ = _; rw [hN, if_pos rfl])
  have HV6_6 : Hid (cs6[6]? = some (.slice D6 n6 d6)) := (by show _ = _; rw [hN, if_neg (by decide)]; exact HV6_5.out)
  have HV18_6 : Hid (cs6[18]? = some (.slice D18 n18 d18)) := (by show _ = _; rw [hN, if_neg (by decide)]; exact HV18_5.out)
  have HV27_6 : Hid (cs6[27]? = some (.slice D27 n27 d27)) := (by show _ = _; rw [hN, if_neg (by decide)]; exact HV27_5.out)
  have HV28_6 : Hid (cs6[28]? = some (.slice D28 n28 d28)) := (by show _ = _; rw [hN, if_neg (by decide)]; exact HV28_5.out)
  have HV37_6 : Hid (cs6[37]? = some (.slice D37 n37 d37)) := (by show _ = _; rw [hN, if_neg (by decide)]; exact HV37_5.out)
  have HBX : Hid (w.heap.size + 2 ≤ y4.heap.size) := (by have h := HX5.out; rw [HSX.out] at h; exact h)
  have HO46_6 : Hid (TxO (y5.setCell ⟨w.heap.size, 46, none⟩ (.slice D46 n46 d46)) (w.heap.size + 2) (y5.setCell ⟨w.heap.size, 46, none⟩ (.slice D46 n46 d46)).heap.size D46 (P.t 46)) := by
    have h := hown
    rw [← HR46.out, ← HL46.out] at h
    have hq := (TxO.own (base_le h HBX.out) (Nat.le_refl _)).mod hm1 fun k h1 h2 e => by omega
    exact ⟨hq.1, fun ad ea => by obtain ⟨a1, a2, a3, a4, a5, a6⟩ := hq.2 ad ea; exact ⟨a1, a2, a3, a5, a5, a6⟩⟩
  have HO6_6 : Hid (TxO (y5.setCell ⟨w.heap.size, 46, none⟩ (.slice D46 n46 d46)) (w.heap.size + 2) (y5.setCell ⟨w.heap.size, 46, none⟩ (.slice D46 n46 d46)).heap.size D6 (P.t 6)) := by
    have hq := HO6_5.out.mod hmM fun k h1 h2 e => by omega
    exact ⟨hq.1, fun ad ea => by obtain ⟨a1, a2, a3, a4, a5, a6⟩ := hq.2 ad ea; exact ⟨a1, a2, a3, a5, a5, a6⟩⟩
  have HO18_6 : Hid (TxO (y5.setCell ⟨w.heap.size, 46, none⟩ (.slice D46 n46 d46)) (w.heap.size + 2) (y5.setCell ⟨w.heap.size, 46, none⟩ (.slice D46 n46 d46)).heap.size D18 (P.t 18)) := by
    have hq := HO18_5.out.mod hmM fun k h1 h2 e => by omega
    exact ⟨hq.1, fun ad ea => by obtain ⟨a1, a2, a3, a4, a5, a6⟩ := hq.2 ad ea; exact ⟨a1, a2, a3, a5, a5, a6⟩⟩
  have HO27_6 : Hid (TxO (y5.setCell ⟨w.heap.size, 46, none⟩ (.slice D46 n46 d46)) (w.heap.size + 2) (y5.setCell ⟨w.heap.size, 46, none⟩ (.slice D46 n46 d46)).heap.size D27 (P.t 27)) := by
    have hq := HO27_5.out.mod hmM fun k h1 h2 e => by omega
    exact ⟨hq.1, fun ad ea => by obtain ⟨a1, a2, a3, a4, a5, a6⟩ := hq.2 ad ea; exact ⟨a1, a2, a3, a5, a5, a6⟩⟩
  have HO28_6 := Lib.hid (HO28_5.out.mod hmM fun k h1 h2 e => by omega)
  have HO37_6 : Hid (TxO (y5.setCell ⟨w.heap.size, 46, none⟩ (.slice D46 n46 d46)) (w.heap.size + 2) (y5.setCell ⟨w.heap.size, 46, none⟩ (.slice D46 n46 d46)).heap.size D37 (P.t 37)) := by
    have hq := HO37_5.out.mod hmM fun k h1 h2 e => by omega
    exact ⟨hq.1, fun ad ea => by obtain ⟨a1, a2, a3, a4, a5, a6⟩ := hq.2 ad ea; exact ⟨a1, a2, a3, a5, a5, a6⟩⟩
  have cn5 := hBn.cell 46
  have fn5 := hBn.free 46
  rw [Array.getElem?_eq_getElem (by rw [HZ5.out]; omega)] at cn5
  generalize cs5[46]'_ = u46 at cn5
  clear HSX HBX hN hown hbn hBn hmM hm1 hd46 hm46 HX5 HT5 HG5 HB5 HZ5 HS5 HO6_5 HV6_5 HO18_5 HV18_5 HO27_5 HV27_5 HO28_5 HV28_5 HO37_5 HV37_5
  obtain ⟨A55, c55, e55, hy55, _, _, hl55⟩ := HP.out.txts 55 (by decide)
  have hy := Reads.alloc (Reads.below hy55 HT6.out) (.cells #[] 5)
  have hsx : ((y5.setCell ⟨w.heap.size, 46, none⟩ (.slice D46 n46 d46))).heap.size = y5.heap.size := by simp
  have hw : (((y5.setCell ⟨w.heap.size, 46, none⟩ (.slice D46 n46 d46))).alloc (.cells #[] 5)).ownsRow y5.heap.size 5 1 (.slice (some ⟨y5.heap.size, 0, none⟩) 0 0) 0 [] := by
    have h := World.ownsRow_made ((y5.setCell ⟨w.heap.size, 46, none⟩ (.slice D46 n46 d46))) #[] 0 (base := ((y5.setCell ⟨w.heap.size, 46, none⟩ (.slice D46 n46 d46))).heap.size) (e := 5) (size := 1) (Nat.le_refl _) (by simp [maxLen]) rfl
    rw [hsx] at h; exact h
  have HSX := Lib.hid hsx
  clear hsx
  have e' : cs6[55]? = some (.slice A55 (P.t 55).length c55) := (HS6.out 55 (by decide)).trans e55
  have cc := ((HB6.out.alloc (.cells #[] 5)).cell 55).trans e'
  have h1 := bv_one (P.t 55)
  generalize hrow : (P.t 55).map bv = r at hy h1
  generalize hlen : (P.t 55).length = n55 at *
  have HR55 := Lib.hid hrow
  have HL55 := Lib.hid hlen
  clear hrow hlen e55 e' hy55
  go_wp2_with (at_builtin; refine app_list bytes_ty rfl rfl hw rfl hy rfl h1 (by omega) (by simp) ?_; intro v y6 hown hg2 _; refine Hid.out ?_)
  refine Lib.hid ?_
  have hbn : Below ((y5.setCell ⟨w.heap.size, 46, none⟩ (.slice D46 n46 d46))).heap.size ((y5.setCell ⟨w.heap.size, 46, none⟩ (.slice D46 n46 d46))) y6 := (below_new _ _).grown hg2 (by simp) (fun k hk => by rw [HSX.out]; exact own_ge hw k hk)
  clear hg2 hw hy h1 cc hl55 cn5 fn5
  simp only [Nat.zero_add, List.nil_append] at hown
  obtain ⟨D55, d55, rfl, hd55, hm55⟩ := own_slice hown
  have hBn := HB6.out.below hbn HB6.out.lt
  have hmM : Mod (fun b => b = w.heap.size) ((y5.setCell ⟨w.heap.size, 46, none⟩ (.slice D46 n46 d46))) (y6.setCell ⟨w.heap.size, 55, none⟩ (.slice D55 n55 d55)) := Mod.set (S := fun b => b = w.heap.size) (Mod.below hbn (Nat.le_refl _)) (p := ⟨w.heap.size, 55, none⟩) (fun _ => rfl) _
  have hm1 : Mod (fun b => b = w.heap.size) y6 (y6.setCell ⟨w.heap.size, 55, none⟩ (.slice D55 n55 d55)) := Mod.set (S := fun b => b = w.heap.size) (Mod.refl _ _) (p := ⟨w.heap.size, 55, none⟩) (fun _ => rfl) _
  have HX7 : Hid (w.heap.size + 2 ≤ (y6.setCell ⟨w.heap.size, 55, none⟩ (.slice D55 n55 d55)).heap.size) := Nat.le_trans HX6.out hmM.size
  have HT7 : Hid (Below w.heap.size w (y6.setCell ⟨w.heap.size, 55, none⟩ (.slice D55 n55 d55))) := HT6.out.trans (hmM.to_below HT6.out.size fun b hb e => by omega)
  have HG7 := Lib.hid (HG6.out.mod hmM fun e => by have := HGL.out.1; omega)
  have HB7 := Lib.hid (hBn.put 55 (.slice D55 n55 d55))
  have hN : ∀ o, (cs6.setIfInBounds 55 (.slice D55 n55 d55))[o]? = if o = 55 then some (.slice D55 n55 d55) else cs6[o]? := fun o => set_get (by rw [HZ6.out]; omega)
  have HZ7 : Hid ((cs6.setIfInBounds 55 (.slice D55 n55 d55)).size = 56) := (by show _ = _; rw [Array.size_setIfInBounds]; exact HZ6.out)
  generalize cs6.setIfInBounds 55 (.slice D55 n55 d55) = cs7 at *
  have HS7 : Hid (∀ o, o ∉ ([6, 18, 27, 28, 37, 46, 55] : List Nat) → cs7[o]? = cs[o]?) := fun o h => by
    rw [hN, if_neg (fun e => h (by rw [e]; decide))]
    exact HS6.out o (fun h' => h (by simp only [List.mem_cons, List.not_mem_nil, or_false] at h' ⊢; omega))
  have HD55 : Hid (n55 ≤ d55 ∧ d55 ≤ 9223372036854775807) := ⟨hd55, by simpa [maxLen] using hm55⟩
  have HV55_7 : Hid (cs7[55]? = some (.slice D55 n55 d55)) := (by show _ = _; rw [hN, if_pos rfl])
  have HV6_7 : Hid (cs7[6]? = some (.slice D6 n6 d6)) := (by show _ = _; rw [hN, if_neg (by decide)]; exact HV6_6.out)
  have HV18_7 : Hid (cs7[18]? = some (.slice D18 n18 d18)) := (by show _ = _; rw [hN, if_neg (by decide)]; exact HV18_6.out)
  have HV27_7 : Hid (cs7[27]? = some (.slice D27 n27 d27)) := (by show _ = _; rw [hN, if_neg (by decide)]; exact HV27_6.out)
  have HV28_7 : Hid (cs7[28]? = some (.slice D28 n28 d28)) := (by show _ = _; rw [hN, if_neg (by decide)]; exact HV28_6.out)
  have HV37_7 : Hid (cs7[37]? = some (.slice D37 n37 d37)) := (by show _ = _; rw [hN, if_neg (by decide)]; exact HV37_6.out)
  have HV46_7 : Hid (cs7[46]? = some (.slice D46 n46 d46)) := (by show _ = _; rw [hN, if_neg (by decide)]; exact HV46_6.out)
  have HBX : Hid (w.heap.size + 2 ≤ y5.heap.size) := (by have h := HX6.out; rw [HSX.out] at h; exact h)
  have HO55_7 : Hid (TxO (y6.setCell ⟨w.heap.size, 55, none⟩ (.slice D55 n55 d55)) (w.heap.size + 2) (y6.setCell ⟨w.heap.size, 55, none⟩ (.slice D55 n55 d55)).heap.size D55 (P.t 55)) := by
    have h := hown
    rw [← HR55.out, ← HL55.out] at h
    have hq := (TxO.own (base_le h HBX.out) (Nat.le_refl _)).mod hm1 fun k h1 h2 e => by omega
    exact ⟨hq.1, fun ad ea => by obtain ⟨a1, a2, a3, a4, a5, a6⟩ := hq.2 ad ea; exact ⟨a1, a2, a3, a5, a5, a6⟩⟩
  have HO6_7 : Hid (TxO (y6.setCell ⟨w.heap.size, 55, none⟩ (.slice D55 n55 d55)) (w.heap.size + 2) (y6.setCell ⟨w.heap.size, 55, none⟩ (.slice D55 n55 d55)).heap.size D6 (P.t 6)) := by
    have hq := HO6_6.out.mod hmM fun k h1 h2 e => by omega
    exact ⟨hq.1, fun ad ea => by obtain ⟨a1, a2, a3, a4, a5, a6⟩ := hq.2 ad ea; exact ⟨a1, a2, a3, a5, a5, a6⟩⟩
  have HO18_7 : Hid (TxO (y6.setCell ⟨w.heap.size, 55, none⟩ (.slice D55 n55 d55)) (w.heap.size + 2) (y6.setCell ⟨w.heap.size, 55, none⟩ (.slice D55 n55 d55)).heap.size D18 (P.t 18)) := by
    have hq := HO18_6.out.mod hmM fun k h1 h2 e => by omega
    exact ⟨hq.1, fun ad ea => by obtain ⟨a1, a2, a3, a4, a5, a6⟩ := hq.2 ad ea; exact ⟨a1, a2, a3, a5, a5, a6⟩⟩
  have HO27_7 : Hid (TxO (y6.setCell ⟨w.heap.size, 55, none⟩ (.slice D55 n55 d55)) (w.heap.size + 2) (y6.setCell ⟨w.heap.size, 55, none⟩ (.slice D55 n55 d55)).heap.size D27 (P.t 27)) := by
    have hq := HO27_6.out.mod hmM fun k h1 h2 e => by omega
    exact ⟨hq.1, fun ad ea => by obtain ⟨a1, a2, a3, a4, a5, a6⟩ := hq.2 ad ea; exact ⟨a1, a2, a3, a5, a5, a6⟩⟩
  have HO28_7 := Lib.hid (HO28_6.out.mod hmM fun k h1 h2 e => by omega)
  have HO37_7 : Hid (TxO (y6.setCell ⟨w.heap.size, 55, none⟩ (.slice D55 n55 d55)) (w.heap.size + 2) (y6.setCell ⟨w.heap.size, 55, none⟩ (.slice D55 n55 d55)).heap.size D37 (P.t 37)) := by
    have hq := HO37_6.out.mod hmM fun k h1 h2 e => by omega
    exact ⟨hq.1, fun ad ea => by obtain ⟨a1, a2, a3, a4, a5, a6⟩ := hq.2 ad ea; exact ⟨a1, a2, a3, a5, a5, a6⟩⟩
  have HO46_7 : Hid (TxO (y6.setCell ⟨w.heap.size, 55, none⟩ (.slice D55 n55 d55)) (w.heap.size + 2) (y6.setCell ⟨w.heap.size, 55, none⟩ (.slice D55 n55 d55)).heap.size D46 (P.t 46)) := by
    have hq := HO46_6.out.mod hmM fun k h1 h2 e => by omega
    exact ⟨hq.1, fun ad ea => by obtain ⟨a1, a2, a3, a4, a5, a6⟩ := hq.2 ad ea; exact ⟨a1, a2, a3, a5, a5, a6⟩⟩
  have cn6 := hBn.cell 55
  have fn6 := hBn.free 55
  rw [Array.getElem?_eq_getElem (by rw [HZ6.out]; omega)] at cn6
  generalize cs6[55]'_ = u55 at cn6
  clear HSX HBX hN hown hbn hBn hmM hm1 hd55 hm55 HX6 HT6 HG6 HB6 HZ6 HS6 HO6_6 HV6_6 HO18_6 HV18_6 HO27_6 HV27_6 HO28_6 HV28_6 HO37_6 HV37_6 HO46_6 HV46_6
  go_wp2_with (refine wpList_load_blk rfl (ty := 44) rfl rfl HB7.out Tryd.underlying44 rfl (pk_size HZ7.out) ?_; refine Hid.out ?_)
  refine Lib.hid ?_
  clear cn6 fn6
  have HF : Hid (PkV (y6.setCell ⟨w.heap.size, 55, none⟩ (.slice D55 n55 d55)) cs7 P) := by
    refine HP.out.of_own HZ7.out (fun o h1 h2 => HS7.out o fun h => ?_) (fun o ho => ?_) ?_
    · simp only [List.mem_cons, List.not_mem_nil, or_false] at h
      rcases h with rfl | rfl | rfl | rfl | rfl | rfl | rfl
      all_goals first | exact h2 rfl | exact h1 (by decide)
    · simp only [txtOffs, List.mem_cons, List.not_mem_nil, or_false] at ho
      rcases ho with rfl | rfl | rfl | rfl | rfl | rfl
      · exact ⟨D6, d6, by rw [HL6.out]; exact HV6_7.out, by rw [HL6.out]; exact HD6.out.1, HD6.out.2, HO6_7.out.1⟩
      · exact ⟨D18, d18, by rw [HL18.out]; exact HV18_7.out, by rw [HL18.out]; exact HD18.out.1, HD18.out.2, HO18_7.out.1⟩
      · exact ⟨D27, d27, by rw [HL27.out]; exact HV27_7.out, by rw [HL27.out]; exact HD27.out.1, HD27.out.2, HO27_7.out.1⟩
      · exact ⟨D37, d37, by rw [HL37.out]; exact HV37_7.out, by rw [HL37.out]; exact HD37.out.1, HD37.out.2, HO37_7.out.1⟩
      · exact ⟨D46, d46, by rw [HL46.out]; exact HV46_7.out, by rw [HL46.out]; exact HD46.out.1, HD46.out.2, HO46_7.out.1⟩
      · exact ⟨D55, d55, by rw [HL55.out]; exact HV55_7.out, by rw [HL55.out]; exact HD55.out.1, HD55.out.2, HO55_7.out.1⟩
    · exact ⟨D28, d28, by rw [HL28.out]; exact HV28_7.out, by rw [HL28.out]; exact HD28.out.1, HD28.out.2, HO28_7.out.1, fun ad ea => (HO28_7.out.2 ad ea).2.2.2.1⟩
  go_wp2_with (refine wpList_store_blk rfl rfl rfl rfl HG7.out (by rw [HZ7.out]; rfl) (pk_size HZ7.out) HF.out.one ?_; rintro w5 hB5 hm5; refine Hid.out ?_)
  refine Lib.hid ?_
  go_wp2_with fail
  refine bodyPost_ret (v := .agg cs7) (results_blk Tryd.results16 _ hB5 rfl Tryd.underlying44 rfl (pk_size HZ7.out)) rfl ?_
  have hgl := HGL.out
  have HW : Below w.heap.size w w5 := HT7.out.trans (hm5.to_below HT7.out.size fun b hb e => by omega)
  refine ⟨⟨cs7, rfl, HP.out.of_own HZ7.out (fun o h1 h2 => HS7.out o fun h => ?_) (fun o ho => ?_) ?_⟩, HW⟩
  · simp only [List.mem_cons, List.not_mem_nil, or_false] at h
    rcases h with rfl | rfl | rfl | rfl | rfl | rfl | rfl
    all_goals first | exact h2 rfl | exact h1 (by decide)
  · simp only [txtOffs, List.mem_cons, List.not_mem_nil, or_false] at ho
    rcases ho with rfl | rfl | rfl | rfl | rfl | rfl
    · exact ⟨D6, d6, by rw [HL6.out]; exact HV6_7.out, by rw [HL6.out]; exact HD6.out.1, HD6.out.2, (HO6_7.out.mod hm5 fun k h1 h2 e => by omega).1⟩
    · exact ⟨D18, d18, by rw [HL18.out]; exact HV18_7.out, by rw [HL18.out]; exact HD18.out.1, HD18.out.2, (HO18_7.out.mod hm5 fun k h1 h2 e => by omega).1⟩
    · exact ⟨D27, d27, by rw [HL27.out]; exact HV27_7.out, by rw [HL27.out]; exact HD27.out.1, HD27.out.2, (HO27_7.out.mod hm5 fun k h1 h2 e => by omega).1⟩
    · exact ⟨D37, d37, by rw [HL37.out]; exact HV37_7.out, by rw [HL37.out]; exact HD37.out.1, HD37.out.2, (HO37_7.out.mod hm5 fun k h1 h2 e => by omega).1⟩
    · exact ⟨D46, d46, by rw [HL46.out]; exact HV46_7.out, by rw [HL46.out]; exact HD46.out.1, HD46.out.2, (HO46_7.out.mod hm5 fun k h1 h2 e => by omega).1⟩
    · exact ⟨D55, d55, by rw [HL55.out]; exact HV55_7.out, by rw [HL55.out]; exact HD55.out.1, HD55.out.2, (HO55_7.out.mod hm5 fun k h1 h2 e => by omega).1⟩
  · have hk := HO28_7.out.mod hm5 fun k h1 h2 e => by omega
    exact ⟨D28, d28, by rw [HL28.out]; exact HV28_7.out, by rw [HL28.out]; exact HD28.out.1, HD28.out.2, hk.1, fun ad ea => (hk.2 ad ea).2.2.2.1⟩
end Go.Proofs.YtdckdjkkaangmaaDoor
