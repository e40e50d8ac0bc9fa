/- The document's reader: Raw, Wide, digits. -/
import Derived.Test.YtcklbhplhpohpaaDoorRefB
import Derived.Test.YtcklbhplhpohpaaDoorCodeS
namespace Go.Proofs.YtcklbhplhpohpaaDoor
open Go.RowKit

/-- The document's reader in the block m has the bytes xs ahead of it; they lie in blocks from 'base' on. -/
def Rf (base : Nat) (w : World) (m : Nat) (xs : List UInt8) (f : Bool) : Prop :=
  ∃ A c, Blk w m 51 #[.slice A xs.length c, .bool f] ∧ Bytes w A xs ∧ xs.length ≤ c ∧ c ≤ 9223372036854775807 ∧ base ≤ m ∧ (∀ ad, A = some ad → base ≤ ad.block ∧ ad.block ≠ m)
theorem Rf.mod {S : Nat → Prop} {base : Nat} {w w' : World} {m : Nat} {xs : List UInt8} {f : Bool} (h : Rf base w m xs f) (hm : Mod S w w') (hS : ∀ k, base ≤ k → k < w.heap.size → ¬ S k) : Rf base w' m xs f := by
  obtain ⟨A, c, h1, h2, h3, h4, h5, h6⟩ := h
  refine ⟨A, c, h1.mod hm (hS m h5 h1.lt), ?_, h3, h4, h5, h6⟩
  rcases Nat.eq_zero_or_pos xs.length with h0 | h0
  · rw [List.eq_nil_of_length_eq_zero h0]
    exact Bytes.nil_ _ _
  · refine h2.mod hm fun ad e => ?_
    obtain ⟨g, o, e2, hg, _⟩ := Bytes.flat h2 h0
    rw [e] at e2
    injection e2 with e2
    subst e2
    exact hS _ (h6 _ e).1 hg
theorem Rf.below {base : Nat} {w w' : World} {m : Nat} {xs : List UInt8} {f : Bool} (h : Rf base w m xs f) (hb : Below w.heap.size w w') : Rf base w' m xs f := h.mod (Mod.below (S := fun _ => False) hb (Nat.le_refl _)) fun _ _ _ h => h
theorem Rf.lt {base : Nat} {w : World} {m : Nat} {xs : List UInt8} {f : Bool} (h : Rf base w m xs f) : m < w.heap.size := by
  obtain ⟨A, c, h1, _⟩ := h
  exact h1.lt
/-- It stands behind what was read. -/
def Rft (base m : Nat) (xs : List UInt8) (t : Nat × List UInt8 × Nat × Bool) (w w' : World) : Prop := Rf base w' m (xs.drop t.2.2.1) t.2.2.2 ∧ Mod (fun k => k = m) w w'
theorem getP_raw (n : Int) (xs : List UInt8) : getP 4 n xs = if 0 ≤ n ∧ n ≤ xs.length then some (0, xs.take n.toNat, n.toNat) else none := rfl
def RawPost (base m : Nat) (n : Int) (xs : List UInt8) (f : Bool) (w : World) (e : Ending) (w' : World) : Prop :=
  (∃ A c, e = .returned (.slice A (stepP 4 n xs f).2.1.length c) ∧ Bytes w' A (stepP 4 n xs f).2.1 ∧ ∀ ad, A = some ad → w.heap.size ≤ ad.block) ∧ Rft base m xs (stepP 4 n xs f) w w'
theorem raw_lost {base m : Nat} {n : Int} {xs : List UInt8} {f : Bool} {w : World} (h : Rf base w m xs f) (hs : stepP 4 n xs f = (0, [], 0, true)) : RawPost base m n xs f w (.returned (.slice none 0 0)) (w.setCell ⟨m, 1, none⟩ (.bool true)) := by
  unfold RawPost
  rw [hs]
  obtain ⟨A, c, h1, h2, h3, h4, h5, h6⟩ := h
  have hm : Mod (fun k => k = m) w (w.setCell ⟨m, 1, none⟩ (.bool true)) := (Mod.refl (fun k => k = m) w).set (p := ⟨m, 1, none⟩) (fun _ => rfl) _
  exact ⟨⟨none, 0, rfl, Bytes.nil_ _ _, fun _ e => by cases e⟩, ⟨A, c, h1.put 1 _, h2.mod hm fun ad e => (h6 ad e).2, h3, h4, h5, h6⟩, hm⟩
theorem raw_read {base m k : Nat} {xs : List UInt8} {w w2 w3 : World} {A2 A3 : Option Addr} {c2 c3 j : Nat} (h : Rf base w m xs false) (hk : k ≤ xs.length) (hbase : base ≤ w.heap.size) (hown2 : w2.ownsRow w.heap.size 5 1 (.slice A2 k c2) k ((xs.take k).map bv)) (hb2 : Below w.heap.size w w2)
    (hj : j = xs.length - k) (hown3 : w3.ownsRow w2.heap.size 5 1 (.slice A3 j c3) j ((xs.drop k).map bv)) (hb3 : Below w2.heap.size w2 w3) :
    RawPost base m (k : Int) xs false w (.returned (.slice A2 k c2)) (w3.setCell ⟨m, 0, none⟩ (.slice A3 j c3)) := by
  have hs : stepP 4 (k : Int) xs false = (0, xs.take k, k, false) := stepP_some (by rw [getP_raw, if_pos ⟨by omega, by omega⟩]; simp)
  unfold RawPost
  rw [hs]
  subst hj
  have hlt := h.lt
  obtain ⟨A, c, h1, h2, h3, h4, h5, h6⟩ := h
  have hA2 := row_at_head hown2
  have hA3 := row_at_head hown3
  have hs2 := hb2.size
  have hb := below_call hb2 hs2 hb3
  have hm : Mod (fun q => q = m) w (w3.setCell ⟨m, 0, none⟩ (.slice A3 (xs.length - k) c3)) := (Mod.below (S := fun q => q = m) hb (Nat.le_refl _)).set (p := ⟨m, 0, none⟩) (fun _ => rfl) _
  have hm3 : Mod (fun q => q = m) w3 (w3.setCell ⟨m, 0, none⟩ (.slice A3 (xs.length - k) c3)) := (Mod.refl (fun q => q = m) w3).set (p := ⟨m, 0, none⟩) (fun _ => rfl) _
  obtain ⟨_, _, e3, hc3, hc3'⟩ := own_slice hown3
  injection e3 with _ _ e3
  subst e3
  have hdl : (xs.drop k).length = xs.length - k := List.length_drop ..
  have htl : (xs.take k).length = k := by rw [List.length_take]; omega
  refine ⟨⟨A2, c2, by simp only [htl], ?_, fun ad e => (hA2 ad e).2.2.1⟩, ⟨A3, c3, ?_, ?_, by rw [hdl]; exact hc3, by simpa [maxLen] using hc3', h5, fun ad e => ?_⟩, hm⟩
  · refine (own_bytes (own_call hown2 hb3)).mod hm3 fun ad e h => ?_
    have := (hA2 ad e).2.2.1
    omega
  · have := (h1.below hb hlt).put 0 (.slice A3 (xs.length - k) c3)
    simp only
    rw [hdl]
    exact this
  · refine (own_bytes hown3).mod hm3 fun ad e h => ?_
    have := (hA3 ad e).2.2.1
    omega
  · have := (hA3 ad e).2.2.1
    exact ⟨by omega, by omega⟩
set_option maxRecDepth 100000 in
set_option maxHeartbeats 1000000 in
theorem rraw_any (base : Nat) (w : World) (m : Nat) (xs : List UInt8) (f : Bool) (n : Int) (hn1 : -9223372036854775808 ≤ n) (hn2 : n ≤ 9223372036854775807) (h : Rf base w m xs f) (hl : xs.length ≤ 140737488355328) (hbase : base ≤ w.heap.size) :
    Calls Tryd.prog 28 #[.pointer (some ⟨m, 0, none⟩), .int .i64 n] w (RawPost base m n xs f w) := by
  have H := Lib.hid h
  obtain ⟨A, c, h1, h2, h3, h4, h5, h6⟩ := h
  have c0 : w.cell? ⟨m, 0, none⟩ = some (.slice A xs.length c) := h1.cell 0
  have c1 : w.cell? ⟨m, 1, none⟩ = some (.bool f) := h1.cell 1
  have f1 : w.frozen? ⟨m, 1, none⟩ = false := h1.free 1
  have f0 : w.frozen? ⟨m, 0, none⟩ = false := h1.free 0
  have hcase : n < 0 ∨ (0 ≤ n ∧ (xs.length : Int) < n) ∨ (0 ≤ n ∧ n ≤ xs.length) := by omega
  rcases hcase with h0 | ⟨h0, hgt⟩ | ⟨h0, hle⟩
  · have hs : stepP 4 n xs f = (0, [], 0, true) := by
      cases f with
      | true => rfl
      | false => exact stepP_none (by rw [getP_raw, if_neg (by omega)])
    have HS := Lib.hid (raw_lost H.out hs)
    have hd1 : decide (n < 0) = true := by rw [decide_eq_true_iff]; exact h0
    clear hs h1 h2 h6
    go_enter Tryd.func28, Tryd.ntmps28
    go_wp2_with fail
    go_ret
    exact HS.out
  · have hs : stepP 4 n xs f = (0, [], 0, true) := by
      cases f with
      | true => rfl
      | false => exact stepP_none (by rw [getP_raw, if_neg (by omega)])
    have HS := Lib.hid (raw_lost H.out hs)
    have hd1 : decide (n < 0) = false := by rw [decide_eq_false_iff_not]; omega
    have hd2 : decide ((xs.length : Int) < n) = true := by rw [decide_eq_true_iff]; omega
    clear hs h1 h2 h6
    go_enter Tryd.func28, Tryd.ntmps28
    go_wp2_with fail
    go_ret
    exact HS.out
  · have hd1 : decide (n < 0) = false := by rw [decide_eq_false_iff_not]; omega
    have hd2 : decide ((xs.length : Int) < n) = false := by rw [decide_eq_false_iff_not]; omega
    cases f with
    | true =>
      have HS := Lib.hid (raw_lost (n := n) H.out rfl)
      clear h1 h2 h6
      go_enter Tryd.func28, Tryd.ntmps28
      go_wp2_with fail
      go_ret
      exact HS.out
    | false =>
      obtain ⟨k, rfl⟩ := Int.eq_ofNat_of_zero_le h0
      have hs : stepP 4 (k : Int) xs false = (0, xs.take k, k, false) := stepP_some (by rw [getP_raw, if_pos ⟨h0, hle⟩]; simp)
      have hk : k ≤ xs.length := by omega
      have hkc : (k : Int) ≤ c := by omega
      have hown0 : ∀ W : World, (W.alloc (.cells #[] 5)).ownsRow W.heap.size 5 1 (.slice (some ⟨W.heap.size, 0, none⟩) 0 0) 0 [] := fun W => World.ownsRow_made _ _ _ (Nat.le_refl _) (by simp [maxLen]) rfl
      have HOWN := Lib.hid hown0
      have hlt := h1.lt
      have hr : Reads (w.alloc (.cells #[] 5)) 1 A k ((xs.take k).map bv) := by
        have := Reads.take h2 (k := k) hk
        rw [List.map_take]
        exact (by simpa using this : Reads w 1 A k ((xs.map bv).take k)).alloc _
      have HDROP : Hid (∀ W, Below w.heap.size w W → ∀ A', (k < xs.length → ∃ g o, A = some ⟨g, o, none⟩ ∧ A' = some ⟨g, o + k, none⟩) → Reads (W.alloc (.cells #[] 5)) 1 A' (xs.length - k) ((xs.drop k).map bv)) := fun W hW A' hA' => by
        rcases Nat.lt_or_ge k xs.length with hlt | hge
        · obtain ⟨g, o, rfl, rfl⟩ := hA' hlt
          obtain ⟨g', o', e', hg', hcell⟩ := Bytes.flat (h2.below hW) (by omega)
          injection e' with e'
          injection e' with e1 e2
          subst e1 e2
          have : Reads W 1 (some ⟨g, o + k, none⟩) (xs.length - k) ((xs.drop k).map bv) := by
            refine ⟨by simp, fun _ => ⟨_, rfl, hg', fun j u hu => ?_⟩⟩
            rw [add_flat]
            have hj : j < (xs.drop k).length := by
              have := (List.getElem?_eq_some_iff.1 hu).1
              simpa using this
            rw [List.length_drop] at hj
            rw [Nat.add_assoc, hcell (k + j) (by omega), ← hu, List.getElem?_map, List.getElem?_drop, List.getElem?_eq_getElem (by omega)]
            rfl
          exact this.alloc _
        · have e1 : xs.length - k = 0 := by omega
          have e2 : xs.drop k = [] := List.drop_eq_nil_of_le hge
          rw [e1, e2]
          exact Reads.nil_ _ _ _
      have H1 := Lib.hid h1
      have hcase : (k < xs.length ∧ ∃ g o, A = some ⟨g, o, none⟩) ∨ (k = 0 ∧ xs = [] ∧ A = none) ∨ (k = xs.length ∧ k = c ∧ ∃ ad, A = some ad) ∨ (k = xs.length ∧ k < c ∧ ∃ ad, A = some ad) := by
        rcases Nat.lt_or_ge k xs.length with hlt | hge
        · obtain ⟨g, o, e, _⟩ := Bytes.flat h2 (by omega)
          exact .inl ⟨hlt, g, o, e⟩
        · cases A with
          | none =>
            have hx : xs = [] := by
              rcases Nat.eq_zero_or_pos xs.length with h0 | h0
              · exact List.eq_nil_of_length_eq_zero h0
              · obtain ⟨g, o, e, _⟩ := Bytes.flat h2 h0
                cases e
            subst hx
            exact .inr (.inl ⟨by simpa using hk, rfl, rfl⟩)
          | some ad =>
            rcases Nat.lt_or_ge k c with h | h
            · exact .inr (.inr (.inr ⟨by omega, h, _, rfl⟩))
            · exact .inr (.inr (.inl ⟨by omega, by omega, _, rfl⟩))
      clear hs h1 h2 h6 hown0
      rcases hcase with ⟨hlk, g, o, rfl⟩ | ⟨rfl, rfl, rfl⟩ | ⟨hlk, hlc, ad, rfl⟩ | ⟨hlk, hlc, ad, rfl⟩
      · have hnec : ¬ c = k := by omega
        go_enter Tryd.func28, Tryd.ntmps28
        go_wp2_with (at_builtin; refine app_list bytes_ty rfl (s := .tmp 26) (x := .tmp 32) rfl (HOWN.out w) rfl hr rfl (bv_one _) (by omega) (by simp) ?_; intro v2 w2 hown2 hg2 _; refine Hid.out ?_)
        have hb2 : Below w.heap.size w w2 := (below_new w _).grown hg2 (by simp) (own_ge (HOWN.out w))
        have HB2 := Lib.hid hb2
        have hs2 : w.heap.size ≤ w2.heap.size := hb2.size
        simp only [Nat.zero_add, List.nil_append] at hown2
        obtain ⟨A2, c2, rfl, _, _⟩ := own_slice hown2
        have HO2 := Lib.hid hown2
        have hblk2 := H1.out.below hb2 hlt
        have d0 := hblk2.cell 0
        have e0 := hblk2.free 0
        simp only [List.getElem?_toArray, List.getElem?_cons_zero] at d0
        have hlt2 : m < w2.heap.size := by omega
        have hne2 : m ≠ w2.heap.size := by omega
        have HR3 := fun A' hA' => Lib.hid (HDROP.out w2 HB2.out A' hA')
        have hr3 := (HR3 (some ⟨g, o + k, none⟩) (fun _ => ⟨g, o, rfl, rfl⟩)).out
        clear HR3
        clear hb2 hown2 hg2 hblk2
        refine Lib.hid ?_
        go_wp2_with (at_builtin; refine app_list bytes_ty rfl (s := .tmp 35) (x := .tmp 41) rfl (HOWN.out w2) rfl hr3 rfl (bv_one _) (by omega) (by simp) ?_; intro v3 w3 hown3 hg3 _; refine Hid.out ?_)
        have hb3 : Below w2.heap.size w2 w3 := (below_new w2 _).grown hg3 (by simp) (own_ge (HOWN.out w2))
        simp only [Nat.zero_add, List.nil_append] at hown3
        obtain ⟨A3, c3, rfl, _, _⟩ := own_slice hown3
        have HO3 := Lib.hid hown3
        have HB3 := Lib.hid hb3
        have hblk3 := (H1.out.below HB2.out hlt).below hb3 hlt2
        have d3 := hblk3.cell 0
        have e3 := hblk3.free 0
        simp only [List.getElem?_toArray, List.getElem?_cons_zero] at d3
        clear hb3 hown3 hg3 hblk3
        refine Lib.hid ?_
        go_wp2_with fail
        go_ret
        exact raw_read H.out hk hbase HO2.out HB2.out rfl HO3.out HB3.out
      · have hr0 : Reads (w.alloc (.cells #[] 5)) 1 none 0 [] := hr
        go_enter Tryd.func28, Tryd.ntmps28
        go_wp2_with (at_builtin; refine app_list bytes_ty rfl (s := .tmp 26) (x := .tmp 32) rfl (HOWN.out w) rfl hr0 rfl (by simp) (by omega) (by simp) ?_; intro v2 w2 hown2 hg2 _; refine Hid.out ?_)
        have hb2 : Below w.heap.size w w2 := (below_new w _).grown hg2 (by simp) (own_ge (HOWN.out w))
        have HB2 := Lib.hid hb2
        have hs2 : w.heap.size ≤ w2.heap.size := hb2.size
        simp only [Nat.zero_add, List.nil_append] at hown2
        obtain ⟨A2, c2, rfl, _, _⟩ := own_slice hown2
        have HO2 := Lib.hid hown2
        have hblk2 := H1.out.below hb2 hlt
        have d0 := hblk2.cell 0
        have e0 := hblk2.free 0
        simp only [List.getElem?_toArray, List.getElem?_cons_zero] at d0
        have hlt2 : m < w2.heap.size := by omega
        have hne2 : m ≠ w2.heap.size := by omega
        have HR3 := fun A' hA' => Lib.hid (HDROP.out w2 HB2.out A' hA')
        have hr3 : Reads (w2.alloc (.cells #[] 5)) 1 none 0 [] := Reads.nil_ _ _ _
        clear HR3
        clear hb2 hown2 hg2 hblk2
        refine Lib.hid ?_
        go_wp2_with (at_builtin; refine app_list bytes_ty rfl (s := .tmp 35) (x := .tmp 41) rfl (HOWN.out w2) rfl hr3 rfl (by simp) (by omega) (by simp) ?_; intro v3 w3 hown3 hg3 _; refine Hid.out ?_)
        have hb3 : Below w2.heap.size w2 w3 := (below_new w2 _).grown hg3 (by simp) (own_ge (HOWN.out w2))
        simp only [Nat.zero_add, List.nil_append] at hown3
        obtain ⟨A3, c3, rfl, _, _⟩ := own_slice hown3
        have HO3 := Lib.hid hown3
        have HB3 := Lib.hid hb3
        have hblk3 := (H1.out.below HB2.out hlt).below hb3 hlt2
        have d3 := hblk3.cell 0
        have e3 := hblk3.free 0
        simp only [List.getElem?_toArray, List.getElem?_cons_zero] at d3
        clear hb3 hown3 hg3 hblk3
        refine Lib.hid ?_
        go_wp2_with fail
        go_ret
        exact raw_read H.out hk hbase HO2.out HB2.out rfl HO3.out HB3.out
      · have HLK := Lib.hid hlk
        have hcl : ¬ c < k := by omega
        subst hlc
        clear hlk
        go_enter Tryd.func28, Tryd.ntmps28
        go_wp2_with (at_builtin; refine app_list bytes_ty rfl (s := .tmp 26) (x := .tmp 32) rfl (HOWN.out w) rfl hr rfl (bv_one _) (by omega) (by simp) ?_; intro v2 w2 hown2 hg2 _; refine Hid.out ?_)
        have hb2 : Below w.heap.size w w2 := (below_new w _).grown hg2 (by simp) (own_ge (HOWN.out w))
        have HB2 := Lib.hid hb2
        have hs2 : w.heap.size ≤ w2.heap.size := hb2.size
        simp only [Nat.zero_add, List.nil_append] at hown2
        obtain ⟨A2, c2, rfl, _, _⟩ := own_slice hown2
        have HO2 := Lib.hid hown2
        have hblk2 := H1.out.below hb2 hlt
        have d0 := hblk2.cell 0
        have e0 := hblk2.free 0
        simp only [List.getElem?_toArray, List.getElem?_cons_zero] at d0
        have hlt2 : m < w2.heap.size := by omega
        have hne2 : m ≠ w2.heap.size := by omega
        have HR3 := fun A' hA' => Lib.hid (HDROP.out w2 HB2.out A' hA')
        have hr3 : Reads (w2.alloc (.cells #[] 5)) 1 (some ad) 0 [] := Reads.nil_ _ _ _
        have hdn : Hid (xs.drop k = []) := List.drop_eq_nil_of_le (by have := HLK.out; omega)
        clear HR3
        clear hb2 hown2 hg2 hblk2
        refine Lib.hid ?_
        go_wp2_with (at_builtin; refine app_list bytes_ty rfl (s := .tmp 35) (x := .tmp 41) rfl (HOWN.out w2) rfl hr3 rfl (by simp) (by omega) (by simp) ?_; intro v3 w3 hown3 hg3 _; refine Hid.out ?_)
        have hb3 : Below w2.heap.size w2 w3 := (below_new w2 _).grown hg3 (by simp) (own_ge (HOWN.out w2))
        simp only [Nat.zero_add, List.nil_append] at hown3
        obtain ⟨A3, c3, rfl, _, _⟩ := own_slice hown3
        have HO3 := Lib.hid hown3
        have HB3 := Lib.hid hb3
        have hblk3 := (H1.out.below HB2.out hlt).below hb3 hlt2
        have d3 := hblk3.cell 0
        have e3 := hblk3.free 0
        simp only [List.getElem?_toArray, List.getElem?_cons_zero] at d3
        clear hb3 hown3 hg3 hblk3
        refine Lib.hid ?_
        go_wp2_with fail
        go_ret
        exact raw_read H.out hk hbase HO2.out HB2.out (by have := HLK.out; omega) (by rw [hdn.out]; exact HO3.out) HB3.out
      · have HLK := Lib.hid hlk
        have hnec : ¬ c = k := by omega
        clear hlk
        go_enter Tryd.func28, Tryd.ntmps28
        go_wp2_with (at_builtin; refine app_list bytes_ty rfl (s := .tmp 26) (x := .tmp 32) rfl (HOWN.out w) rfl hr rfl (bv_one _) (by omega) (by simp) ?_; intro v2 w2 hown2 hg2 _; refine Hid.out ?_)
        have hb2 : Below w.heap.size w w2 := (below_new w _).grown hg2 (by simp) (own_ge (HOWN.out w))
        have HB2 := Lib.hid hb2
        have hs2 : w.heap.size ≤ w2.heap.size := hb2.size
        simp only [Nat.zero_add, List.nil_append] at hown2
        obtain ⟨A2, c2, rfl, _, _⟩ := own_slice hown2
        have HO2 := Lib.hid hown2
        have hblk2 := H1.out.below hb2 hlt
        have d0 := hblk2.cell 0
        have e0 := hblk2.free 0
        simp only [List.getElem?_toArray, List.getElem?_cons_zero] at d0
        have hlt2 : m < w2.heap.size := by omega
        have hne2 : m ≠ w2.heap.size := by omega
        have HR3 := fun A' hA' => Lib.hid (HDROP.out w2 HB2.out A' hA')
        have hr3 := (HR3 (some (ad.add k)) (fun h => absurd HLK.out (by omega))).out
        clear HR3
        clear hb2 hown2 hg2 hblk2
        refine Lib.hid ?_
        go_wp2_with (at_builtin; refine app_list bytes_ty rfl (s := .tmp 35) (x := .tmp 41) rfl (HOWN.out w2) rfl hr3 rfl (bv_one _) (by omega) (by simp) ?_; intro v3 w3 hown3 hg3 _; refine Hid.out ?_)
        have hb3 : Below w2.heap.size w2 w3 := (below_new w2 _).grown hg3 (by simp) (own_ge (HOWN.out w2))
        simp only [Nat.zero_add, List.nil_append] at hown3
        obtain ⟨A3, c3, rfl, _, _⟩ := own_slice hown3
        have HO3 := Lib.hid hown3
        have HB3 := Lib.hid hb3
        have hblk3 := (H1.out.below HB2.out hlt).below hb3 hlt2
        have d3 := hblk3.cell 0
        have e3 := hblk3.free 0
        simp only [List.getElem?_toArray, List.getElem?_cons_zero] at d3
        clear hb3 hown3 hg3 hblk3
        refine Lib.hid ?_
        go_wp2_with fail
        go_ret
        exact raw_read H.out hk hbase HO2.out HB2.out rfl HO3.out HB3.out
end Go.Proofs.YtcklbhplhpohpaaDoor
