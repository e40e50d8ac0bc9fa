/- Joined texts: RefC, RefD, RefE, RefF. -/
import Derived.Test.YtdckdjkkaangmaaDoorJN
import Derived.Test.YtdckdjkkaangmaaDoorJB
/- The document's reader: Raw, Wide, digits. -/
namespace Go.Proofs.YtdckdjkkaangmaaDoor
set_option linter.unusedVariables false
set_option linter.unusedSimpArgs false
set_option maxRecDepth 100000
open Go.RowKit

theorem Bytes.modp {S : Nat → Prop} {w w' : World} {A : Option Addr} {xs : List UInt8} (h : Bytes w A xs) (hm : Mod S w w') (hA : ∀ ad, A = some ad → 0 < xs.length → ¬ S ad.block) : Bytes w' A xs := by
  rcases Nat.eq_zero_or_pos xs.length with h0 | h0
  · obtain rfl := List.eq_nil_of_length_eq_zero h0
    exact Bytes.nil_ _ _
  · exact h.mod hm fun ad e => hA ad e h0
/-- The document's reader in the block m has the bytes xs ahead of it; they lie in blocks from 'base' on. -/
def Rf (base : Nat → Prop) (w : World) (m : Nat) (xs : List UInt8) (f : Bool) : Prop :=
  ∃ A c, Blk w m 71 #[.slice A xs.length c, .bool f] ∧ Bytes w A xs ∧ xs.length ≤ c ∧ c ≤ 9223372036854775807 ∧ base m ∧ (∀ ad, A = some ad → 0 < xs.length → base ad.block ∧ ad.block ≠ m)
theorem Rf.mod {S : Nat → Prop} {base : Nat → Prop} {w w' : World} {m : Nat} {xs : List UInt8} {f : Bool} (h : Rf base w m xs f) (hm : Mod S w w') (hS : ∀ k, base k → k < w.heap.size → ¬ S k) : Rf base w' m xs f := by
  obtain ⟨A, c, h1, h2, h3, h4, h5, h6⟩ := h
  refine ⟨A, c, h1.mod hm (hS m h5 h1.lt), ?_, h3, h4, h5, h6⟩
  rcases Nat.eq_zero_or_pos xs.length with h0 | h0
  · rw [List.eq_nil_of_length_eq_zero h0]
    exact Bytes.nil_ _ _
  · refine h2.mod hm fun ad e => ?_
    obtain ⟨g, o, e2, hg, _⟩ := Bytes.flat h2 h0
    rw [e] at e2
    injection e2 with e2
    subst e2
    exact hS _ (h6 _ e h0).1 hg
theorem Rf.below {base : Nat → Prop} {w w' : World} {m : Nat} {xs : List UInt8} {f : Bool} (h : Rf base w m xs f) (hb : Below w.heap.size w w') : Rf base w' m xs f := h.mod (Mod.below (S := fun _ => False) hb (Nat.le_refl _)) fun _ _ _ h => h
theorem Rf.lt {base : Nat → Prop} {w : World} {m : Nat} {xs : List UInt8} {f : Bool} (h : Rf base w m xs f) : m < w.heap.size := by
  obtain ⟨A, c, h1, _⟩ := h
  exact h1.lt
/-- It stands behind what was read. -/
def Rft (base : Nat → Prop) (m : Nat) (xs : List UInt8) (t : Nat × List UInt8 × Nat × Bool) (w w' : World) : Prop := Rf base w' m (xs.drop t.2.2.1) t.2.2.2 ∧ Mod (fun k => k = m) w w'
theorem getP_raw (n : Int) (xs : List UInt8) : getP 4 n xs = if 0 ≤ n ∧ n ≤ xs.length then some (0, xs.take n.toNat, n.toNat) else none := rfl
def RawPost (base : Nat → Prop) (m : Nat) (n : Int) (xs : List UInt8) (f : Bool) (w : World) (e : Ending) (w' : World) : Prop :=
  (∃ A c, e = .returned (.slice A (stepP 4 n xs f).2.1.length c) ∧ Bytes w' A (stepP 4 n xs f).2.1 ∧ ∀ ad, A = some ad → w.heap.size ≤ ad.block) ∧ Rft base m xs (stepP 4 n xs f) w w'
theorem raw_lost {base : Nat → Prop} {m : Nat} {n : Int} {xs : List UInt8} {f : Bool} {w : World} (h : Rf base w m xs f) (hs : stepP 4 n xs f = (0, [], 0, true)) : RawPost base m n xs f w (.returned (.slice none 0 0)) (w.setCell ⟨m, 1, none⟩ (.bool true)) := by
  unfold RawPost
  rw [hs]
  obtain ⟨A, c, h1, h2, h3, h4, h5, h6⟩ := h
  have hm : Mod (fun k => k = m) w (w.setCell ⟨m, 1, none⟩ (.bool true)) := (Mod.refl (fun k => k = m) w).set (p := ⟨m, 1, none⟩) (fun _ => rfl) _
  exact ⟨⟨none, 0, rfl, Bytes.nil_ _ _, fun _ e => by cases e⟩, ⟨A, c, h1.put 1 _, h2.modp hm fun ad e h0 => (h6 ad e h0).2, h3, h4, h5, h6⟩, hm⟩
theorem raw_read {base : Nat → Prop} {m k : Nat} {xs : List UInt8} {w w2 w3 : World} {A2 A3 : Option Addr} {c2 c3 j : Nat} (h : Rf base w m xs false) (hk : k ≤ xs.length) (hbase : ∀ k, w.heap.size ≤ k → base k) (hown2 : w2.ownsRow w.heap.size 5 1 (.slice A2 k c2) k ((xs.take k).map bv)) (hb2 : Below w.heap.size w w2)
    (hj : j = xs.length - k) (hown3 : w3.ownsRow w2.heap.size 5 1 (.slice A3 j c3) j ((xs.drop k).map bv)) (hb3 : Below w2.heap.size w2 w3) :
    RawPost base m (k : Int) xs false w (.returned (.slice A2 k c2)) (w3.setCell ⟨m, 0, none⟩ (.slice A3 j c3)) := by
  have hs : stepP 4 (k : Int) xs false = (0, xs.take k, k, false) := stepP_some (by rw [getP_raw, if_pos ⟨by omega, by omega⟩]; simp)
  unfold RawPost
  rw [hs]
  subst hj
  have hlt := h.lt
  obtain ⟨A, c, h1, h2, h3, h4, h5, h6⟩ := h
  have hA2 := row_at_head hown2
  have hA3 := row_at_head hown3
  have hs2 := hb2.size
  have hb := below_call hb2 hs2 hb3
  have hm : Mod (fun q => q = m) w (w3.setCell ⟨m, 0, none⟩ (.slice A3 (xs.length - k) c3)) := (Mod.below (S := fun q => q = m) hb (Nat.le_refl _)).set (p := ⟨m, 0, none⟩) (fun _ => rfl) _
  have hm3 : Mod (fun q => q = m) w3 (w3.setCell ⟨m, 0, none⟩ (.slice A3 (xs.length - k) c3)) := (Mod.refl (fun q => q = m) w3).set (p := ⟨m, 0, none⟩) (fun _ => rfl) _
  obtain ⟨_, _, e3, hc3, hc3'⟩ := own_slice hown3
  injection e3 with _ _ e3
  subst e3
  have hdl : (xs.drop k).length = xs.length - k := List.length_drop ..
  have htl : (xs.take k).length = k := by rw [List.length_take]; omega
  refine ⟨⟨A2, c2, by simp only [htl], ?_, fun ad e => (hA2 ad e).2.2.1⟩, ⟨A3, c3, ?_, ?_, by rw [hdl]; exact hc3, by simpa [maxLen] using hc3', h5, fun ad e _ => ?_⟩, hm⟩
  · refine (own_bytes (own_call hown2 hb3)).mod hm3 fun ad e h => ?_
    have := (hA2 ad e).2.2.1
    omega
  · have := (h1.below hb hlt).put 0 (.slice A3 (xs.length - k) c3)
    simp only
    rw [hdl]
    exact this
  · refine (own_bytes hown3).mod hm3 fun ad e h => ?_
    have := (hA3 ad e).2.2.1
    omega
  · have := (hA3 ad e).2.2.1
    exact ⟨hbase _ (by omega), by omega⟩
set_option maxRecDepth 100000 in
set_option maxHeartbeats 1000000 in
theorem rraw_any (base : Nat → Prop) (w : World) (m : Nat) (xs : List UInt8) (f : Bool) (n : Int) (hn1 : -9223372036854775808 ≤ n) (hn2 : n ≤ 9223372036854775807) (h : Rf base w m xs f) (hl : xs.length ≤ 140737488355328) (hbase : ∀ k, w.heap.size ≤ k → base k) :
    Calls Tryd.prog 66 #[.pointer (some ⟨m, 0, none⟩), .int .i64 n] w (RawPost base m n xs f w) := by
  have H := Lib.hid h
  obtain ⟨A, c, h1, h2, h3, h4, h5, h6⟩ := h
  have c0 : w.cell? ⟨m, 0, none⟩ = some (.slice A xs.length c) := h1.cell 0
  have c1 : w.cell? ⟨m, 1, none⟩ = some (.bool f) := h1.cell 1
  have f1 : w.frozen? ⟨m, 1, none⟩ = false := h1.free 1
  have f0 : w.frozen? ⟨m, 0, none⟩ = false := h1.free 0
  have hcase : n < 0 ∨ (0 ≤ n ∧ (xs.length : Int) < n) ∨ (0 ≤ n ∧ n ≤ xs.length) := by omega
  rcases hcase with h0 | ⟨h0, hgt⟩ | ⟨h0, hle⟩
  · have hs : stepP 4 n xs f = (0, [], 0, true) := by
      cases f with
      | true => rfl
      | false => exact stepP_none (by rw [getP_raw, if_neg (by omega)])
    have HS := Lib.hid (raw_lost H.out hs)
    have hd1 : decide (n < 0) = true := by rw [decide_eq_true_iff]; exact h0
    clear hs h1 h2 h6
    go_enter Tryd.func66, Tryd.ntmps66
    go_wp2_with fail
    go_ret
    exact HS.out
  · have hs : stepP 4 n xs f = (0, [], 0, true) := by
      cases f with
      | true => rfl
      | false => exact stepP_none (by rw [getP_raw, if_neg (by omega)])
    have HS := Lib.hid (raw_lost H.out hs)
    have hd1 : decide (n < 0) = false := by rw [decide_eq_false_iff_not]; omega
    have hd2 : decide ((xs.length : Int) < n) = true := by rw [decide_eq_true_iff]; omega
    clear hs h1 h2 h6
    go_enter Tryd.func66, Tryd.ntmps66
    go_wp2_with fail
    go_ret
    exact HS.out
  · have hd1 : decide (n < 0) = false := by rw [decide_eq_false_iff_not]; omega
    have hd2 : decide ((xs.length : Int) < n) = false := by rw [decide_eq_false_iff_not]; omega
    cases f with
    | true =>
      have HS := Lib.hid (raw_lost (n := n) H.out rfl)
      clear h1 h2 h6
      go_enter Tryd.func66, Tryd.ntmps66
      go_wp2_with fail
      go_ret
      exact HS.out
    | false =>
      obtain ⟨k, rfl⟩ := Int.eq_ofNat_of_zero_le h0
      have hs : stepP 4 (k : Int) xs false = (0, xs.take k, k, false) := stepP_some (by rw [getP_raw, if_pos ⟨h0, hle⟩]; simp)
      have hk : k ≤ xs.length := by omega
      have hkc : (k : Int) ≤ c := by omega
      have hown0 : ∀ W : World, (W.alloc (.cells #[] 5)).ownsRow W.heap.size 5 1 (.slice (some ⟨W.heap.size, 0, none⟩) 0 0) 0 [] := fun W => World.ownsRow_made _ _ _ (Nat.le_refl _) (by simp [maxLen]) rfl
      have HOWN := Lib.hid hown0
      have hlt := h1.lt
      have hr : Reads (w.alloc (.cells #[] 5)) 1 A k ((xs.take k).map bv) := by
        have := Reads.take h2 (k := k) hk
        rw [List.map_take]
        exact (by simpa using this : Reads w 1 A k ((xs.map bv).take k)).alloc _
      have HDROP : Hid (∀ W, Below w.heap.size w W → ∀ A', (k < xs.length → ∃ g o, A = some ⟨g, o, none⟩ ∧ A' = some ⟨g, o + k, none⟩) → Reads (W.alloc (.cells #[] 5)) 1 A' (xs.length - k) ((xs.drop k).map bv)) := fun W hW A' hA' => by
        rcases Nat.lt_or_ge k xs.length with hlt | hge
        · obtain ⟨g, o, rfl, rfl⟩ := hA' hlt
          obtain ⟨g', o', e', hg', hcell⟩ := Bytes.flat (h2.below hW) (by omega)
          injection e' with e'
          injection e' with e1 e2
          subst e1 e2
          have : Reads W 1 (some ⟨g, o + k, none⟩) (xs.length - k) ((xs.drop k).map bv) := by
            refine ⟨by simp, fun _ => ⟨_, rfl, hg', fun j u hu => ?_⟩⟩
            rw [add_flat]
            have hj : j < (xs.drop k).length := by
              have := (List.getElem?_eq_some_iff.1 hu).1
              simpa using this
            rw [List.length_drop] at hj
            rw [Nat.add_assoc, hcell (k + j) (by omega), ← hu, List.getElem?_map, List.getElem?_drop, List.getElem?_eq_getElem (by omega)]
            rfl
          exact this.alloc _
        · have e1 : xs.length - k = 0 := by omega
          have e2 : xs.drop k = [] := List.drop_eq_nil_of_le hge
          rw [e1, e2]
          exact Reads.nil_ _ _ _
      have H1 := Lib.hid h1
      have hcase : (k < xs.length ∧ ∃ g o, A = some ⟨g, o, none⟩) ∨ (k = 0 ∧ xs = [] ∧ A = none) ∨ (k = xs.length ∧ k = c ∧ ∃ ad, A = some ad) ∨ (k = xs.length ∧ k < c ∧ ∃ ad, A = some ad) := by
        rcases Nat.lt_or_ge k xs.length with hlt | hge
        · obtain ⟨g, o, e, _⟩ := Bytes.flat h2 (by omega)
          exact .inl ⟨hlt, g, o, e⟩
        · cases A with
          | none =>
            have hx : xs = [] := by
              rcases Nat.eq_zero_or_pos xs.length with h0 | h0
              · exact List.eq_nil_of_length_eq_zero h0
              · obtain ⟨g, o, e, _⟩ := Bytes.flat h2 h0
                cases e
            subst hx
            exact .inr (.inl ⟨by simpa using hk, rfl, rfl⟩)
          | some ad =>
            rcases Nat.lt_or_ge k c with h | h
            · exact .inr (.inr (.inr ⟨by omega, h, _, rfl⟩))
            · exact .inr (.inr (.inl ⟨by omega, by omega, _, rfl⟩))
      clear hs h1 h2 h6 hown0
      rcases hcase with ⟨hlk, g, o, rfl⟩ | ⟨rfl, rfl, rfl⟩ | ⟨hlk, hlc, ad, rfl⟩ | ⟨hlk, hlc, ad, rfl⟩
      · have hnec : ¬ c = k := by omega
        go_enter Tryd.func66, Tryd.ntmps66
        go_wp2_with (at_builtin; refine app_list bytes_ty rfl (s := .tmp 26) (x := .tmp 32) rfl (HOWN.out w) rfl hr rfl (bv_one _) (by omega) (by simp) ?_; intro v2 w2 hown2 hg2 _; refine Hid.out ?_)
        have hb2 : Below w.heap.size w w2 := (below_new w _).grown hg2 (by simp) (own_ge (HOWN.out w))
        have HB2 := Lib.hid hb2
        have hs2 : w.heap.size ≤ w2.heap.size := hb2.size
        simp only [Nat.zero_add, List.nil_append] at hown2
        obtain ⟨A2, c2, rfl, _, _⟩ := own_slice hown2
        have HO2 := Lib.hid hown2
        have hblk2 := H1.out.below hb2 hlt
        have d0 := hblk2.cell 0
        have e0 := hblk2.free 0
        simp only [List.getElem?_toArray, List.getElem?_cons_zero] at d0
        have hlt2 : m < w2.heap.size := by omega
        have hne2 : m ≠ w2.heap.size := by omega
        have HR3 := fun A' hA' => Lib.hid (HDROP.out w2 HB2.out A' hA')
        have hr3 := (HR3 (some ⟨g, o + k, none⟩) (fun _ => ⟨g, o, rfl, rfl⟩)).out
        clear HR3
        clear hb2 hown2 hg2 hblk2
        refine Lib.hid ?_
        go_wp2_with (at_builtin; refine app_list bytes_ty rfl (s := .tmp 35) (x := .tmp 41) rfl (HOWN.out w2) rfl hr3 rfl (bv_one _) (by omega) (by simp) ?_; intro v3 w3 hown3 hg3 _; refine Hid.out ?_)
        have hb3 : Below w2.heap.size w2 w3 := (below_new w2 _).grown hg3 (by simp) (own_ge (HOWN.out w2))
        simp only [Nat.zero_add, List.nil_append] at hown3
        obtain ⟨A3, c3, rfl, _, _⟩ := own_slice hown3
        have HO3 := Lib.hid hown3
        have HB3 := Lib.hid hb3
        have hblk3 := (H1.out.below HB2.out hlt).below hb3 hlt2
        have d3 := hblk3.cell 0
        have e3 := hblk3.free 0
        simp only [List.getElem?_toArray, List.getElem?_cons_zero] at d3
        clear hb3 hown3 hg3 hblk3
        refine Lib.hid ?_
        go_wp2_with fail
        go_ret
        exact raw_read H.out hk hbase HO2.out HB2.out rfl HO3.out HB3.out
      · have hr0 : Reads (w.alloc (.cells #[] 5)) 1 none 0 [] := hr
        go_enter Tryd.func66, Tryd.ntmps66
        go_wp2_with (at_builtin; refine app_list bytes_ty rfl (s := .tmp 26) (x := .tmp 32) rfl (HOWN.out w) rfl hr0 rfl (by simp) (by omega) (by simp) ?_; intro v2 w2 hown2 hg2 _; refine Hid.out ?_)
        have hb2 : Below w.heap.size w w2 := (below_new w _).grown hg2 (by simp) (own_ge (HOWN.out w))
        have HB2 := Lib.hid hb2
        have hs2 : w.heap.size ≤ w2.heap.size := hb2.size
        simp only [Nat.zero_add, List.nil_append] at hown2
        obtain ⟨A2, c2, rfl, _, _⟩ := own_slice hown2
        have HO2 := Lib.hid hown2
        have hblk2 := H1.out.below hb2 hlt
        have d0 := hblk2.cell 0
        have e0 := hblk2.free 0
        simp only [List.getElem?_toArray, List.getElem?_cons_zero] at d0
        have hlt2 : m < w2.heap.size := by omega
        have hne2 : m ≠ w2.heap.size := by omega
        have HR3 := fun A' hA' => Lib.hid (HDROP.out w2 HB2.out A' hA')
        have hr3 : Reads (w2.alloc (.cells #[] 5)) 1 none 0 [] := Reads.nil_ _ _ _
        clear HR3
        clear hb2 hown2 hg2 hblk2
        refine Lib.hid ?_
        go_wp2_with (at_builtin; refine app_list bytes_ty rfl (s := .tmp 35) (x := .tmp 41) rfl (HOWN.out w2) rfl hr3 rfl (by simp) (by omega) (by simp) ?_; intro v3 w3 hown3 hg3 _; refine Hid.out ?_)
        have hb3 : Below w2.heap.size w2 w3 := (below_new w2 _).grown hg3 (by simp) (own_ge (HOWN.out w2))
        simp only [Nat.zero_add, List.nil_append] at hown3
        obtain ⟨A3, c3, rfl, _, _⟩ := own_slice hown3
        have HO3 := Lib.hid hown3
        have HB3 := Lib.hid hb3
        have hblk3 := (H1.out.below HB2.out hlt).below hb3 hlt2
        have d3 := hblk3.cell 0
        have e3 := hblk3.free 0
        simp only [List.getElem?_toArray, List.getElem?_cons_zero] at d3
        clear hb3 hown3 hg3 hblk3
        refine Lib.hid ?_
        go_wp2_with fail
        go_ret
        exact raw_read H.out hk hbase HO2.out HB2.out rfl HO3.out HB3.out
      · have HLK := Lib.hid hlk
        have hcl : ¬ c < k := by omega
        subst hlc
        clear hlk
        go_enter Tryd.func66, Tryd.ntmps66
        go_wp2_with (at_builtin; refine app_list bytes_ty rfl (s := .tmp 26) (x := .tmp 32) rfl (HOWN.out w) rfl hr rfl (bv_one _) (by omega) (by simp) ?_; intro v2 w2 hown2 hg2 _; refine Hid.out ?_)
        have hb2 : Below w.heap.size w w2 := (below_new w _).grown hg2 (by simp) (own_ge (HOWN.out w))
        have HB2 := Lib.hid hb2
        have hs2 : w.heap.size ≤ w2.heap.size := hb2.size
        simp only [Nat.zero_add, List.nil_append] at hown2
        obtain ⟨A2, c2, rfl, _, _⟩ := own_slice hown2
        have HO2 := Lib.hid hown2
        have hblk2 := H1.out.below hb2 hlt
        have d0 := hblk2.cell 0
        have e0 := hblk2.free 0
        simp only [List.getElem?_toArray, List.getElem?_cons_zero] at d0
        have hlt2 : m < w2.heap.size := by omega
        have hne2 : m ≠ w2.heap.size := by omega
        have HR3 := fun A' hA' => Lib.hid (HDROP.out w2 HB2.out A' hA')
        have hr3 : Reads (w2.alloc (.cells #[] 5)) 1 (some ad) 0 [] := Reads.nil_ _ _ _
        have hdn : Hid (xs.drop k = []) := List.drop_eq_nil_of_le (by have := HLK.out; omega)
        clear HR3
        clear hb2 hown2 hg2 hblk2
        refine Lib.hid ?_
        go_wp2_with (at_builtin; refine app_list bytes_ty rfl (s := .tmp 35) (x := .tmp 41) rfl (HOWN.out w2) rfl hr3 rfl (by simp) (by omega) (by simp) ?_; intro v3 w3 hown3 hg3 _; refine Hid.out ?_)
        have hb3 : Below w2.heap.size w2 w3 := (below_new w2 _).grown hg3 (by simp) (own_ge (HOWN.out w2))
        simp only [Nat.zero_add, List.nil_append] at hown3
        obtain ⟨A3, c3, rfl, _, _⟩ := own_slice hown3
        have HO3 := Lib.hid hown3
        have HB3 := Lib.hid hb3
        have hblk3 := (H1.out.below HB2.out hlt).below hb3 hlt2
        have d3 := hblk3.cell 0
        have e3 := hblk3.free 0
        simp only [List.getElem?_toArray, List.getElem?_cons_zero] at d3
        clear hb3 hown3 hg3 hblk3
        refine Lib.hid ?_
        go_wp2_with fail
        go_ret
        exact raw_read H.out hk hbase HO2.out HB2.out (by have := HLK.out; omega) (by rw [hdn.out]; exact HO3.out) HB3.out
      · have HLK := Lib.hid hlk
        have hnec : ¬ c = k := by omega
        clear hlk
        go_enter Tryd.func66, Tryd.ntmps66
        go_wp2_with (at_builtin; refine app_list bytes_ty rfl (s := .tmp 26) (x := .tmp 32) rfl (HOWN.out w) rfl hr rfl (bv_one _) (by omega) (by simp) ?_; intro v2 w2 hown2 hg2 _; refine Hid.out ?_)
        have hb2 : Below w.heap.size w w2 := (below_new w _).grown hg2 (by simp) (own_ge (HOWN.out w))
        have HB2 := Lib.hid hb2
        have hs2 : w.heap.size ≤ w2.heap.size := hb2.size
        simp only [Nat.zero_add, List.nil_append] at hown2
        obtain ⟨A2, c2, rfl, _, _⟩ := own_slice hown2
        have HO2 := Lib.hid hown2
        have hblk2 := H1.out.below hb2 hlt
        have d0 := hblk2.cell 0
        have e0 := hblk2.free 0
        simp only [List.getElem?_toArray, List.getElem?_cons_zero] at d0
        have hlt2 : m < w2.heap.size := by omega
        have hne2 : m ≠ w2.heap.size := by omega
        have HR3 := fun A' hA' => Lib.hid (HDROP.out w2 HB2.out A' hA')
        have hr3 := (HR3 (some (ad.add k)) (fun h => absurd HLK.out (by omega))).out
        clear HR3
        clear hb2 hown2 hg2 hblk2
        refine Lib.hid ?_
        go_wp2_with (at_builtin; refine app_list bytes_ty rfl (s := .tmp 35) (x := .tmp 41) rfl (HOWN.out w2) rfl hr3 rfl (bv_one _) (by omega) (by simp) ?_; intro v3 w3 hown3 hg3 _; refine Hid.out ?_)
        have hb3 : Below w2.heap.size w2 w3 := (below_new w2 _).grown hg3 (by simp) (own_ge (HOWN.out w2))
        simp only [Nat.zero_add, List.nil_append] at hown3
        obtain ⟨A3, c3, rfl, _, _⟩ := own_slice hown3
        have HO3 := Lib.hid hown3
        have HB3 := Lib.hid hb3
        have hblk3 := (H1.out.below HB2.out hlt).below hb3 hlt2
        have d3 := hblk3.cell 0
        have e3 := hblk3.free 0
        simp only [List.getElem?_toArray, List.getElem?_cons_zero] at d3
        clear hb3 hown3 hg3 hblk3
        refine Lib.hid ?_
        go_wp2_with fail
        go_ret
        exact raw_read H.out hk hbase HO2.out HB2.out rfl HO3.out HB3.out
end Go.Proofs.YtdckdjkkaangmaaDoor

/- The document's reader: Wide, digits, number, End. -/
namespace Go.Proofs.YtdckdjkkaangmaaDoor
set_option linter.unusedVariables false
set_option linter.unusedSimpArgs false
set_option maxRecDepth 100000
open Go.RowKit

/-- What number answers. -/
theorem digits_some {xs : List UInt8} {k : Nat} (hk : k < xs.length) (h10 : k < 10) (hc : xs[k].toNat < 128) (hno : ∀ c ∈ xs.take k, 128 ≤ c.toNat) : digitsN xs = k + 1 :=
  digitsN_some hk h10 hc fun j hj hjk => hno _ (by
    have : (xs.take k)[j]'(by rw [List.length_take]; omega) = xs[j] := List.getElem_take
    rw [← this]
    exact List.getElem_mem _)
set_option maxRecDepth 100000 in
set_option maxHeartbeats 1000000 in
theorem rdigits_any (base : Nat → Prop) (w : World) (m : Nat) (xs : List UInt8) (f : Bool) (h : Rf base w m xs f) :
    Calls Tryd.prog 76 #[.pointer (some ⟨m, 0, none⟩)] w fun e w' => e = .returned (.int .i64 (digitsN xs : Int)) ∧ w = w' := by
  obtain ⟨A, c, h1, h2, h3, h4, h5, h6⟩ := h
  have c0 : w.cell? ⟨m, 0, none⟩ = some (.slice A xs.length c) := h1.cell 0
  have HB := Lib.hid h2
  clear h1 h2 h6
  go_enter Tryd.func76, Tryd.ntmps76
  go_wp2_with fail
  go_loop [3] (fun i => ∃ k : Nat, k ≤ xs.length ∧ k ≤ 10 ∧ i = .int .i64 k ∧ ∀ c ∈ xs.take k, 128 ≤ c.toNat) (fun i => xs.length - (intOf i).toNat)
  case atStart => exact ⟨0, Nat.zero_le _, by omega, rfl, by simp⟩
  case round =>
    obtain ⟨k, hk, hk10, rfl, hno⟩ := hrel
    have HNO := Lib.hid hno
    clear hno
    by_cases hlt : k < xs.length
    · have hd1 : decide (k < xs.length) = true := by rw [decide_eq_true_iff]; exact hlt
      by_cases h10 : k < 10
      · obtain ⟨gb, o, rfl, hg, hcell⟩ := Bytes.flat HB.out (by omega)
        have b0 := hcell k hlt
        have hts : xs.take (k + 1) = xs.take k ++ [xs[k]] := List.take_succ_eq_append_getElem hlt
        have HTS := Lib.hid hts
        have HDS := Lib.hid (fun hc => digits_some hlt h10 hc HNO.out)
        clear hcell hts
        generalize xs[k] = d at b0 HTS HDS
        have hd := d.toNat_lt
        have hd2 : decide ((k : Int) < 10) = true := by rw [decide_eq_true_iff]; omega
        by_cases h128 : d.toNat < 128
        · have hd3 : decide ((d.toNat : Int) < 128) = true := by rw [decide_eq_true_iff]; omega
          have hd4 : decide (d.toNat < 128) = true := by rw [decide_eq_true_iff]; exact h128
          go_wp2_with fail
          go_ret
          exact ⟨by rw [HDS.out h128]; go_num, rfl⟩
        · have hd3 : decide ((d.toNat : Int) < 128) = false := by rw [decide_eq_false_iff_not]; omega
          have hd4 : decide (d.toNat < 128) = false := by rw [decide_eq_false_iff_not]; exact h128
          go_wp2_with fail
          go_round
          case rel =>
            refine ⟨k + 1, by omega, by omega, by go_num, fun c hc => ?_⟩
            rw [HTS.out] at hc
            rcases List.mem_append.1 hc with h | h
            · exact HNO.out c h
            · rw [List.mem_singleton.1 h]; omega
          case measure => simp [intOf]; omega
      · obtain rfl : k = 10 := by omega
        go_wp2_with fail
        go_ret
        rw [digitsN_none (fun j hj h => HNO.out _ (by
          have : (xs.take 10)[j]'(by rw [List.length_take]; omega) = xs[j] := List.getElem_take
          rw [← this]
          exact List.getElem_mem _))]
        exact ⟨rfl, rfl⟩
    · obtain rfl : k = xs.length := by omega
      go_wp2_with fail
      go_ret
      rw [digitsN_none (fun j hj h => HNO.out _ (by rw [List.take_length]; exact List.getElem_mem _))]
      exact ⟨rfl, rfl⟩
set_option maxHeartbeats 1000000 in
theorem rend_any (base : Nat → Prop) (w : World) (m : Nat) (xs : List UInt8) (f : Bool) (h : Rf base w m xs f) :
    Calls Tryd.prog 30 #[.pointer (some ⟨m, 0, none⟩)] w fun e w' => e = .returned (.bool (f || decide (0 < xs.length))) ∧ Mod (fun k => k = m) w w' := by
  obtain ⟨A, c, h1, h2, h3, h4, h5, h6⟩ := h
  have c0 : w.cell? ⟨m, 0, none⟩ = some (.slice A xs.length c) := h1.cell 0
  have c1 : w.cell? ⟨m, 1, none⟩ = some (.bool f) := h1.cell 1
  have f1 : w.frozen? ⟨m, 1, none⟩ = false := h1.free 1
  have HM : Hid (Mod (fun k => k = m) w (w.setCell ⟨m, 1, none⟩ (.bool true))) := (Mod.refl (fun k => k = m) w).set (p := ⟨m, 1, none⟩) (fun _ => rfl) _
  have hx63 : xs.length ≤ 9223372036854775807 := by omega
  clear h1 h2 h6
  by_cases h0 : 0 < xs.length
  · have hd1 : decide (0 < xs.length) = true := by rw [decide_eq_true_iff]; exact h0
    have hd2 : decide ((0 : Int) < (xs.length : Int)) = true := by rw [decide_eq_true_iff]; omega
    rw [hd1, Bool.or_true]
    go_enter Tryd.func30, Tryd.ntmps30
    go_wp2_with fail
    go_ret
    exact ⟨rfl, HM.out⟩
  · have hd1 : decide (0 < xs.length) = false := by rw [decide_eq_false_iff_not]; exact h0
    have hd2 : decide ((0 : Int) < (xs.length : Int)) = false := by rw [decide_eq_false_iff_not]; omega
    rw [hd1, Bool.or_false]
    go_enter Tryd.func30, Tryd.ntmps30
    go_wp2_with fail
    go_ret
    exact ⟨rfl, Mod.refl _ _⟩
end Go.Proofs.YtdckdjkkaangmaaDoor

/- The document's reader: number, Uint, Text. -/
namespace Go.Proofs.YtdckdjkkaangmaaDoor
set_option linter.unusedVariables false
set_option linter.unusedSimpArgs false
set_option maxRecDepth 100000
open Go.RowKit

def pairOf : Option (Nat × Nat) → Value
  | some (y, k) => .tuple #[.int .u64 (y : Int), .int .i64 (k : Int)]
  | none => .tuple #[.int .u64 0, .int .i64 0]
theorem val_drop {l : List UInt8} {k : Nat} (hk : 0 < k) (hl : k ≤ l.length) : val (l.drop (k - 1)) = (l[k - 1]'(by omega)).toNat % 128 + 128 * val (l.drop k) := by
  have hdr : l.drop (k - 1) = l[k - 1]'(by omega) :: l.drop k := by
    rw [List.drop_eq_getElem_cons (by omega)]
    congr 2
    omega
  rw [hdr]
  rfl
theorem acc128 (x d : Nat) : IntKind.u64.wrap (IntKind.u64.wrap (((x % 18446744073709551616 : Nat) : Int) * 128) + ((d % 128 : Nat) : Int)) = (((d % 128 + 128 * x) % 18446744073709551616 : Nat) : Int) := by
  rw [IntKind.wrap_u64, IntKind.wrap_u64]
  omega
set_option maxRecDepth 100000 in
set_option maxHeartbeats 2000000 in
theorem rnumber_any (base : Nat → Prop) (w : World) (m : Nat) (xs : List UInt8) (f : Bool) (h : Rf base w m xs f) :
    Calls Tryd.prog 65 #[.pointer (some ⟨m, 0, none⟩)] w fun e w' => e = .returned (pairOf (num xs 0)) ∧ Below w.heap.size w w' := by
  have HD := Lib.hid (rdigits_any base w m xs f h)
  have H := Lib.hid h
  obtain ⟨A, c, h1, h2, h3, h4, h5, h6⟩ := h
  have c0 : w.cell? ⟨m, 0, none⟩ = some (.slice A xs.length c) := h1.cell 0
  have hltm := h1.lt
  have HB := Lib.hid h2
  obtain ⟨n, hn⟩ : ∃ n, n = digitsN xs := ⟨_, rfl⟩
  have hnl := digitsN_le xs
  have hnum := refNum_eq xs
  unfold refNum at hnum
  rw [← hn] at hnum hnl HD
  have HN := Lib.hid hnum
  clear h1 h2 h6 hn hnum
  go_enter Tryd.func65, Tryd.ntmps65
  go_wp2_with fail
  refine HD.out.mono ?_
  rintro e w1 ⟨rfl, rfl⟩
  obtain ⟨hn1, hn10⟩ := hnl
  go_wp2_with fail
  go_loop [5, 6] (fun x i => ∃ k : Nat, k ≤ n ∧ i = .int .i64 k ∧ x = .int .u64 ((val ((xs.take n).drop k) % 18446744073709551616 : Nat) : Int)) (fun _ i => (intOf i).toNat)
  case atStart => exact ⟨n, Nat.le_refl _, rfl, by rw [List.drop_eq_nil_of_le (by rw [List.length_take]; omega)]; rfl⟩
  case round =>
    obtain ⟨k, hk, rfl, rfl⟩ := hrel
    by_cases h0 : 0 < k
    · obtain ⟨gb, o, rfl, hg, hcell⟩ := Bytes.flat HB.out (by omega)
      have b0 := hcell (k - 1) (by omega)
      have hv := val_drop (l := xs.take n) h0 (by rw [List.length_take]; omega)
      rw [List.getElem_take] at hv
      have HV := Lib.hid hv
      clear hcell hv
      generalize xs[k - 1] = d at b0 HV
      generalize val ((xs.take n).drop k) = x at HV
      have HACC := Lib.hid (acc128 x d.toNat)
      have hx64 : x % 18446744073709551616 < 18446744073709551616 := Nat.mod_lt _ (by decide)
      have hd1 : decide ((0 : Int) < (k : Int)) = true := by rw [decide_eq_true_iff]; omega
      have hd2 : decide (0 < k) = true := by rw [decide_eq_true_iff]; exact h0
      have hk1 : (k : Int) - 1 = ((k - 1 : Nat) : Int) := by omega
      have hd := d.toNat_lt
      generalize hy : x % 18446744073709551616 = y at HACC hx64
      have HY := Lib.hid hy
      clear hy
      go_wp2_with fail
      go_round
      case rel => exact ⟨k - 1, by omega, by go_num, by rw [HV.out, ← HACC.out]; go_num⟩
      case measure => simp [intOf]; omega
    · obtain rfl : k = 0 := by omega
      rw [List.drop_zero]
      generalize hy : val (xs.take n) % 18446744073709551616 = y at HN ⊢
      have hy64 : y < 18446744073709551616 := by rw [← hy]; exact Nat.mod_lt _ (by decide)
      clear hy
      by_cases hn0 : n = 0
      · have hb0 : ((n : Int) == 0) = true := by rw [beq_iff_eq]; omega
        have hnone : num xs 0 = none := by rw [← HN.out, if_pos hn0]
        have HNONE := Lib.hid hnone
        clear hn0 hnone
        go_wp2_with fail
        refine PF.pf_begin (by kernel_rfl) ?_
        refine PF.pf_take0 0 (by kernel_rfl) rfl (fun _ _ _ _ _ h => h) (by kernel_rfl) (fun u => by go_simp; try rfl) ?_
        try simp only [Act.put, pz0, pz1, pz2]
        refine PF.pf_take0 1 (by kernel_rfl) rfl (fun _ _ _ _ _ h => h) (by kernel_rfl) (fun u => by go_simp; try rfl) ?_
        try simp only [Act.put, pz0, pz1, pz2]
        refine PF.pf_take0 2 (by kernel_rfl) rfl (fun _ _ _ _ _ h => h) (by kernel_rfl) (fun u => by go_simp; try rfl) ?_
        try simp only [Act.put, pz0, pz1, pz2]
        refine PF.pf_skip0 3 (by kernel_rfl) rfl (fun _ _ _ _ _ h => h) (by kernel_rfl) ?_
        try simp only [Act.put, pz0, pz1, pz2]
        refine PF.pf_skip0 6 (by kernel_rfl) rfl (fun _ _ _ _ _ h => h) (by kernel_rfl) ?_
        try simp only [Act.put, pz0, pz1, pz2]
        refine PF.pf_skip0 7 (by kernel_rfl) rfl (fun _ _ _ _ _ h => h) (by kernel_rfl) ?_
        try simp only [Act.put, pz0, pz1, pz2]
        refine PF.pf_skip0 8 (by kernel_rfl) rfl (fun _ _ _ _ _ h => h) (by kernel_rfl) ?_
        try simp only [Act.put, pz0, pz1, pz2]
        refine PF.pf_skip0 9 (by kernel_rfl) rfl (fun _ _ _ _ _ h => h) (by kernel_rfl) ?_
        try simp only [Act.put, pz0, pz1, pz2]
        refine PF.pf_skip0 10 (by kernel_rfl) rfl (fun _ _ _ _ _ h => h) (by kernel_rfl) ?_
        try simp only [Act.put, pz0, pz1, pz2]
        refine PF.pf_skip0 11 (by kernel_rfl) rfl (fun _ _ _ _ _ h => h) (by kernel_rfl) ?_
        try simp only [Act.put, pz0, pz1, pz2]
        refine PF.pf_skip0 12 (by kernel_rfl) rfl (fun _ _ _ _ _ h => h) (by kernel_rfl) ?_
        try simp only [Act.put, pz0, pz1, pz2]
        refine PF.pf_skip 4 (by kernel_rfl) rfl (by kernel_rfl) ?_
        try simp only [Act.put, pz0, pz1, pz2]
        refine PF.pf_skip0 5 (by kernel_rfl) rfl (fun _ _ _ _ _ h => h) (by kernel_rfl) ?_
        try simp only [Act.put, pz0, pz1, pz2]
        refine PF.pf_skip0 13 (by kernel_rfl) rfl (fun _ _ _ _ _ h => h) (by kernel_rfl) ?_
        try simp only [Act.put, pz0, pz1, pz2]
        refine PF.pf_take0 14 (by kernel_rfl) rfl (fun _ _ _ _ _ h => h) (by kernel_rfl) (fun u => by go_simp; try rfl) ?_
        try simp only [Act.put, pz0, pz1, pz2]
        refine PF.pf_done (by kernel_rfl) ?_
        go_wp2_with fail
        go_ret2
        rw [HNONE.out]
        exact ⟨rfl, (Below.refl _ _).drew⟩
      · have hb0 : ((n : Int) == 0) = false := by rw [beq_eq_false_iff_ne]; omega
        have HSH := Lib.hid (rshort_any y hy64 w.drew)
        have hbk : Bytes w.drew A (xs.take n) := by
          have h : Bytes w.drew A xs := HB.out.below ((Below.refl _ _).drew)
          have := Reads.take h (k := n) hn1
          unfold Bytes
          rw [List.length_take, Nat.min_eq_left hn1, List.map_take]
          simpa using this
        have HBK := Lib.hid hbk
        have hlq : (xs.take n).length = n := by rw [List.length_take]; omega
        have hnc : (0 : Int) ≤ n ∧ (n : Int) ≤ c := by omega
        clear hbk
        by_cases heq : short y = xs.take n
        · have hneq : (!short y == xs.take n) = false := by rw [heq]; simp
          have HS : Hid (num xs 0 = some (y, n)) := by
            have := HN.out
            rw [if_neg hn0, if_pos heq] at this
            exact this.symm
          clear heq hn0
          go_wp2_with fail
          refine PF.pf_begin (by kernel_rfl) ?_
          refine PF.pf_take0 0 (by kernel_rfl) rfl (fun _ _ _ _ _ h => h) (by kernel_rfl) (fun u => by go_simp; try rfl) ?_
          try simp only [Act.put, pz0, pz1, pz2]
          refine PF.pf_take0 1 (by kernel_rfl) rfl (fun _ _ _ _ _ h => h) (by kernel_rfl) (fun u => by go_simp; try rfl) ?_
          try simp only [Act.put, pz0, pz1, pz2]
          refine PF.pf_take0 2 (by kernel_rfl) rfl (fun _ _ _ _ _ h => h) (by kernel_rfl) (fun u => by go_simp; try rfl) ?_
          try simp only [Act.put, pz0, pz1, pz2]
          refine PF.pf_take0 3 (by kernel_rfl) rfl (fun _ _ _ _ _ h => h) (by kernel_rfl) (fun u => by go_simp; try rfl) ?_
          try simp only [Act.put, pz0, pz1, pz2]
          refine PF.pf_take0 6 (by kernel_rfl) rfl (fun _ _ _ _ _ h => h) (by kernel_rfl) (fun u => by go_simp; try rfl) ?_
          try simp only [Act.put, pz0, pz1, pz2]
          refine PF.pf_take0 7 (by kernel_rfl) rfl (fun _ _ _ _ _ h => h) (by kernel_rfl) (fun u => by go_simp; try rfl) ?_
          try simp only [Act.put, pz0, pz1, pz2]
          refine PF.pf_take0 8 (by kernel_rfl) rfl (fun _ _ _ _ _ h => h) (by kernel_rfl) (fun u => by go_simp; try rfl) ?_
          try simp only [Act.put, pz0, pz1, pz2]
          refine PF.pf_take1 9 (PF.Same (m) _) (by kernel_rfl) rfl (fun _ _ _ _ _ h => h) (by kernel_rfl) (PF.Same.refl _ _) (fun u hu => by have hcu := hu.cell; go_simp; try rfl) ?_
          try simp only [Act.put, pz0, pz1, pz2]
          refine PF.pf_take0 10 (by kernel_rfl) rfl (fun _ _ _ _ _ h => h) (by kernel_rfl) (fun u => by go_simp; try rfl) ?_
          try simp only [Act.put, pz0, pz1, pz2]
          refine PF.pf_take0 11 (by kernel_rfl) rfl (fun _ _ _ _ _ h => h) (by kernel_rfl) (fun u => by go_simp; try rfl) ?_
          try simp only [Act.put, pz0, pz1, pz2]
          refine PF.pf_take1 12 (fun u => Bytes u A (xs.take n)) (by kernel_rfl) rfl (fun _ _ _ _ _ h => h) (by kernel_rfl) (HBK.out) (fun u hu => by (have hcv := conv_str (P := Tryd.prog) (w := u) (n := n) (c := c) Tryd.underlying22 Tryd.underlying5 Tryd.underlying9 hu hlq; go_simp; rfl)) ?_
          try simp only [Act.put, pz0, pz1, pz2]
          refine PF.pf_exec 4 (by kernel_rfl) rfl (by kernel_rfl) (fun K hK => ?_)
          go_simp
          refine HSH.out.mono ?_
          rintro e w4 ⟨A4, c4, rfl, ho4, hb4⟩
          have HB4 := Lib.hid (Below.trans ((Below.refl w.heap.size w).drew) hb4)
          have hcv4 := conv_str (P := Tryd.prog) (w := w4) (n := (short y).length) (c := c4) Tryd.underlying22 Tryd.underlying5 Tryd.underlying9 (own_bytes ho4) rfl
          refine hK _ _ (by repeat (first | exact PF.owes_nil | refine PF.owes_left ?_ | refine PF.owes_no (by decide +kernel) ?_ | refine PF.owes_yes (by first | exact HBK.out.below hb4 | exact hb4.block m hltm) ?_)) ?_
          clear hK K
          try simp only [Act.put, pz0, pz1, pz2]
          refine PF.pf_take1 5 (fun u => (convert 22 9 (.slice A4 (short y).length c4)).run Tryd.prog u = .ok (.string ⟨(short y).toArray⟩) u) (by kernel_rfl) rfl (fun _ _ _ _ _ h => h) (by kernel_rfl) (hcv4) (fun u hu => by (go_simp; rfl)) ?_
          try simp only [Act.put, pz0, pz1, pz2]
          refine PF.pf_take0 13 (by kernel_rfl) rfl (fun _ _ _ _ _ h => h) (by kernel_rfl) (fun u => by go_simp; try rfl) ?_
          try simp only [Act.put, pz0, pz1, pz2]
          refine PF.pf_take0 14 (by kernel_rfl) rfl (fun _ _ _ _ _ h => h) (by kernel_rfl) (fun u => by go_simp; try rfl) ?_
          try simp only [Act.put, pz0, pz1, pz2]
          refine PF.pf_done (by kernel_rfl) ?_
          go_wp2_with fail
          go_ret2
          rw [HS.out]
          exact ⟨rfl, HB4.out⟩
        · have hneq : (!short y == xs.take n) = true := by simpa using heq
          have HS : Hid (num xs 0 = none) := by
            have := HN.out
            rw [if_neg hn0, if_neg heq] at this
            exact this.symm
          clear heq hn0
          go_wp2_with fail
          refine PF.pf_begin (by kernel_rfl) ?_
          refine PF.pf_take0 0 (by kernel_rfl) rfl (fun _ _ _ _ _ h => h) (by kernel_rfl) (fun u => by go_simp; try rfl) ?_
          try simp only [Act.put, pz0, pz1, pz2]
          refine PF.pf_take0 1 (by kernel_rfl) rfl (fun _ _ _ _ _ h => h) (by kernel_rfl) (fun u => by go_simp; try rfl) ?_
          try simp only [Act.put, pz0, pz1, pz2]
          refine PF.pf_take0 2 (by kernel_rfl) rfl (fun _ _ _ _ _ h => h) (by kernel_rfl) (fun u => by go_simp; try rfl) ?_
          try simp only [Act.put, pz0, pz1, pz2]
          refine PF.pf_take0 3 (by kernel_rfl) rfl (fun _ _ _ _ _ h => h) (by kernel_rfl) (fun u => by go_simp; try rfl) ?_
          try simp only [Act.put, pz0, pz1, pz2]
          refine PF.pf_take0 6 (by kernel_rfl) rfl (fun _ _ _ _ _ h => h) (by kernel_rfl) (fun u => by go_simp; try rfl) ?_
          try simp only [Act.put, pz0, pz1, pz2]
          refine PF.pf_take0 7 (by kernel_rfl) rfl (fun _ _ _ _ _ h => h) (by kernel_rfl) (fun u => by go_simp; try rfl) ?_
          try simp only [Act.put, pz0, pz1, pz2]
          refine PF.pf_take0 8 (by kernel_rfl) rfl (fun _ _ _ _ _ h => h) (by kernel_rfl) (fun u => by go_simp; try rfl) ?_
          try simp only [Act.put, pz0, pz1, pz2]
          refine PF.pf_take1 9 (PF.Same (m) _) (by kernel_rfl) rfl (fun _ _ _ _ _ h => h) (by kernel_rfl) (PF.Same.refl _ _) (fun u hu => by have hcu := hu.cell; go_simp; try rfl) ?_
          try simp only [Act.put, pz0, pz1, pz2]
          refine PF.pf_take0 10 (by kernel_rfl) rfl (fun _ _ _ _ _ h => h) (by kernel_rfl) (fun u => by go_simp; try rfl) ?_
          try simp only [Act.put, pz0, pz1, pz2]
          refine PF.pf_take0 11 (by kernel_rfl) rfl (fun _ _ _ _ _ h => h) (by kernel_rfl) (fun u => by go_simp; try rfl) ?_
          try simp only [Act.put, pz0, pz1, pz2]
          refine PF.pf_take1 12 (fun u => Bytes u A (xs.take n)) (by kernel_rfl) rfl (fun _ _ _ _ _ h => h) (by kernel_rfl) (HBK.out) (fun u hu => by (have hcv := conv_str (P := Tryd.prog) (w := u) (n := n) (c := c) Tryd.underlying22 Tryd.underlying5 Tryd.underlying9 hu hlq; go_simp; rfl)) ?_
          try simp only [Act.put, pz0, pz1, pz2]
          refine PF.pf_exec 4 (by kernel_rfl) rfl (by kernel_rfl) (fun K hK => ?_)
          go_simp
          refine HSH.out.mono ?_
          rintro e w4 ⟨A4, c4, rfl, ho4, hb4⟩
          have HB4 := Lib.hid (Below.trans ((Below.refl w.heap.size w).drew) hb4)
          have hcv4 := conv_str (P := Tryd.prog) (w := w4) (n := (short y).length) (c := c4) Tryd.underlying22 Tryd.underlying5 Tryd.underlying9 (own_bytes ho4) rfl
          refine hK _ _ (by repeat (first | exact PF.owes_nil | refine PF.owes_left ?_ | refine PF.owes_no (by decide +kernel) ?_ | refine PF.owes_yes (by first | exact HBK.out.below hb4 | exact hb4.block m hltm) ?_)) ?_
          clear hK K
          try simp only [Act.put, pz0, pz1, pz2]
          refine PF.pf_take1 5 (fun u => (convert 22 9 (.slice A4 (short y).length c4)).run Tryd.prog u = .ok (.string ⟨(short y).toArray⟩) u) (by kernel_rfl) rfl (fun _ _ _ _ _ h => h) (by kernel_rfl) (hcv4) (fun u hu => by (go_simp; rfl)) ?_
          try simp only [Act.put, pz0, pz1, pz2]
          refine PF.pf_take0 13 (by kernel_rfl) rfl (fun _ _ _ _ _ h => h) (by kernel_rfl) (fun u => by go_simp; try rfl) ?_
          try simp only [Act.put, pz0, pz1, pz2]
          refine PF.pf_take0 14 (by kernel_rfl) rfl (fun _ _ _ _ _ h => h) (by kernel_rfl) (fun u => by go_simp; try rfl) ?_
          try simp only [Act.put, pz0, pz1, pz2]
          refine PF.pf_done (by kernel_rfl) ?_
          go_wp2_with fail
          go_ret2
          rw [HS.out]
          exact ⟨rfl, HB4.out⟩
end Go.Proofs.YtdckdjkkaangmaaDoor

/- The document's reader: Uint, Text. -/
namespace Go.Proofs.YtdckdjkkaangmaaDoor
set_option linter.unusedVariables false
set_option linter.unusedSimpArgs false
set_option maxRecDepth 100000
open Go.RowKit

theorem Rf.lost {base : Nat → Prop} {w : World} {m : Nat} {xs : List UInt8} {f : Bool} (h : Rf base w m xs f) : Rft base m xs (0, [], 0, true) w (w.setCell ⟨m, 1, none⟩ (.bool true)) := by
  obtain ⟨A, c, h1, h2, h3, h4, h5, h6⟩ := h
  have hm : Mod (fun k => k = m) w (w.setCell ⟨m, 1, none⟩ (.bool true)) := (Mod.refl (fun k => k = m) w).set (p := ⟨m, 1, none⟩) (fun _ => rfl) _
  exact ⟨⟨A, c, h1.put 1 _, h2.modp hm fun ad e h0 => (h6 ad e h0).2, h3, h4, h5, h6⟩, hm⟩
theorem Rft.ahead {base : Nat → Prop} {m : Nat} {xs : List UInt8} {t : Nat × List UInt8 × Nat × Bool} {w w1 w2 : World} (hb : Below w.heap.size w w1) (h : Rft base m xs t w1 w2) : Rft base m xs t w w2 :=
  ⟨h.1, (Mod.below hb (Nat.le_refl _)).trans h.2⟩
theorem getP_uint (m : Int) (xs : List UInt8) : getP 2 m xs = (num xs 0).map fun r => (r.1, [], r.2) := rfl
theorem getP_text (m : Int) (xs : List UInt8) : getP 3 m xs = (num xs 0).bind fun r => if 0 ≤ m ∧ (r.1 : Int) ≤ m ∧ r.1 ≤ xs.length - r.2 then some (0, (xs.drop r.2).take r.1, r.2 + r.1) else none := rfl
theorem raw_step {n : Nat} {xs : List UInt8} (h : n ≤ xs.length) : stepP 4 (n : Int) xs false = (0, xs.take n, n, false) := stepP_some (by rw [getP_raw, if_pos ⟨by omega, by omega⟩]; simp)
set_option maxRecDepth 100000 in
set_option maxHeartbeats 2000000 in
theorem runint_any (base : Nat → Prop) (w : World) (m : Nat) (xs : List UInt8) (f : Bool) (h : Rf base w m xs f) (hl : xs.length ≤ 140737488355328) (hbase : ∀ k, w.heap.size ≤ k → base k) :
    Calls Tryd.prog 29 #[.pointer (some ⟨m, 0, none⟩)] w fun e w' => e = .returned (.int .u64 ((stepP 2 0 xs f).1 : Int)) ∧ Rft base m xs (stepP 2 0 xs f) w w' := by
  have HN := Lib.hid (rnumber_any base w m xs f h)
  have H := Lib.hid h
  clear h
  cases hn : num xs 0 with
  | none =>
    have hs : stepP 2 0 xs f = (0, [], 0, true) := by
      cases f with
      | true => rfl
      | false => exact stepP_none (by rw [getP_uint, hn]; rfl)
    have HS := Lib.hid hs
    rw [hn] at HN
    clear hs hn
    go_enter Tryd.func29, Tryd.ntmps29
    go_wp2_with fail
    refine HN.out.mono ?_
    rintro e w1 ⟨rfl, hb⟩
    have HB := Lib.hid hb
    have H1 := Lib.hid (H.out.below hb)
    obtain ⟨A, c, h1, _⟩ := H1.out
    have c1 := h1.cell 1
    have f1 := h1.free 1
    simp only [List.getElem?_toArray, List.getElem?_cons_succ, List.getElem?_cons_zero] at c1
    clear hb h1
    unfold pairOf
    go_wp2_with fail
    go_ret
    rw [HS.out]
    exact ⟨rfl, Rft.ahead HB.out H1.out.lost⟩
  | some v =>
    obtain ⟨y, k⟩ := v
    have hsd := num_sound xs 0 y k (by omega) hn
    have hk1 : 1 ≤ k := by
      have h1 := hsd.2.1
      have h2 := short_len_pos y
      rw [h1, List.length_take] at h2
      omega
    have hk2 : k ≤ xs.length := hsd.1
    have hk0 : ((k : Int) == 0) = false := by rw [beq_eq_false_iff_ne]; omega
    have hsf : stepP 2 0 xs false = (y, [], k, false) := stepP_some (by rw [getP_uint, hn]; rfl)
    have HSF := Lib.hid hsf
    rw [hn] at HN
    clear hsd hsf hn
    cases f with
    | true =>
      go_enter Tryd.func29, Tryd.ntmps29
      go_wp2_with fail
      refine HN.out.mono ?_
      rintro e w1 ⟨rfl, hb⟩
      have HB := Lib.hid hb
      have H1 := Lib.hid (H.out.below hb)
      obtain ⟨A, c, h1, _⟩ := H1.out
      have c1 := h1.cell 1
      have f1 := h1.free 1
      simp only [List.getElem?_toArray, List.getElem?_cons_succ, List.getElem?_cons_zero] at c1
      clear hb h1
      unfold pairOf
      go_wp2_with fail
      go_ret
      exact ⟨rfl, Rft.ahead HB.out H1.out.lost⟩
    | false =>
      go_enter Tryd.func29, Tryd.ntmps29
      go_wp2_with fail
      refine HN.out.mono ?_
      rintro e w1 ⟨rfl, hb⟩
      have HB := Lib.hid hb
      have H1 := Lib.hid (H.out.below hb)
      have hb1 : ∀ k, w1.heap.size ≤ k → base k := fun k hk => hbase k (Nat.le_trans hb.size hk)
      have hraw := rraw_any base w1 m xs false k (by omega) (by omega) H1.out hl hb1
      unfold RawPost at hraw
      rw [raw_step hk2] at hraw
      have HR := Lib.hid hraw
      obtain ⟨A, c, h1, _⟩ := H1.out
      have c1 := h1.cell 1
      simp only [List.getElem?_toArray, List.getElem?_cons_succ, List.getElem?_cons_zero] at c1
      clear hb h1 hraw
      unfold pairOf
      go_wp2_with fail
      refine HR.out.mono ?_
      rintro e w2 ⟨⟨A2, c2, rfl, _⟩, hr⟩
      have HRT := Lib.hid (Rft.ahead HB.out hr)
      clear hr
      go_wp2_with fail
      go_ret
      rw [HSF.out]
      exact ⟨rfl, HRT.out⟩
set_option maxRecDepth 100000 in
set_option maxHeartbeats 4000000 in
theorem rtextr_any (base : Nat → Prop) (w : World) (m : Nat) (xs : List UInt8) (f : Bool) (most : Int) (hm1 : -9223372036854775808 ≤ most) (hm2 : most ≤ 9223372036854775807) (h : Rf base w m xs f) (hl : xs.length ≤ 140737488355328) (hbase : ∀ k, w.heap.size ≤ k → base k) :
    Calls Tryd.prog 64 #[.pointer (some ⟨m, 0, none⟩), .int .i64 most] w fun e w' => e = .returned (.string ⟨(stepP 3 most xs f).2.1.toArray⟩) ∧ Rft base m xs (stepP 3 most xs f) w w' := by
  have HN := Lib.hid (rnumber_any base w m xs f h)
  have H := Lib.hid h
  clear h
  have hlost : (num xs 0 = none ∨ f = true ∨ ∀ y k, num xs 0 = some (y, k) → ¬ (0 ≤ most ∧ (y : Int) ≤ most ∧ y ≤ xs.length - k)) → stepP 3 most xs f = (0, [], 0, true) := by
    intro h
    cases f with
    | true => rfl
    | false =>
      refine stepP_none ?_
      rw [getP_text]
      rcases h with h | h | h
      · rw [h]; rfl
      · cases h
      · cases hn : num xs 0 with
        | none => rfl
        | some v =>
          obtain ⟨y, k⟩ := v
          rw [Option.bind_some, if_neg]
          exact h y k hn
  cases hn : num xs 0 with
  | none =>
    have HS := Lib.hid (hlost (.inl hn))
    rw [hn] at HN
    clear hlost hn
    go_enter Tryd.func64, Tryd.ntmps64
    go_wp2_with fail
    refine HN.out.mono ?_
    rintro e w1 ⟨rfl, hb⟩
    have HB := Lib.hid hb
    have H1 := Lib.hid (H.out.below hb)
    obtain ⟨A, c, h1, _⟩ := H1.out
    have c1 := h1.cell 1
    have f1 := h1.free 1
    simp only [List.getElem?_toArray, List.getElem?_cons_succ, List.getElem?_cons_zero] at c1
    clear hb h1
    unfold pairOf
    go_wp2_with fail
    go_ret
    rw [HS.out]
    exact ⟨rfl, Rft.ahead HB.out H1.out.lost⟩
  | some v =>
    obtain ⟨y, k⟩ := v
    have hsd := num_sound xs 0 y k (by omega) hn
    have hy64 : y < 18446744073709551616 := (num_digits hn).2.2
    have hk1 : 1 ≤ k := by
      have h1 := hsd.2.1
      have h2 := short_len_pos y
      rw [h1, List.length_take] at h2
      omega
    have hk2 : k ≤ xs.length := hsd.1
    have hk0 : ((k : Int) == 0) = false := by rw [beq_eq_false_iff_ne]; omega
    have hsub : (xs.length : Int) - (k : Int) = ((xs.length - k : Nat) : Int) := by omega
    have hw2 : IntKind.u64.wrap ((xs.length - k : Nat) : Int) = ((xs.length - k : Nat) : Int) := by rw [IntKind.wrap_u64]; omega
    have hgood : 0 ≤ most → (y : Int) ≤ most → y ≤ xs.length - k → stepP 3 most xs false = (0, (xs.drop k).take y, k + y, false) := fun a b c => stepP_some (by rw [getP_text, hn, Option.bind_some, if_pos ⟨a, b, c⟩])
    have hcase : f = true ∨ (f = false ∧ most < 0) ∨ (f = false ∧ 0 ≤ most ∧ most < y) ∨ (f = false ∧ 0 ≤ most ∧ (y : Int) ≤ most ∧ xs.length - k < y) ∨ (f = false ∧ 0 ≤ most ∧ (y : Int) ≤ most ∧ y ≤ xs.length - k) := by
      cases f <;> simp <;> omega
    have hbad : ¬ (f = false ∧ 0 ≤ most ∧ (y : Int) ≤ most ∧ y ≤ xs.length - k) → stepP 3 most xs f = (0, [], 0, true) := fun hno => hlost (by
      cases f with
      | true => exact .inr (.inl rfl)
      | false =>
        refine .inr (.inr fun y' k' hn' hc => hno ?_)
        rw [hn] at hn'
        simp only [Option.some.injEq, Prod.mk.injEq] at hn'
        obtain ⟨rfl, rfl⟩ := hn'
        exact ⟨rfl, hc⟩)
    have HBAD := Lib.hid hbad
    have HGOOD := Lib.hid hgood
    rw [hn] at HN
    clear hsd hn hlost hbad hgood
    rcases hcase with rfl | ⟨rfl, h0⟩ | ⟨rfl, h0, hlt⟩ | ⟨rfl, h0, hle, hlt⟩ | ⟨rfl, h0, hle, hyl⟩
    · have HS := Lib.hid (HBAD.out (by rintro ⟨h, _⟩; cases h))
      clear HBAD HGOOD
      go_enter Tryd.func64, Tryd.ntmps64
      go_wp2_with fail
      refine HN.out.mono ?_
      rintro e w1 ⟨rfl, hb⟩
      have HB := Lib.hid hb
      have H1 := Lib.hid (H.out.below hb)
      obtain ⟨A, c, h1, _⟩ := H1.out
      have c0 := h1.cell 0
      have c1 := h1.cell 1
      have f1 := h1.free 1
      simp only [List.getElem?_toArray, List.getElem?_cons_succ, List.getElem?_cons_zero] at c0 c1
      clear hb h1
      unfold pairOf
      go_wp2_with fail
      go_ret
      rw [HS.out]
      exact ⟨rfl, Rft.ahead HB.out H1.out.lost⟩
    · have HS := Lib.hid (HBAD.out (by omega))
      have hd1 : decide (most < 0) = true := by rw [decide_eq_true_iff]; exact h0
      clear HBAD HGOOD
      go_enter Tryd.func64, Tryd.ntmps64
      go_wp2_with fail
      refine HN.out.mono ?_
      rintro e w1 ⟨rfl, hb⟩
      have HB := Lib.hid hb
      have H1 := Lib.hid (H.out.below hb)
      obtain ⟨A, c, h1, _⟩ := H1.out
      have c0 := h1.cell 0
      have c1 := h1.cell 1
      have f1 := h1.free 1
      simp only [List.getElem?_toArray, List.getElem?_cons_succ, List.getElem?_cons_zero] at c0 c1
      clear hb h1
      unfold pairOf
      go_wp2_with fail
      go_ret
      rw [HS.out]
      exact ⟨rfl, Rft.ahead HB.out H1.out.lost⟩
    · have HS := Lib.hid (HBAD.out (by omega))
      have hd1 : decide (most < 0) = false := by rw [decide_eq_false_iff_not]; omega
      have hw1 : IntKind.u64.wrap most = most := by rw [IntKind.wrap_u64]; omega
      have hd2 : decide (most < (y : Int)) = true := by rw [decide_eq_true_iff]; exact hlt
      clear HBAD HGOOD
      go_enter Tryd.func64, Tryd.ntmps64
      go_wp2_with fail
      refine HN.out.mono ?_
      rintro e w1 ⟨rfl, hb⟩
      have HB := Lib.hid hb
      have H1 := Lib.hid (H.out.below hb)
      obtain ⟨A, c, h1, _⟩ := H1.out
      have c0 := h1.cell 0
      have c1 := h1.cell 1
      have f1 := h1.free 1
      simp only [List.getElem?_toArray, List.getElem?_cons_succ, List.getElem?_cons_zero] at c0 c1
      clear hb h1
      unfold pairOf
      go_wp2_with fail
      go_ret
      rw [HS.out]
      exact ⟨rfl, Rft.ahead HB.out H1.out.lost⟩
    · have HS := Lib.hid (HBAD.out (by omega))
      have hd1 : decide (most < 0) = false := by rw [decide_eq_false_iff_not]; omega
      have hw1 : IntKind.u64.wrap most = most := by rw [IntKind.wrap_u64]; omega
      have hd2 : decide (most < (y : Int)) = false := by rw [decide_eq_false_iff_not]; omega
      have hd3 : decide (((xs.length - k : Nat) : Int) < (y : Int)) = true := by rw [decide_eq_true_iff]; omega
      have hd4 : decide (xs.length - k < y) = true := by rw [decide_eq_true_iff]; exact hlt
      clear HBAD HGOOD
      go_enter Tryd.func64, Tryd.ntmps64
      go_wp2_with fail
      refine HN.out.mono ?_
      rintro e w1 ⟨rfl, hb⟩
      have HB := Lib.hid hb
      have H1 := Lib.hid (H.out.below hb)
      obtain ⟨A, c, h1, _⟩ := H1.out
      have c0 := h1.cell 0
      have c1 := h1.cell 1
      have f1 := h1.free 1
      simp only [List.getElem?_toArray, List.getElem?_cons_succ, List.getElem?_cons_zero] at c0 c1
      clear hb h1
      unfold pairOf
      go_wp2_with fail
      go_ret
      rw [HS.out]
      exact ⟨rfl, Rft.ahead HB.out H1.out.lost⟩
    · have HS := Lib.hid (HGOOD.out h0 hle hyl)
      have hd1 : decide (most < 0) = false := by rw [decide_eq_false_iff_not]; omega
      have hw1 : IntKind.u64.wrap most = most := by rw [IntKind.wrap_u64]; omega
      have hd2 : decide (most < (y : Int)) = false := by rw [decide_eq_false_iff_not]; omega
      have hd3 : decide (((xs.length - k : Nat) : Int) < (y : Int)) = false := by rw [decide_eq_false_iff_not]; omega
      have hd4 : decide (xs.length - k < y) = false := by rw [decide_eq_false_iff_not]; omega
      have hw3 : IntKind.i64.wrap (y : Int) = (y : Int) := IntWalk.i64_in _ (by omega)
      clear HBAD HGOOD
      go_enter Tryd.func64, Tryd.ntmps64
      go_wp2_with fail
      refine HN.out.mono ?_
      rintro e w1 ⟨rfl, hb⟩
      have HB := Lib.hid hb
      have H1 := Lib.hid (H.out.below hb)
      have hb1 : ∀ k, w1.heap.size ≤ k → base k := fun k hk => hbase k (Nat.le_trans hb.size hk)
      have hraw := rraw_any base w1 m xs false k (by omega) (by omega) H1.out hl hb1
      unfold RawPost at hraw
      rw [raw_step hk2] at hraw
      have HR := Lib.hid hraw
      obtain ⟨A, c, h1, _⟩ := H1.out
      have c0 := h1.cell 0
      have c1 := h1.cell 1
      simp only [List.getElem?_toArray, List.getElem?_cons_succ, List.getElem?_cons_zero] at c0 c1
      clear hb h1 hraw
      unfold pairOf
      go_wp2_with fail
      refine HR.out.mono ?_
      rintro e w2 ⟨⟨A2, c2, rfl, _⟩, hr⟩
      have HRT := Lib.hid (Rft.ahead HB.out hr)
      have hb2 : ∀ k, w2.heap.size ≤ k → base k := fun k hk => hb1 k (Nat.le_trans hr.2.size hk)
      have hraw := rraw_any base w2 m (xs.drop k) false y (by omega) (by omega) HRT.out.1 (by rw [List.length_drop]; omega) hb2
      unfold RawPost at hraw
      rw [raw_step (by rw [List.length_drop]; omega)] at hraw
      have HR2 := Lib.hid hraw
      have hlen : ((xs.drop k).take y).length = y := by rw [List.length_take, List.length_drop]; omega
      have HLEN := Lib.hid hlen
      clear hr hraw c0 c1 hlen HR
      go_wp2_with fail
      refine HR2.out.mono ?_
      rintro e w3 ⟨⟨A3, c3, rfl, hB3, _⟩, hr3⟩
      have HB3 := Lib.hid hB3
      have HRT3 := Lib.hid hr3
      have hcv := conv_str (P := Tryd.prog) (w := w3) (n := ((xs.drop k).take y).length) (c := c3) Tryd.underlying22 Tryd.underlying5 Tryd.underlying9 HB3.out rfl
      simp only [HLEN.out] at hcv ⊢
      clear hr3 hB3 HR2
      go_wp2_with fail
      go_ret
      rw [HS.out]
      refine ⟨rfl, ?_, HRT.out.2.trans HRT3.out.2⟩
      have := HRT3.out.1
      simp only at this ⊢
      rwa [List.drop_drop] at this
end Go.Proofs.YtdckdjkkaangmaaDoor
