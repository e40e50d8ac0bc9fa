/- The law's row, meet. -/
import Derived.Test.YtcklbhplhpohpaaDoorCodeV
import Derived.Laws.BitsAllLaws
namespace Go.Proofs.YtcklbhplhpohpaaDoor
open Go.RowKit

/-- A row of parts' bytes, by the document. -/
def putAll (l : List Pt) : List UInt8 := l.flatMap Pt.put
theorem putAll_snoc {l : List Pt} {k : Nat} (hk : k < l.length) : putAll (l.take (k + 1)) = putAll (l.take k) ++ l[k].put := by
  unfold putAll
  rw [List.take_succ_eq_append_getElem hk, List.flatMap_append]
  simp
theorem sum_take (f : Pt → Nat) : ∀ (l : List Pt) (k : Nat), ((l.take k).map f).sum ≤ (l.map f).sum
  | [], k => by simp
  | p :: l, 0 => by simp
  | p :: l, k + 1 => by
    have := sum_take f l k
    simp only [List.take_succ_cons, List.map_cons, List.sum_cons]
    omega
theorem sum_at (f : Pt → Nat) : ∀ (l : List Pt) (k : Nat) (h : k < l.length), f l[k] ≤ (l.map f).sum
  | p :: l, 0, _ => by simp
  | p :: l, k + 1, h => by
    have := sum_at f l k (by simpa using h)
    simp only [List.map_cons, List.sum_cons, List.getElem_cons_succ]
    omega
theorem putAll_len : ∀ (l : List Pt), (∀ p ∈ l, p.b.length < 18446744073709551616) → (putAll l).length ≤ (l.map fun p => p.b.length).sum + 10 * l.length
  | [], _ => by simp [putAll]
  | p :: l, h => by
    have h1 := p.len_put (h p (by simp))
    have h2 := putAll_len l fun q hq => h q (by simp [hq])
    unfold putAll at h2 ⊢
    simp only [List.flatMap_cons, List.length_append, List.map_cons, List.sum_cons, List.length_cons]
    omega
/-- A row of parts that is not too great: what it comes to. -/
def Fit (l : List Pt) : Prop := l.length ≤ 4000 ∧ (l.map fun p => p.b.length).sum ≤ 160000
theorem Fit.one {l : List Pt} (h : Fit l) {k : Nat} (hk : k < l.length) : l[k].b.length ≤ 160000 := Nat.le_trans (sum_at (fun p => p.b.length) l k hk) h.2
theorem Fit.mem {l : List Pt} (h : Fit l) {p : Pt} (hp : p ∈ l) : p.b.length ≤ 160000 := by
  obtain ⟨k, hk, rfl⟩ := List.getElem_of_mem hp
  exact h.one hk
theorem Fit.len {l : List Pt} (h : Fit l) (k : Nat) : (putAll (l.take k)).length ≤ 200000 := by
  have h1 := putAll_len (l.take k) fun p hp => by have := h.mem (List.mem_of_mem_take hp); omega
  have h2 := sum_take (fun p => p.b.length) l k
  have h3 : (l.take k).length ≤ l.length := List.length_take_le' _ _
  have := h.1
  have := h.2
  omega
theorem Fit.all {l : List Pt} (h : Fit l) : (putAll l).length ≤ 200000 := by
  have := h.len l.length
  rwa [List.take_length] at this
theorem Fit.of_bulk {l : List Pt} (h : bulk l ≤ 2000) : Fit l := by
  have := bulk_le h
  exact ⟨by omega, by omega⟩
set_option maxRecDepth 100000 in
set_option maxHeartbeats 1000000 in
theorem row_any (A : Option Addr) (c n : Nat) (l : List Pt) (hn : n = l.length) (hf : Fit l) (w : World) (h : Pts w A l) :
    Calls Tryd.prog 21 #[.slice A n c] w fun e w' => CloneB w.heap.size (putAll l) e w' ∧ Below w.heap.size w w' := by
  subst hn
  have H := Lib.hid h
  have HF := Lib.hid hf
  have hl4 := hf.1
  clear h hf
  go_enter Tryd.func21, Tryd.ntmps21
  go_wp2_with fail
  refine (newwriter_any w).mono ?_
  rintro e w1 ⟨rfl, hw1, ew1⟩
  have hB1 : Hid (Below w.heap.size w w1) := by rw [ew1]; exact below_new _ _
  have hs1 : w.heap.size < w1.heap.size := by rw [ew1]; simp
  have HW0 := Lib.hid (Wrt.refl hw1)
  clear ew1 hw1
  go_wp2_with fail
  go_loopw [4] (fun i wr => ∃ k : Nat, k ≤ l.length ∧ i = .int .i64 k ∧ Wrt w.heap.size none (putAll (l.take k)) w1 wr) (fun i _ => l.length - (intOf i).toNat)
  case atStart => exact ⟨0, Nat.zero_le _, rfl, by rw [List.take_zero]; exact HW0.out⟩
  case round =>
    clear HW0
    obtain ⟨k, hk, rfl, hw⟩ := hrel
    have hbr := Wrt.below hB1.out hw (Nat.le_of_lt hs1) (Nat.le_refl _)
    have HBR := Lib.hid hbr
    have hsr : w.heap.size ≤ wr.heap.size := hbr.size
    obtain ⟨row, h1, h2, h3⟩ := hw
    have H1 := Lib.hid h1
    have H2 := Lib.hid h2
    have H3 := Lib.hid h3
    clear hbr h1 h2 h3
    by_cases hlt : k < l.length
    · have hP : Pts wr A l := H.out.below HBR.out
      have hsn := putAll_snoc hlt
      have hlen := HF.out.len k
      have hone := HF.out.one hlt
      have hpo := H.out.drop_val hlt
      have hpr := hP.drop_val hlt
      obtain ⟨b, o, rfl, hbl, c0, c1, c2, c3⟩ := hP.at_ hlt
      clear hP
      generalize l[k] = p at c0 c1 c2 c3 hsn hone hpo hpr
      have hput := put_any w.heap.size row _ p wr H1.out hpr (fun h0 ad e => by
        obtain ⟨g, o, e2, hg, _⟩ := Bytes.flat hpo.1 h0
        rw [e] at e2
        injection e2 with e2
        subst e2
        simp only
        refine ⟨by omega, fun e3 => ?_⟩
        rcases H2.out with h | ⟨g', h4, h5⟩
        · rw [h] at e3; cases e3
        · rw [h5] at e3
          injection e3 with e3
          omega) (by omega)
      rw [← hsn] at hput
      unfold Pt.val at hput
      have HP := Lib.hid hput
      clear hput hsn hone hpo hpr hlen
      go_wp2_with fail
      refine HP.out.mono ?_
      rintro e w3 ⟨rfl, hw3⟩
      have HW3 := Lib.hid (Wrt.step H2.out H3.out hw3)
      clear hw3
      go_wp2_with fail
      go_roundw
      case rel => exact ⟨k + 1, by omega, by go_num, HW3.out⟩
      case measure => simp [intOf]; omega
    · obtain rfl : k = l.length := by omega
      have hby := wbytes_any w.heap.size row (putAll (l.take l.length)) wr H1.out (by have := HF.out.len l.length; omega)
      rw [List.take_length] at hby
      have HY := Lib.hid hby
      clear hby
      go_wp2_with fail
      refine HY.out.mono ?_
      rintro e w4 ⟨⟨A4, c4, rfl, ho⟩, hb4⟩
      have HO := Lib.hid ho
      have HB4 := Lib.hid hb4
      clear ho hb4
      go_wp2_with fail
      go_ret
      exact ⟨⟨_, _, rfl, base_le HO.out hsr⟩, below_call HBR.out hsr HB4.out⟩
end Go.Proofs.YtcklbhplhpohpaaDoor
