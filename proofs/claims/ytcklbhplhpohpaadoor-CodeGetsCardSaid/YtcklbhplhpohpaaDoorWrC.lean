/- The writer: Uint, Put, Text; what a nil one does. -/
import Derived.Test.YtcklbhplhpohpaaDoorWrB
namespace Go.Proofs.YtcklbhplhpohpaaDoor
open Go.RowKit

theorem wuint_any (b : Nat) (row : Option Nat) (l : List UInt8) (x : Nat) (hx : x < 18446744073709551616) (w : World) (h : Wr w b row l) (hlim : l.length + 10 ≤ 140737488355328) :
    Calls Tryd.prog 39 #[.pointer (some ⟨b, 0, none⟩), .int .u64 (x : Int)] w fun e w' => e = .returned (.tuple #[]) ∧ Wrt b row (l ++ short x) w w' := by
  have hl := short_len hx
  have HD := Lib.hid (digits_any 10 x w (by omega) (by omega) (by omega) hx)
  have H := Lib.hid h
  clear h hx
  go_enter Tryd.func39, Tryd.ntmps39
  go_wp2_with fail
  refine HD.out.mono ?_
  rintro e w1 ⟨A, c, rfl, ho, hb⟩
  have hr := row_at_head ho
  have HW := Lib.hid (wraw_new b row l (short x) A c _ w w1 H.out hb (own_bytes ho) rfl (fun ad e => (hr ad e).2.2.1) (by omega))
  clear ho hr
  go_wp2_with fail
  refine HW.out.mono ?_
  rintro e w2 ⟨rfl, hw⟩
  have HW2 := Lib.hid hw
  clear hw
  go_wp2_with fail
  go_end0
  exact ⟨rfl, HW2.out⟩
theorem wuint_nil (x : Nat) (hx : x < 18446744073709551616) (w : World) :
    Calls Tryd.prog 39 #[.pointer none, .int .u64 (x : Int)] w fun e w' => e = .returned (.tuple #[]) ∧ Below w.heap.size w w' := by
  have HD := Lib.hid (digits_any 10 x w (by omega) (by omega) (by omega) hx)
  clear hx
  go_enter Tryd.func39, Tryd.ntmps39
  go_wp2_with fail
  refine HD.out.mono ?_
  rintro e w1 ⟨A, c, rfl, ho, hb⟩
  have HB := Lib.hid hb
  clear ho hb
  go_wp2_with fail
  refine (wraw_nil _ _).mono ?_
  rintro e w2 ⟨rfl, rfl⟩
  go_wp2_with fail
  go_end0
  exact ⟨rfl, HB.out⟩
theorem wu8_nil (v : Int) (w : World) : Calls Tryd.prog 33 #[.pointer none, .int .u8 v] w fun e w' => e = .returned (.tuple #[]) ∧ Below w.heap.size w w' := by
  go_enter Tryd.func33, Tryd.ntmps33
  go_wp2_with fail
  refine (wraw_nil _ _).mono ?_
  rintro e w2 ⟨rfl, rfl⟩
  go_wp2_with fail
  go_end0
  exact ⟨rfl, below_new _ _⟩
theorem wu32_nil (v : Int) (hv : 0 ≤ v) (hv2 : v < 4294967296) (w : World) : Calls Tryd.prog 34 #[.pointer none, .int .u32 v] w fun e w' => e = .returned (.tuple #[]) ∧ Below w.heap.size w w' := by
  go_enter Tryd.func34, Tryd.ntmps34
  go_wp2_with fail
  refine (wraw_nil _ _).mono ?_
  rintro e w2 ⟨rfl, rfl⟩
  go_wp2_with fail
  go_end0
  exact ⟨rfl, below_new _ _⟩
theorem wtext_any (b : Nat) (row : Option Nat) (l s : List UInt8) (w : World) (h : Wr w b row l) (hlim : l.length + s.length + 10 ≤ 140737488355328) :
    Calls Tryd.prog 36 #[.pointer (some ⟨b, 0, none⟩), .string ⟨s.toArray⟩] w fun e w' => e = .returned (.tuple #[]) ∧ Wrt b row (l ++ (short s.length ++ s)) w w' := by
  have hl := short_len (y := s.length) (by omega)
  have HU := Lib.hid (wuint_any b row l s.length (by omega) w h (by omega))
  clear h
  go_enter Tryd.func36, Tryd.ntmps36
  go_wp2_with fail
  refine HU.out.mono ?_
  rintro e w1 ⟨rfl, hw⟩
  obtain ⟨row1, h1, h2, h3⟩ := hw
  have H1 := Lib.hid h1
  have H2 := Lib.hid h2
  have H3 := Lib.hid h3
  clear h1 h2 h3
  go_wp2_with (refine str_new_list rfl rfl Tryd.underlying9 Tryd.underlying27 Tryd.underlying5 (l := s) (by omega) rfl ?_; intro c w2 hB hc1 hc2 hb2; have HB2 := Lib.hid hB; have Hb2 := Lib.hid hb2; clear hB hb2)
  refine (wraw_new b row1 _ s _ c s.length w1 w2 H1.out Hb2.out HB2.out rfl (fun ad e => by injection e with e; subst e; exact Nat.le_refl _) (by simp; omega)).mono ?_
  rintro e w3 ⟨rfl, hw⟩
  have HW := Lib.hid hw
  clear hw
  go_wp2_with fail
  go_end0
  refine ⟨rfl, ?_⟩
  rw [← List.append_assoc]
  exact Wrt.step H2.out H3.out HW.out
theorem wtext_nil (s : List UInt8) (hlim : s.length ≤ 140737488355328) (w : World) :
    Calls Tryd.prog 36 #[.pointer none, .string ⟨s.toArray⟩] w fun e w' => e = .returned (.tuple #[]) ∧ Below w.heap.size w w' := by
  have HU := Lib.hid (wuint_nil s.length (by omega) w)
  go_enter Tryd.func36, Tryd.ntmps36
  go_wp2_with fail
  refine HU.out.mono ?_
  rintro e w1 ⟨rfl, hw⟩
  have H1 := Lib.hid hw
  clear hw
  go_wp2_with (refine str_new_list rfl rfl Tryd.underlying9 Tryd.underlying27 Tryd.underlying5 (l := s) (by omega) rfl ?_; intro c w2 hB hc1 hc2 hb2; have H2 := Lib.hid hb2; clear hb2)
  refine (wraw_nil _ _).mono ?_
  rintro e w3 ⟨rfl, rfl⟩
  go_wp2_with fail
  go_end0
  exact ⟨rfl, below_call H1.out H1.out.size H2.out⟩
def u64v (x : Nat) : Value := .int .u64 (x : Int)
set_option maxHeartbeats 400000 in
theorem wput_any (b : Nat) (row : Option Nat) (l : List UInt8) (xs : List Nat) (hx : ∀ x ∈ xs, x < 18446744073709551616) (A : Option Addr) (c n : Nat) (hn : n = xs.length) (w : World) (h : Wr w b row l) (hs : Reads w 1 A n (xs.map u64v)) (hA : ∀ ad, A = some ad → ad.block ≠ b ∧ some ad.block ≠ row) (hlim : l.length + 10 * xs.length ≤ 140737488355328) :
    Calls Tryd.prog 35 #[.pointer (some ⟨b, 0, none⟩), .slice A n c] w fun e w' => e = .returned (.tuple #[]) ∧ Wrt b row (l ++ xs.flatMap short) w w' := by
  have HX := Lib.hid hx
  have HH := Lib.hid h
  have HS := Lib.hid hs
  have HA := Lib.hid hA
  have hn63 : n ≤ 9223372036854775807 := by omega
  have HN := Lib.hid hn
  clear hx h hs hA hn
  go_enter Tryd.func35, Tryd.ntmps35
  go_wp2_with fail
  go_loopw [5, 8] (fun _ i wr => ∃ k : Nat, k ≤ xs.length ∧ i = .int .i64 k ∧ Wrt b row (l ++ (xs.take k).flatMap short) w wr) (fun _ i _ => n - (intOf i).toNat)
  case atStart => exact ⟨0, Nat.zero_le _, rfl, by rw [List.take_zero, List.flatMap_nil, List.append_nil]; exact Wrt.refl HH.out⟩
  case round =>
    obtain ⟨k, hk, rfl, hw⟩ := hrel
    have hnx := HN.out
    by_cases hlt : k < n
    · obtain ⟨row1, h1, h2, h3⟩ := hw
      have hr : Reads wr 1 A n (xs.map u64v) := HS.out.mod h3 fun ad e => by
        have := HA.out ad e
        rintro (h | h)
        · exact this.1 h
        · exact this.2 h
      obtain ⟨g, o, rfl, hg, hcell⟩ := Reads.flat hr (by omega) (by decide)
      have hk2 : k < xs.length := by omega
      have c0 := hcell k (u64v xs[k]) (by rw [List.getElem?_map, List.getElem?_eq_getElem hk2]; rfl)
      unfold u64v at c0
      have hts : (xs.take (k + 1)).flatMap short = (xs.take k).flatMap short ++ short xs[k] := by
        rw [List.take_succ_eq_append_getElem hk2, List.flatMap_append]
        simp
      have hlen : ((xs.take k).flatMap short).length ≤ 10 * k := by
        have : ∀ ys : List Nat, (∀ y ∈ ys, y < 18446744073709551616) → (ys.flatMap short).length ≤ 10 * ys.length := by
          intro ys
          induction ys with
          | nil => simp
          | cons y ys ih =>
            intro hy
            have h1 := short_len (hy y (by simp))
            have h2 := ih fun z hz => hy z (by simp [hz])
            rw [List.flatMap_cons, List.length_append, List.length_cons]
            omega
        have := this (xs.take k) fun y hy => HX.out y (List.mem_of_mem_take hy)
        rw [List.length_take] at this
        omega
      have hU := wuint_any b row1 _ xs[k] (HX.out _ (List.getElem_mem hk2)) wr h1 (by rw [List.length_append]; omega)
      have HU := Lib.hid hU
      have HT := Lib.hid hts
      have H2 := Lib.hid h2
      have H3 := Lib.hid h3
      clear hr hcell hts hlen hU h1 h2 h3 hnx
      generalize xs[k] = x at c0 HU HT
      go_wp2_with fail
      refine HU.out.mono ?_
      rintro e w3 ⟨rfl, hw3⟩
      rw [List.append_assoc, ← HT.out] at hw3
      have HW3 := Lib.hid (Wrt.step H2.out H3.out hw3)
      clear hw3
      go_wp2_with fail
      go_roundw
      case rel => exact ⟨k + 1, by omega, by go_num, HW3.out⟩
      case measure => simp [intOf]; omega
    · have hki : k = xs.length := by omega
      have HW := Lib.hid hw
      have HK := Lib.hid hki
      clear hw hki hnx
      go_wp2_with fail
      go_end0
      have := HW.out
      rw [HK.out, List.take_length] at this
      exact ⟨rfl, this⟩
/-- Numbers that are written out ('w.Put(x, y)'). -/
theorem wput_new (b : Nat) (row : Option Nat) (l : List UInt8) (xs : List Nat) (hx : ∀ x ∈ xs, x < 18446744073709551616) (cs : Array Value) (hcs : cs = (xs.map u64v).toArray) (n c : Nat) (hn : n = xs.length) (w : World) (h : Wr w b row l) (hlim : l.length + 10 * xs.length ≤ 140737488355328) :
    Calls Tryd.prog 35 #[.pointer (some ⟨b, 0, none⟩), .slice (some ⟨w.heap.size, 0, none⟩) n c] (w.alloc (.cells cs 34)) fun e w' => e = .returned (.tuple #[]) ∧ Wrt b row (l ++ xs.flatMap short) w w' := by
  subst hcs hn
  have hb := below_new w (.cells (xs.map u64v).toArray 34)
  have hr := Reads.block w 34 (xs.map u64v)
  rw [List.length_map] at hr
  refine (wput_any b row l xs hx (some ⟨w.heap.size, 0, none⟩) c _ rfl _ (h.below hb) hr (fun ad e => ?_) hlim).mono fun e w' ⟨h1, h2⟩ => ⟨h1, Wrt.ahead hb h.row_lt h2⟩
  injection e with e
  subst e
  have h1 := h.lt
  refine ⟨by simp only; omega, fun e2 => ?_⟩
  have := h.row_lt _ e2.symm
  simp only at this
  omega
end Go.Proofs.YtcklbhplhpohpaaDoor
