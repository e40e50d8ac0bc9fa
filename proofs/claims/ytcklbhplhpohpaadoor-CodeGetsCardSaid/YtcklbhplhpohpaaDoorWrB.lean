/- The writer: U8, U32, digits, Uint, Put, Text. -/
import Derived.Test.YtcklbhplhpohpaaDoorWrA
import Derived.Test.YtcklbhplhpohpaaDoorCodeC
import Derived.Laws.IdiomStrings
namespace Go.Proofs.YtcklbhplhpohpaaDoor
open Go.RowKit

theorem Wr.row_lt {w : World} {b : Nat} {row : Option Nat} {l : List UInt8} (h : Wr w b row l) : ∀ g, row = some g → g < w.heap.size := Buf.row_lt h
theorem Wr.lt {w : World} {b : Nat} {row : Option Nat} {l : List UInt8} (h : Wr w b row l) : b < w.heap.size := Buf.lt h
/-- Bytes that lie in new blocks are written. -/
theorem wraw_new (b : Nat) (row : Option Nat) (l s : List UInt8) (A : Option Addr) (c n : Nat) (w w1 : World) (h : Wr w b row l) (hb : Below w.heap.size w w1) (hs : Bytes w1 A s) (hn : n = s.length) (hA : ∀ ad, A = some ad → w.heap.size ≤ ad.block) (hlim : l.length + s.length ≤ 140737488355328) :
    Calls Tryd.prog 37 #[.pointer (some ⟨b, 0, none⟩), .slice A n c] w1 fun e w' => e = .returned (.tuple #[]) ∧ Wrt b row (l ++ s) w w' := by
  refine (wraw_any b row l s A c n w1 (h.below hb) hs hn (fun _ ad e => ?_) hlim).mono ?_
  · have h1 := hA ad e
    have h2 := h.lt
    refine ⟨by omega, fun e2 => ?_⟩
    have := h.row_lt _ e2.symm
    omega
  · rintro e w' ⟨rfl, hw⟩
    exact ⟨rfl, Wrt.ahead hb h.row_lt hw⟩
theorem own_new (w : World) (t : TypeId) (us : List Value) (h : us.length ≤ 9223372036854775807) : (w.alloc (.cells us.toArray t)).ownsRow w.heap.size t 1 (.slice (some ⟨w.heap.size, 0, none⟩) us.length us.length) us.length us :=
  ⟨by simp, .inr ⟨w.heap.size, us.length, us.toArray, rfl, Nat.le_refl _, heap_alloc_new w _, Nat.le_refl _, by simpa [maxLen] using h, by simp, by simp⟩⟩
theorem bv_ofNat (n : Nat) : bv (UInt8.ofNat n) = .int .u8 ((n % 256 : Nat) : Int) := by
  unfold bv
  rw [UInt8.toNat_ofNat']
theorem wu8_any (b : Nat) (row : Option Nat) (l : List UInt8) (v : Int) (hv : 0 ≤ v) (hv2 : v < 256) (w : World) (h : Wr w b row l) (hlim : l.length + 1 ≤ 140737488355328) :
    Calls Tryd.prog 33 #[.pointer (some ⟨b, 0, none⟩), .int .u8 v] w fun e w' => e = .returned (.tuple #[]) ∧ Wrt b row (l ++ [UInt8.ofNat v.toNat]) w w' := by
  have HW := Lib.hid (wraw_new b row l [UInt8.ofNat v.toNat] (some ⟨w.heap.size, 0, none⟩) 1 1 w _ h (below_new w (.cells #[.int .u8 v] 5)) (Bytes.block w _ _ _ _ (by simp only [List.map_cons, List.map_nil, bv_ofNat]; rw [show ((v.toNat % 256 : Nat) : Int) = v by omega])) rfl (fun ad e => by injection e with e; subst e; exact Nat.le_refl _) (by simpa using hlim))
  clear hlim h
  go_enter Tryd.func33, Tryd.ntmps33
  go_wp2_with fail
  refine HW.out.mono ?_
  rintro e w' ⟨rfl, hw⟩
  have HW2 := Lib.hid hw
  clear hw
  go_wp2_with fail
  go_end0
  exact ⟨rfl, HW2.out⟩
theorem wu32_any (b : Nat) (row : Option Nat) (l : List UInt8) (v : Int) (hv : 0 ≤ v) (hv2 : v < 4294967296) (w : World) (h : Wr w b row l) (hlim : l.length + 4 ≤ 140737488355328) :
    Calls Tryd.prog 34 #[.pointer (some ⟨b, 0, none⟩), .int .u32 v] w fun e w' => e = .returned (.tuple #[]) ∧ Wrt b row (l ++ le4 v.toNat) w w' := by
  have HW := fun cs hcs => Lib.hid (wraw_new b row l (le4 v.toNat) (some ⟨w.heap.size, 0, none⟩) 4 4 w _ h (below_new w (.cells cs 5)) (Bytes.block w _ _ _ _ hcs) rfl (fun ad e => by injection e with e; subst e; exact Nat.le_refl _) (by simpa [le4] using hlim))
  clear hlim h
  go_enter Tryd.func34, Tryd.ntmps34
  go_wp2_with fail
  refine (HW _ ?_).out.mono ?_
  · simp only [le4, List.map_cons, List.map_nil, bv_ofNat]
    rw [show ((v.toNat % 256 : Nat) : Int) = v % 256 by omega, show ((v.toNat / 256 % 256 : Nat) : Int) = v / 256 % 256 by omega, show ((v.toNat / 65536 % 256 : Nat) : Int) = v / 65536 % 256 by omega, show ((v.toNat / 16777216 % 256 : Nat) : Int) = v / 16777216 by omega]
  rintro e w' ⟨rfl, hw⟩
  have HW2 := Lib.hid hw
  clear hw
  go_wp2_with fail
  go_end0
  exact ⟨rfl, HW2.out⟩
def DigPost (x : Nat) (w : World) (e : Ending) (w' : World) : Prop := ∃ A c, e = .returned (.slice A (short x).length c) ∧ w'.ownsRow w.heap.size 5 1 (.slice A (short x).length c) (short x).length ((short x).map bv) ∧ Below w.heap.size w w'
set_option maxRecDepth 100000 in
set_option maxHeartbeats 400000 in
theorem digits_any : ∀ (k x : Nat) (w : World), k ≤ 10 → x < 128 ^ k → 0 < k → x < 18446744073709551616 → Calls Tryd.prog 57 #[.int .u64 (x : Int)] w (DigPost x w) := by
  intro k
  induction k with
  | zero => intro x w _ _ h _; omega
  | succ k ih =>
    intro x w hk10 hk _ hx
    have HK := Lib.hid ih
    clear ih
    by_cases h128 : x < 128
    · have hd : decide (x < 128) = true := by rw [decide_eq_true_iff]; exact h128
      have hs := short_low h128
      have HS := Lib.hid hs
      clear hs hk
      go_enter Tryd.func57, Tryd.ntmps57
      go_wp2_with fail
      go_ret
      unfold DigPost
      rw [HS.out]
      have ho := own_new w 5 [bv (UInt8.ofNat x)] (by simp)
      have e : bv (UInt8.ofNat x) = .int .u8 (x : Int) := by rw [bv_ofNat]; congr 1; omega
      rw [e] at ho
      refine ⟨some ⟨w.heap.size, 0, none⟩, 1, rfl, ?_, below_new _ _⟩
      rw [List.map_cons, e]
      exact ho
    · have hk2 : 0 < k := by
        rcases Nat.eq_zero_or_pos k with h0 | h0
        · subst h0
          simp at hk
          omega
        · exact h0
      have hdk : x / 128 < 128 ^ k := by
        rw [Nat.pow_succ] at hk
        exact Nat.div_lt_of_lt_mul (by rw [Nat.mul_comm]; exact hk)
      have hs := short_high (x := x) (by omega)
      have HS := Lib.hid hs
      have HC := fun W => Lib.hid (HK.out (x / 128) W (by omega) hdk hk2 (by omega))
      clear hs hk HK hdk
      go_enter Tryd.func57, Tryd.ntmps57
      go_wp2_with fail
      refine (HC _).out.mono ?_
      rintro e w1 ⟨A, c, rfl, ho, hb⟩
      have hl := (short_len (y := x / 128) (by omega))
      have own0 := own_new w 5 [bv (UInt8.ofNat (x % 128 + 128))] (by simp)
      have e1 : bv (UInt8.ofNat (x % 128 + 128)) = .int .u8 ((x : Int) % 128 + 128) := by rw [bv_ofNat]; congr 1; omega
      rw [e1] at own0
      have own1 := own_call own0 hb
      have HE := Lib.hid e1
      clear e1 own0
      have hw : w.heap.size ≤ w1.heap.size := by have := hb.size; simp at this; omega
      generalize hn : (short (x / 128)).length = n at ho hl
      have hR := Reads.of_own ho
      have HN := Lib.hid hn
      clear hn ho
      go_wp2_with (at_builtin; refine app_list bytes_ty rfl (s := .tmp 12) (x := .tmp 15) rfl own1 rfl hR rfl (bv_one _) (by simp; omega) hw ?_; intro v2 w2 hown2 hg2 hv2)
      go_ret
      unfold DigPost
      rw [HS.out]
      obtain ⟨A2, c2, rfl, _, _⟩ := own_slice hown2
      refine ⟨A2, c2, ?_, ?_, ?_⟩
      · simp [HN.out, Nat.add_comm]
      · rw [List.map_cons, HE.out, List.length_cons, HN.out, Nat.add_comm]
        exact hown2
      · exact own_below ((below_new _ _).trans (hb.mono (by simp))) hg2 hw (own_ge own1)
end Go.Proofs.YtcklbhplhpohpaaDoor
