/- The walk of the law of what is sealed. -/
import Derived.Test.YtgnegofkffiopaaSumG
import Derived.Test.YtgnegofkffiopaaWords3
namespace Go.Proofs.Ytgnegofkffiopaa
open Go.RowKit

/-- What is opened: the bytes, none where there are none. -/
def Crc.bytesOf (l : List UInt8) : List UInt8 := (Crc.opened l).getD []
def Crc.isOf (l : List UInt8) : Bool := (Crc.opened l).isSome
theorem Crc.isOf_no {l : List UInt8} (h : Crc.isOf l = false) : Crc.bytesOf l = [] := by
  unfold Crc.isOf at h
  unfold Crc.bytesOf
  cases e : Crc.opened l with
  | none => rfl
  | some t => rw [e] at h; cases h
theorem Crc.bytesOf_le (l : List UInt8) : (Crc.bytesOf l).length ≤ l.length := by
  unfold Crc.bytesOf Crc.opened
  split
  · simp
  · split
    · simp
    · simp
theorem open_flat {B : Nat} {l : List UInt8} {e : Ending} {w : World} (h : OpenPost B (Crc.opened l) e w) :
    ∃ v, e = .returned (.tuple #[v, .bool (Crc.isOf l)]) ∧ w.ownsRow B 5 1 v (Crc.bytesOf l).length ((Crc.bytesOf l).map bv) := by
  unfold Crc.isOf Crc.bytesOf
  cases hop : Crc.opened l with
  | none =>
    rw [hop] at h
    exact ⟨_, h, World.ownsRow_nil _ _ _ _⟩
  | some t =>
    rw [hop] at h
    exact h

set_option maxHeartbeats 400000 in
theorem seals_long (A : Option Addr) (c n : Nat) (w : World) (hn : 20000 < n) :
    Calls Try.prog 4 #[.slice A n c] w fun e w' => e = .returned (.bool true) ∧ Below w.heap.size w w' := by
  go_enter Try.func4, Try.ntmps4
  go_wp2_with (go_at_call 8; refine (awake_any _).mono ?_; rintro e w' ⟨rfl, hb⟩)
  go_ret
  exact ⟨rfl, hb⟩

set_option maxRecDepth 100000 in
set_option maxHeartbeats 1600000 in
theorem seals_any (A : Option Addr) (c : Nat) (l : List UInt8) (w : World) (hp : Bytes w A l) (hn : l.length ≤ 20000) (hc1 : l.length ≤ c) (hc2 : c ≤ 9223372036854775807) :
    Calls Try.prog 4 #[.slice A l.length c] w fun e w' => e = .returned (.bool true) ∧ Below w.heap.size w w' := by
  have hx := conv_str (P := Try.prog) (c := c) Try.underlying23 Try.underlying5 Try.underlying9 hp rfl
  go_enter Try.func4, Try.ntmps4
  go_wp2_with fail
  clear hx
  refine (seal_any _ _ l _ hp (by omega) hc1 hc2).mono ?_
  rintro e w1 ⟨v1, rfl, hown1, hb1⟩
  go_wp2_with (first
    | ((with_reducible refine str_bytes_list rfl rfl Try.underlying9 Try.underlying23 Try.underlying5 (l := l) (by omega) ?_ ?_); rfl; intro A2 c2 w2 hp2 hc3 hc4 hb2))
  have k2 := below_call hb1 hb1.size hb2
  refine (refseal_any _ _ l _ hp2 (by omega)).mono ?_
  rintro e w3 ⟨v3, rfl, hown3, hb3⟩
  have k3 := below_call k2 k2.size hb3
  clear hp2
  go_wp2_with fail
  refine (open_any _ _ l _ (hp.below k3) (by omega) hc1 hc2).mono ?_
  rintro e w4 ⟨ho4, hb4⟩
  have k4 := below_call k3 k3.size hb4
  have hown1' := own_call (own_call (own_call hown1 hb2) hb3) hb4
  have hown3' := own_call hown3 hb4
  obtain ⟨g1, c1, rfl, hg1, hc5, hc6⟩ := own_ptr hown1 (by omega)
  obtain ⟨g3, c3, rfl, hg3, hc7, hc8⟩ := own_ptr hown3 (by omega)
  have hlt1 := (hown1.lt g1 rfl).2
  have hlt3 := hb3.size
  have hlt2 := hb2.size
  clear hown3 hb2 hb3 hb1 k2 k3
  obtain ⟨v4, rfl, hown4⟩ := open_flat ho4
  obtain ⟨bs, hbs⟩ : ∃ bs, bs = Crc.bytesOf l := ⟨_, rfl⟩
  obtain ⟨b, hb⟩ : ∃ b, b = Crc.isOf l := ⟨_, rfl⟩
  rw [← hbs] at hown4
  rw [← hb]
  have HBS := Lib.hid hbs
  have HB := Lib.hid hb
  clear hbs hb
  have hlt4 := hb4.size
  obtain ⟨A4, c4, rfl, hc9, hc10⟩ := own_slice hown4
  go_wp2_with (first
    | ((with_reducible refine str_bytes_list rfl rfl Try.underlying9 Try.underlying23 Try.underlying5 (l := l) (by omega) ?_ ?_); rfl; intro A5 c5 w5 hp5 hc3 hc4 hb5))
  have k5 := below_call k4 k4.size hb5
  refine (refopen_any _ _ l _ hp5 (by omega) hc3).mono ?_
  rintro e w6 ⟨ho6, hb6⟩
  obtain ⟨v6, rfl, hown6⟩ := open_flat ho6
  rw [← HBS.out] at hown6
  rw [← HB.out]
  have k6 := below_call k5 k5.size hb6
  obtain ⟨A6, c6, rfl, _, _⟩ := own_slice hown6
  have k46 := below_call hb5 hb5.size hb6
  replace hown1' := own_call hown1' k46
  replace hown3' := own_call hown3' k46
  replace hown4 := own_call hown4 k46
  have hs1 := conv_str (P := Try.prog) (c := c1) Try.underlying23 Try.underlying5 Try.underlying9 (own_bytes hown1') (own_len hown1')
  have hs3 := conv_str (P := Try.prog) (c := c3) Try.underlying23 Try.underlying5 Try.underlying9 (own_bytes hown3') (own_len hown3')
  have hs4 := conv_str (P := Try.prog) (c := c4) Try.underlying23 Try.underlying5 Try.underlying9 (own_bytes hown4) rfl
  have hs6 := conv_str (P := Try.prog) (c := c6) Try.underlying23 Try.underlying5 Try.underlying9 (own_bytes hown6) rfl
  have hlb : b = false → bs.length = 0 := fun h => by rw [HBS.out, Crc.isOf_no (by rw [← HB.out]; exact h)]; rfl
  have hle := Crc.bytesOf_le l
  rw [← HBS.out] at hle
  clear HBS HB ho4 ho6 hown6 hown3' hp5 hb5 hb6 k4 k5 k46 hb4
  cases b
  all_goals
    first | (have hd : decide (0 < bs.length) = false := by (have hl0 := hlb rfl; rw [decide_eq_false_iff_not]; omega)) | skip
    clear hlb
    go_wp2_with fail
    clear hs1 hs3 hs4 hs6
    first | clear hd | skip
    have hnn : l.length + 4 ≤ 9223372036854775807 := by omega
    have hnb : bs.length ≤ 9223372036854775807 := by omega
    go_loopw [10] (fun i wr => ∃ (k : Nat) (xs : List UInt8), k ≤ l.length + 4 ∧ i = .int .i64 k ∧ wr.ownsRow w.heap.size 5 1 (.slice (some ⟨g1, 0, none⟩) (l.length + 4) c1) (l.length + 4) (xs.map bv) ∧ w6.grownBy wr (some g1)) (fun i _ => l.length + 4 - (intOf i).toNat)
    case atStart => exact ⟨0, _, by omega, rfl, hown1', only_refl _ _⟩
    case round =>
      obtain ⟨k, xs, hk, rfl, hown, hgr⟩ := hrel
      by_cases hlt : k < l.length + 4
      · have hcell := own_at hown hlt
        have hfr := hown.frozenAt k
        have hinc := w_inc (xs.getD k 0)
        have hst := own_set hown k (xs.getD k 0 + 1)
        have hgr2 := only_set hgr k (.int .u8 ((xs.getD k 0 + 1).toNat : Int))
        obtain ⟨q1, hq1⟩ : ∃ q, q = xs.getD k 0 + 1 := ⟨_, rfl⟩
        rw [← hq1] at hinc hst hgr2
        have HQ := Lib.hid hq1
        clear hq1
        generalize xs.getD k 0 = q at hcell hinc
        go_wp2
        go_roundw
        case rel => exact ⟨k + 1, _, by omega, by go_num, hst, hgr2⟩
        case measure => simp [intOf]; omega
      · have hkl : k = l.length + 4 := by omega
        subst hkl
        clear hlt
        have hg6 := (hown1'.lt g1 rfl).1
        have hne : (Value.slice A4 bs.length c4).ownBlock ≠ some g1 := fun e => by have := (hown4.lt g1 e).1; omega
        have hown5 := hown4.kept hgr (.inr hne)
        have hbw := below_only k6 hgr k6.size hg6
        clear hown1' hown4 hown
        go_wp2_with fail
        obtain ⟨wo, hwo⟩ : ∃ wo : World, wo = wr := ⟨_, rfl⟩
        rw [← hwo]
        rw [← hwo] at hown5 hbw
        clear hwo hgr
        go_loopw [11] (fun i wi => ∃ (k : Nat) (ys : List UInt8), k ≤ bs.length ∧ i = .int .i64 k ∧ wi.ownsRow w.heap.size 5 1 (.slice A4 bs.length c4) bs.length (ys.map bv) ∧ Below w.heap.size w wi) (fun i _ => bs.length - (intOf i).toNat)
        case atStart => exact ⟨0, _, by omega, rfl, base_le hown5 (by omega), hbw⟩
        case round =>
          obtain ⟨k, ys, hk2, rfl, hown, hbi⟩ := hrel
          by_cases hlt : k < bs.length
          · obtain ⟨g4, c4', he4, hg4, _, _⟩ := own_ptr hown (by omega)
            injection he4 with he4 _ he5
            subst he4 he5
            have hcell := own_at hown hlt
            have hfr := hown.frozenAt k
            have hinc := w_inc (ys.getD k 0)
            have hst := own_set hown k (ys.getD k 0 + 1)
            have hgr2 := hbi.setCell (p := ⟨g4, k, none⟩) hg4 (.int .u8 ((ys.getD k 0 + 1).toNat : Int))
            obtain ⟨q1, hq1⟩ : ∃ q, q = ys.getD k 0 + 1 := ⟨_, rfl⟩
            rw [← hq1] at hinc hst hgr2
            clear hq1
            generalize ys.getD k 0 = q at hcell hinc
            go_wp2
            go_roundw
            case rel => exact ⟨k + 1, _, by omega, by go_num, hst, hgr2⟩
            case measure => simp [intOf]; omega
          · have hkl : k = bs.length := by omega
            subst hkl
            clear hlt hown
            have hx := conv_str (P := Try.prog) (c := c) Try.underlying23 Try.underlying5 Try.underlying9 (hp.below hbi) rfl
            go_wp2_with (go_at_call 8; refine (awake_any _).mono ?_; rintro e w' ⟨rfl, hb⟩)
            go_ret
            exact ⟨rfl, below_call hbi hbi.size hb⟩
end Go.Proofs.Ytgnegofkffiopaa
