/- Joined texts: RefA, RefT. -/
import Derived.Test.YtdckdjkkaangmaaDoorJB
import Derived.Test.YtdckdjkkaangmaaDoorJA
import Derived.Lib.AppendStr
import Derived.OwnWalk
/- The document's Wide, Short, Text. -/
namespace Go.Proofs.YtdckdjkkaangmaaDoor
set_option linter.unusedVariables false
set_option linter.unusedSimpArgs false
set_option maxRecDepth 100000
open Go.RowKit

def Owned (l : List UInt8) (w : World) (e : Ending) (w' : World) : Prop := ∃ A c, e = .returned (.slice A l.length c) ∧ w'.ownsRow w.heap.size 5 1 (.slice A l.length c) l.length (l.map bv) ∧ Below w.heap.size w w'
theorem short_div {x : Nat} (h : 128 ≤ x) : (short x).length = (short (x / 128)).length + 1 := by rw [short_high h, List.length_cons]
theorem short_get : ∀ (x k : Nat) (h : k < (short x).length), (short x)[k] = UInt8.ofNat (x / 128 ^ k % 128 + if k + 1 < (short x).length then 128 else 0) := by
  intro x
  induction x using Nat.strongRecOn with
  | ind x ih =>
    intro k h
    by_cases hx : x < 128
    · have e := short_low hx
      have hl : (short x).length = 1 := by rw [e]; rfl
      obtain rfl : k = 0 := by omega
      have : (short x)[0] = UInt8.ofNat x := by simp [e]
      rw [this, if_neg (by omega)]
      congr 1
      simp
      omega
    · have e := short_high (x := x) (by omega)
      have hl := short_div (x := x) (by omega)
      have hp := short_len_pos (x / 128)
      cases k with
      | zero =>
        have : (short x)[0] = UInt8.ofNat (x % 128 + 128) := by simp [e]
        rw [this, if_pos (by omega)]
        simp
      | succ k =>
        have h1 : (short x)[k + 1] = (short (x / 128))[k]'(by omega) := by simp [e]
        rw [h1, ih (x / 128) (by omega) k (by omega), hl, Nat.div_div_eq_div_mul, Nat.pow_succ, Nat.mul_comm 128]
        congr 2
        by_cases hk : k + 1 < (short (x / 128)).length
        · rw [if_pos hk, if_pos (by omega)]
        · rw [if_neg hk, if_neg (by omega)]
theorem made_zeros (n : Nat) : (madeCells (Value.int .u8 0).cells (n * 1)).toList = (List.replicate n (0 : UInt8)).map bv := by
  rw [Nat.mul_one, List.map_replicate, List.eq_replicate_iff]
  refine ⟨by simp [size_madeCells], fun v hv => ?_⟩
  unfold madeCells at hv
  simp only [Array.toList_map, List.mem_map] at hv
  obtain ⟨i, _, rfl⟩ := hv
  have : i % (Value.int .u8 0).cells.size = 0 := Nat.mod_one i
  rw [this]
  rfl
/-- The first k digits, the rest still naught. -/
def shortK (x k : Nat) : List UInt8 := (short x).take k ++ List.replicate ((short x).length - k) 0
theorem shortK_zero (x : Nat) : shortK x 0 = List.replicate (short x).length 0 := by simp [shortK]
theorem shortK_all (x : Nat) : shortK x (short x).length = short x := by simp [shortK]
theorem shortK_set (x k : Nat) (h : k < (short x).length) (q : UInt8) : ((shortK x k).set k q).set k (short x)[k] = shortK x (k + 1) ∧ ((shortK x k).set k (short x)[k]) = shortK x (k + 1) := by
  have key : ((shortK x k).set k (short x)[k]) = shortK x (k + 1) := by
    unfold shortK
    have hl : ((short x).take k).length = k := by rw [List.length_take]; omega
    obtain ⟨j, hj⟩ : ∃ j, (short x).length - k = j + 1 := ⟨(short x).length - k - 1, by omega⟩
    rw [List.set_append_right _ _ (by omega), hl, Nat.sub_self, hj, List.replicate_succ, List.set_cons_zero, show (short x).length - (k + 1) = j by omega, List.take_succ_eq_append_getElem h, List.append_assoc]
    rfl
  exact ⟨by rw [List.set_set]; exact key, key⟩
set_option maxRecDepth 100000 in
set_option maxHeartbeats 2000000 in
theorem rshort_any (X : Nat) (hX : X < 18446744073709551616) (w : World) :
    Calls Tryd.prog 48 #[.int .u64 (X : Int)] w (Owned (short X) w) := by
  obtain ⟨i0, hi, hz0, hz1, hz2⟩ := info_parts info_u8
  have hlen := short_len hX
  go_enter Tryd.func48, Tryd.ntmps48
  go_wp2_with fail
  go_loop [3, 4] (fun c y => ∃ k Y : Nat, c = .int .i64 ((k + 1 : Nat) : Int) ∧ y = .int .u64 (Y : Int) ∧ Y < 18446744073709551616 ∧ (short X).length = (short Y).length + k) (fun _ y => (intOf y).toNat)
  case atStart => exact ⟨0, X, rfl, rfl, hX, rfl⟩
  case round =>
    obtain ⟨k, Y, rfl, rfl, hY, hk⟩ := hrel
    have hYp := short_len_pos Y
    have hk10 : k ≤ 10 := by omega
    by_cases h128 : 128 ≤ Y
    · have hd : decide ((128 : Int) ≤ (Y : Int)) = true := by rw [decide_eq_true_iff]; omega
      have hd2 : decide (128 ≤ Y) = true := by rw [decide_eq_true_iff]; omega
      have HK := Lib.hid hk
      have hsd := Lib.hid (short_div h128)
      clear hk hYp
      go_wp2_with fail
      go_round
      case rel => exact ⟨k + 1, Y / 128, by go_num, by go_num, by omega, by rw [HK.out, hsd.out]; omega⟩
      case measure => simp [intOf]; omega
    · have hd : decide ((128 : Int) ≤ (Y : Int)) = false := by rw [decide_eq_false_iff_not]; omega
      have hd2 : decide (128 ≤ Y) = false := by rw [decide_eq_false_iff_not]; omega
      have h1 : (short Y).length = 1 := by rw [short_low (by omega)]; rfl
      obtain ⟨n, hn⟩ : ∃ n, n = (short X).length := ⟨_, rfl⟩
      have hkn : k + 1 = n := by omega
      have hn10 : n ≤ 10 := by omega
      have hkc : ((k + 1 : Nat) : Int) = (n : Int) := by omega
      have HN := Lib.hid hn
      clear h1 hk hYp hn hk10 hlen
      rw [hkc]
      clear hkc hkn
      go_wp2_with (at_make; refine wpList_make_full _ rfl _ _ _ rfl w.heap.size 5 i0 (.int .u8 0) 1 Tryd.underlying22 hi hz0 hz1 .i64 .i64 _ _ n rfl rfl rfl rfl (by rw [hz2]; omega) (by simp only [maxLen]; omega) (Nat.le_refl _) ?_; intro w2 hown2 hg2; refine Hid.out ?_)
      have hz : (madeCells (Value.int .u8 0).cells (n * 1)).toList = (shortK X 0).map bv := by rw [made_zeros, shortK_zero, HN.out]
      rw [hz] at hown2
      have hb2 : Below w.heap.size w w2 := (Below.refl _ _).grown hg2 (Nat.le_refl _) (fun k hk => by cases hk)
      have HO2 := Lib.hid hown2
      have HB2 := Lib.hid hb2
      clear hz hown2 hg2 hb2
      refine Lib.hid ?_
      go_wp2_with fail
      go_loopw [0, 6] (fun x i wr => ∃ j : Nat, j ≤ n ∧ i = .int .i64 (j : Int) ∧ x = .int .u64 ((X / 128 ^ j : Nat) : Int) ∧ wr.ownsRow w.heap.size 5 1 (.slice (some ⟨w.heap.size, 0, none⟩) n n) n ((shortK X j).map bv) ∧ Below w.heap.size w wr) (fun _ i _ => n - (intOf i).toNat)
      case atStart => exact ⟨0, Nat.zero_le _, rfl, by simp, HO2.out, HB2.out⟩
      case round =>
        clear HO2 HB2
        obtain ⟨j, hj, rfl, rfl, hown, hb⟩ := hrel
        have HO := Lib.hid hown
        have HB := Lib.hid hb
        clear hb
        by_cases hlt : j < n
        · have hx64 : X / 128 ^ j < 18446744073709551616 := Nat.lt_of_le_of_lt (Nat.div_le_self _ _) hX
          have hdiv : X / 128 ^ (j + 1) = X / 128 ^ j / 128 := by rw [Nat.pow_succ, Nat.div_div_eq_div_mul]
          have hjl : j < (short X).length := by rw [← HN.out]; exact hlt
          have hsg := short_get X j hjl
          have hset := fun q => shortK_set X j hjl q
          rw [hsg] at hset
          rw [← HN.out] at hset
          have c0 := own_at hown hlt
          have f0 : wr.frozen? ⟨w.heap.size, j, none⟩ = false := hown.frozenAt j
          clear hown
          have HD := Lib.hid hdiv
          have HSET := Lib.hid hset
          clear hdiv hsg hset
          generalize X / 128 ^ j = x at hx64 HD HSET
          have hw8 : IntKind.u8.wrap ((x : Int) % 128) = ((x % 128 : Nat) : Int) := by rw [IntKind.wrap_u8]; omega
          have h128 : x % 128 < 128 := Nat.mod_lt _ (by decide)
          by_cases hlast : j + 1 < n
          · have hd1 : decide ((j : Int) + 1 < (n : Int)) = true := by rw [decide_eq_true_iff]; omega
            have hd2 : decide (j + 1 < n) = true := by rw [decide_eq_true_iff]; exact hlast
            have e1 : ((UInt8.ofNat (x % 128)).toNat : Int) = (x : Int) % 128 := by rw [u8_ofNat (by omega)]; omega
            have e2 : ((UInt8.ofNat (x % 128 + 128)).toNat : Int) = (x : Int) % 128 + 128 := by rw [u8_ofNat (by omega)]; omega
            have h1 := own_set HO.out j (UInt8.ofNat (x % 128))
            rw [e1] at h1
            have h2 := own_set h1 j (UInt8.ofNat (x % 128 + 128))
            have h3 := (HSET.out (UInt8.ofNat (x % 128))).1
            rw [if_pos hlast] at h3
            rw [e2, h3] at h2
            have H2 := Lib.hid h2
            clear h1 h2 h3 e1 e2
            go_wp2_with fail
            go_roundw
            case rel => exact ⟨j + 1, by omega, by go_num, by rw [HD.out]; go_num, H2.out, (HB.out.setCell (p := ⟨w.heap.size, j, none⟩) (Nat.le_refl _) _).setCell (p := ⟨w.heap.size, j, none⟩) (Nat.le_refl _) _⟩
            case measure => simp [intOf]; omega
          · have hd1 : decide ((j : Int) + 1 < (n : Int)) = false := by rw [decide_eq_false_iff_not]; omega
            have hd2 : decide (j + 1 < n) = false := by rw [decide_eq_false_iff_not]; exact hlast
            have e1 : ((UInt8.ofNat (x % 128)).toNat : Int) = (x : Int) % 128 := by rw [u8_ofNat (by omega)]; omega
            have h1 := own_set HO.out j (UInt8.ofNat (x % 128))
            have h3 := (HSET.out (UInt8.ofNat (x % 128))).2
            rw [if_neg hlast, Nat.add_zero] at h3
            rw [e1, h3] at h1
            have H2 := Lib.hid h1
            clear h1 h3 e1
            go_wp2_with fail
            go_roundw
            case rel => exact ⟨j + 1, by omega, by go_num, by rw [HD.out]; go_num, H2.out, HB.out.setCell (p := ⟨w.heap.size, j, none⟩) (Nat.le_refl _) _⟩
            case measure => simp [intOf]; omega
        · obtain rfl : j = n := by omega
          go_wp2_with fail
          go_ret
          have ho := HO.out
          have e : shortK X j = short X := by rw [HN.out]; exact shortK_all X
          rw [e] at ho
          refine ⟨some ⟨w.heap.size, 0, none⟩, j, ?_, ?_, HB.out⟩
          · rw [← HN.out]; rfl
          · rw [← HN.out]; exact ho
end Go.Proofs.YtdckdjkkaangmaaDoor

/- The document's Text. -/
namespace Go.Proofs.YtdckdjkkaangmaaDoor
set_option linter.unusedVariables false
set_option linter.unusedSimpArgs false
set_option maxRecDepth 100000
open Go.RowKit

theorem str_cells (l : List UInt8) : Lib.strCells ⟨l.toArray⟩ = l.map bv := by
  show (l.toArray.toList).map _ = _
  rw [List.toList_toArray]
  rfl
set_option maxRecDepth 100000 in
theorem reftext_any (s : List UInt8) (hs : s.length ≤ 140737488300000) (w : World) :
    Calls Tryd.prog 49 #[.string ⟨s.toArray⟩] w (Owned (short s.length ++ s) w) := by
  obtain ⟨i0, hi, hz0, hz1, hz2⟩ := info_parts info_u8
  have hl := short_len (y := s.length) (by omega)
  have HS := Lib.hid (rshort_any s.length (by omega) w)
  go_enter Tryd.func49, Tryd.ntmps49
  go_wp2_with fail
  refine HS.out.mono ?_
  rintro e w1 ⟨A, c, rfl, ho, hb⟩
  have HB := Lib.hid hb
  have hsz := hb.size
  have HO := Lib.hid ho
  clear ho hb
  go_wp2_with (at_builtin; refine Hid.out ?_)
  refine Lib.hid ?_
  refine Lib.wpList_append_own_string _ rfl (.tmp 6) (.tmp 7) 22 9 rfl w.heap.size 5 i0 Tryd.underlying22 Tryd.underlying9 hi hz0 hz1 hz2 _ _ _ rfl HO.out ⟨s.toArray⟩ rfl (by simp [maxLen, ByteArray.size]; omega) (by simp [ByteArray.size]; omega) hsz ?_
  intro v2 w2 hown2 hg2 _
  have HO2 := Lib.hid hown2
  have HB2 := Lib.hid (own_below HB.out hg2 hsz (own_ge HO.out))
  clear hown2 hg2
  go_wp2_with fail
  go_ret
  obtain ⟨A2, c2, rfl, _, _⟩ := own_slice HO2.out
  have h := HO2.out
  rw [str_cells, ← List.map_append] at h
  refine ⟨A2, c2, by simp [ByteArray.size], ?_, HB2.out⟩
  simpa [ByteArray.size] using h
end Go.Proofs.YtdckdjkkaangmaaDoor
