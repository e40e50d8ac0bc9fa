/- The document's reader: Wide, digits, number, End. -/
import Derived.Test.YtcklbhplhpohpaaDoorRefC
namespace Go.Proofs.YtcklbhplhpohpaaDoor
open Go.RowKit

theorem or_shl8 (x d : Nat) (hx : x < 72057594037927936) (hd : d < 256) : bits .or .u64 ((x : Int) * 256) (d : Int) = ((d + 256 * x : Nat) : Int) := by
  have e : (x : Int) * 256 = ((x * 256 : Nat) : Int) := by omega
  rw [e, u64_or_nat _ _ (by omega) (by omega)]
  have := Nat.shiftLeft_add_eq_or_of_lt (i := 8) (b := d) (by omega) x
  rw [Nat.shiftLeft_eq] at this
  rw [show (2 : Nat) ^ 8 = 256 from rfl] at this
  rw [← this]
  congr 1
  omega
set_option maxRecDepth 100000 in
set_option maxHeartbeats 1000000 in
theorem rwide_any (base : Nat) (w : World) (m : Nat) (xs : List UInt8) (f : Bool) (size : Nat) (hsz : size ≤ 8) (h : Rf base w m xs f) (hl : xs.length ≤ 140737488355328) (hbase : base ≤ w.heap.size) :
    Calls Tryd.prog 25 #[.pointer (some ⟨m, 0, none⟩), .int .i64 (size : Int)] w fun e w' => e = .returned (.int .u64 (leN (stepP 4 size xs f).2.1 : Int)) ∧ Rft base m xs (stepP 4 size xs f) w w' := by
  have HR := Lib.hid (rraw_any base w m xs f size (by omega) (by omega) h hl hbase)
  have hlen : (stepP 4 size xs f).2.1.length ≤ 8 := by
    cases f with
    | true => rw [stepP_off]; simp
    | false =>
      cases hg : getP 4 size xs with
      | none => rw [stepP_none hg]; simp
      | some v =>
        obtain ⟨y, s, j⟩ := v
        rw [stepP_some hg]
        rw [getP_raw] at hg
        split at hg
        · simp only [Option.some.injEq, Prod.mk.injEq] at hg
          obtain ⟨_, rfl, _⟩ := hg
          simp only [List.length_take]
          omega
        · cases hg
  clear h
  unfold RawPost at HR
  generalize stepP 4 (size : Int) xs f = t at HR hlen ⊢
  obtain ⟨t1, s, j, g⟩ := t
  simp only at HR hlen ⊢
  go_enter Tryd.func25, Tryd.ntmps25
  go_wp2_with fail
  refine HR.out.mono ?_
  rintro e w1 ⟨⟨A, c, rfl, hB, _⟩, hr⟩
  have HB := Lib.hid hB
  have HRT := Lib.hid hr
  clear hB hr
  go_wp2_with fail
  go_loop [6, 7] (fun x i => ∃ k : Nat, k ≤ s.length ∧ i = .int .i64 k ∧ x = .int .u64 (leN (s.drop k) : Int)) (fun _ i => (intOf i).toNat)
  case atStart => exact ⟨s.length, Nat.le_refl _, rfl, by rw [List.drop_length]; rfl⟩
  case round =>
    obtain ⟨k, hk, rfl, rfl⟩ := hrel
    by_cases h0 : 0 < k
    · obtain ⟨gb, o, rfl, hg, hcell⟩ := Bytes.flat HB.out (by omega)
      have c0 := hcell (k - 1) (by omega)
      have hdr : s.drop (k - 1) = s[k - 1] :: s.drop k := by
        rw [List.drop_eq_getElem_cons (by omega)]
        congr 2
        omega
      have hle : leN (s.drop (k - 1)) = s[k - 1].toNat + 256 * leN (s.drop k) := by rw [hdr]; rfl
      have hlt := leN_lt (s.drop k)
      have hlen2 : (s.drop k).length ≤ 7 := by rw [List.length_drop]; omega
      have hpow : 256 ^ (s.drop k).length ≤ 256 ^ 7 := Nat.pow_le_pow_right (by decide) hlen2
      have hx56 : leN (s.drop k) < 72057594037927936 := Nat.lt_of_lt_of_le hlt hpow
      have HLE := Lib.hid hle
      clear hdr hle hlt hpow hcell
      generalize s[k - 1] = d at c0 HLE
      generalize leN (s.drop k) = x at hx56 HLE
      have HOR := Lib.hid (or_shl8 x d.toNat hx56 d.toNat_lt)
      have hd1 : decide ((0 : Int) < (k : Int)) = true := by rw [decide_eq_true_iff]; omega
      have hd2 : decide (0 < k) = true := by rw [decide_eq_true_iff]; exact h0
      have hk1 : (k : Int) - 1 = ((k - 1 : Nat) : Int) := by omega
      have hd := d.toNat_lt
      go_wp2_with fail
      go_round
      case rel => exact ⟨k - 1, by omega, by go_num, by rw [HLE.out, HOR.out]⟩
      case measure => simp [intOf]; omega
    · obtain rfl : k = 0 := by omega
      go_wp2_with fail
      go_ret
      exact ⟨rfl, HRT.out⟩
/-- What number answers. -/
theorem digits_some {xs : List UInt8} {k : Nat} (hk : k < xs.length) (h10 : k < 10) (hc : xs[k].toNat < 128) (hno : ∀ c ∈ xs.take k, 128 ≤ c.toNat) : digitsN xs = k + 1 :=
  digitsN_some hk h10 hc fun j hj hjk => hno _ (by
    have : (xs.take k)[j]'(by rw [List.length_take]; omega) = xs[j] := List.getElem_take
    rw [← this]
    exact List.getElem_mem _)
set_option maxRecDepth 100000 in
set_option maxHeartbeats 1000000 in
theorem rdigits_any (base : Nat) (w : World) (m : Nat) (xs : List UInt8) (f : Bool) (h : Rf base w m xs f) :
    Calls Tryd.prog 61 #[.pointer (some ⟨m, 0, none⟩)] w fun e w' => e = .returned (.int .i64 (digitsN xs : Int)) ∧ w = w' := by
  obtain ⟨A, c, h1, h2, h3, h4, h5, h6⟩ := h
  have c0 : w.cell? ⟨m, 0, none⟩ = some (.slice A xs.length c) := h1.cell 0
  have HB := Lib.hid h2
  clear h1 h2 h6
  go_enter Tryd.func61, Tryd.ntmps61
  go_wp2_with fail
  go_loop [3] (fun i => ∃ k : Nat, k ≤ xs.length ∧ k ≤ 10 ∧ i = .int .i64 k ∧ ∀ c ∈ xs.take k, 128 ≤ c.toNat) (fun i => xs.length - (intOf i).toNat)
  case atStart => exact ⟨0, Nat.zero_le _, by omega, rfl, by simp⟩
  case round =>
    obtain ⟨k, hk, hk10, rfl, hno⟩ := hrel
    have HNO := Lib.hid hno
    clear hno
    by_cases hlt : k < xs.length
    · have hd1 : decide (k < xs.length) = true := by rw [decide_eq_true_iff]; exact hlt
      by_cases h10 : k < 10
      · obtain ⟨gb, o, rfl, hg, hcell⟩ := Bytes.flat HB.out (by omega)
        have b0 := hcell k hlt
        have hts : xs.take (k + 1) = xs.take k ++ [xs[k]] := List.take_succ_eq_append_getElem hlt
        have HTS := Lib.hid hts
        have HDS := Lib.hid (fun hc => digits_some hlt h10 hc HNO.out)
        clear hcell hts
        generalize xs[k] = d at b0 HTS HDS
        have hd := d.toNat_lt
        have hd2 : decide ((k : Int) < 10) = true := by rw [decide_eq_true_iff]; omega
        by_cases h128 : d.toNat < 128
        · have hd3 : decide ((d.toNat : Int) < 128) = true := by rw [decide_eq_true_iff]; omega
          have hd4 : decide (d.toNat < 128) = true := by rw [decide_eq_true_iff]; exact h128
          go_wp2_with fail
          go_ret
          exact ⟨by rw [HDS.out h128]; go_num, rfl⟩
        · have hd3 : decide ((d.toNat : Int) < 128) = false := by rw [decide_eq_false_iff_not]; omega
          have hd4 : decide (d.toNat < 128) = false := by rw [decide_eq_false_iff_not]; exact h128
          go_wp2_with fail
          go_round
          case rel =>
            refine ⟨k + 1, by omega, by omega, by go_num, fun c hc => ?_⟩
            rw [HTS.out] at hc
            rcases List.mem_append.1 hc with h | h
            · exact HNO.out c h
            · rw [List.mem_singleton.1 h]; omega
          case measure => simp [intOf]; omega
      · obtain rfl : k = 10 := by omega
        go_wp2_with fail
        go_ret
        rw [digitsN_none (fun j hj h => HNO.out _ (by
          have : (xs.take 10)[j]'(by rw [List.length_take]; omega) = xs[j] := List.getElem_take
          rw [← this]
          exact List.getElem_mem _))]
        exact ⟨rfl, rfl⟩
    · obtain rfl : k = xs.length := by omega
      go_wp2_with fail
      go_ret
      rw [digitsN_none (fun j hj h => HNO.out _ (by rw [List.take_length]; exact List.getElem_mem _))]
      exact ⟨rfl, rfl⟩
set_option maxHeartbeats 1000000 in
theorem rend_any (base : Nat) (w : World) (m : Nat) (xs : List UInt8) (f : Bool) (h : Rf base w m xs f) :
    Calls Tryd.prog 30 #[.pointer (some ⟨m, 0, none⟩)] w fun e w' => e = .returned (.bool (f || decide (0 < xs.length))) ∧ Mod (fun k => k = m) w w' := by
  obtain ⟨A, c, h1, h2, h3, h4, h5, h6⟩ := h
  have c0 : w.cell? ⟨m, 0, none⟩ = some (.slice A xs.length c) := h1.cell 0
  have c1 : w.cell? ⟨m, 1, none⟩ = some (.bool f) := h1.cell 1
  have f1 : w.frozen? ⟨m, 1, none⟩ = false := h1.free 1
  have HM : Hid (Mod (fun k => k = m) w (w.setCell ⟨m, 1, none⟩ (.bool true))) := (Mod.refl (fun k => k = m) w).set (p := ⟨m, 1, none⟩) (fun _ => rfl) _
  have hx63 : xs.length ≤ 9223372036854775807 := by omega
  clear h1 h2 h6
  by_cases h0 : 0 < xs.length
  · have hd1 : decide (0 < xs.length) = true := by rw [decide_eq_true_iff]; exact h0
    have hd2 : decide ((0 : Int) < (xs.length : Int)) = true := by rw [decide_eq_true_iff]; omega
    rw [hd1, Bool.or_true]
    go_enter Tryd.func30, Tryd.ntmps30
    go_wp2_with fail
    go_ret
    exact ⟨rfl, HM.out⟩
  · have hd1 : decide (0 < xs.length) = false := by rw [decide_eq_false_iff_not]; exact h0
    have hd2 : decide ((0 : Int) < (xs.length : Int)) = false := by rw [decide_eq_false_iff_not]; omega
    rw [hd1, Bool.or_false]
    go_enter Tryd.func30, Tryd.ntmps30
    go_wp2_with fail
    go_ret
    exact ⟨rfl, Mod.refl _ _⟩
end Go.Proofs.YtcklbhplhpohpaaDoor
