/- CodeEach, walked. -/
import Derived.Test.YtcklbhplhpohpaaDoorCodeB2
namespace Go.Proofs.YtcklbhplhpohpaaDoor
open Go.RowKit

/-- A number as a part. -/
def ptNum (y : Nat) : Pt := ⟨2, 0, UInt64.ofNat y, none, [], 0⟩
theorem ptNum_n {y : Nat} (h : y < 18446744073709551616) : (ptNum y).n = y := by
  show (UInt64.ofNat y).toNat = y
  rw [UInt64.toNat_ofNat']
  omega
theorem ptNum_put {y : Nat} (h : y < 18446744073709551616) : (ptNum y).put = short y := by
  unfold Pt.put
  rw [ptNum_n h]
  rfl
theorem ptNum_row {y : Nat} (h : y < 18446744073709551616) : Pt.row [ptNum y] = [.int .i64 2, .int .i64 0, .int .u64 (y : Int), .slice none 0 0] := by
  have : (UInt64.ofNat y).toNat = y := ptNum_n h
  simp only [Pt.row, List.flatMap_cons, List.flatMap_nil, List.append_nil, Pt.cells, ptNum, this]
  rfl
/-- A text as a part. -/
def ptText (g : Nat) (l : List UInt8) (c : Nat) : Pt := ⟨3, 0, 0, some ⟨g, 0, none⟩, l, c⟩
theorem ptText_put (g : Nat) (l : List UInt8) (c : Nat) : (ptText g l c).put = short l.length ++ l := rfl
theorem ptText_row (g : Nat) (l : List UInt8) (c : Nat) : Pt.row [ptText g l c] = [.int .i64 3, .int .i64 0, .int .u64 0, .slice (some ⟨g, 0, none⟩) l.length c] := rfl
theorem step_text (l : List UInt8) (most : Int) (hl : l.length < 18446744073709551616) :
    stepP 3 most ((short l.length ++ l).drop 0) false = if (l.length : Int) ≤ most then (0, l, (short l.length).length + l.length, false) else (0, [], 0, true) := by
  have hg : getP 3 most (short l.length ++ l) = (num (short l.length ++ l) 0).bind fun r => if 0 ≤ most ∧ (r.1 : Int) ≤ most ∧ r.1 ≤ (short l.length ++ l).length - r.2 then some (0, ((short l.length ++ l).drop r.2).take r.1, r.2 + r.1) else none := rfl
  rw [num_whole l.length 0 l (by omega) (by omega) (by omega), Option.bind_some] at hg
  rw [List.drop_zero]
  split
  · rename_i h
    rw [if_pos ⟨by omega, h, by rw [List.length_append]; simp⟩] at hg
    rw [stepP_some hg]
    simp
  · rename_i h
    rw [if_neg (fun hh => h hh.2.1)] at hg
    exact stepP_none hg
set_option maxRecDepth 100000 in
set_option maxHeartbeats 4000000 in
theorem each_any (D : Option Addr) (dc : Nat) (bs : List UInt8) (hb63 : bs.length ≤ 9223372036854775807) (hdc : bs.length ≤ dc) (hdc2 : dc ≤ 9223372036854775807) (s : List UInt8) (hs63 : s.length ≤ 9223372036854775807) (most : Int) (hm1 : -9223372036854775808 ≤ most) (hm2 : most ≤ 9223372036854775807) (w : World) (hD : Bytes w D bs) :
    Calls Tryd.prog 4 #[.slice D bs.length dc, .string ⟨s.toArray⟩, .int .i64 most] w fun e w' => e = .returned (.bool true) ∧ Below w.heap.size w w' := by
  have HD := Lib.hid hD
  have HW := fun w => Lib.hid (awake_any w)
  clear hD
  by_cases hbig : 2000 < bs.length
  · have hd1 : decide ((2000 : Int) < (bs.length : Int)) = true := by rw [decide_eq_true_iff]; omega
    go_enter Tryd.func4, Tryd.ntmps4
    go_wp2_with fail
    refine (HW _).out.mono ?_
    rintro e w1 ⟨rfl, hb⟩
    have HB1 := Lib.hid hb
    clear hb
    go_wp2_with fail
    go_ret
    exact ⟨rfl, HB1.out⟩
  have hd1 : decide ((2000 : Int) < (bs.length : Int)) = false := by rw [decide_eq_false_iff_not]; omega
  by_cases hbig2 : 2000 < s.length
  · have hd2 : decide ((2000 : Int) < (s.length : Int)) = true := by rw [decide_eq_true_iff]; omega
    go_enter Tryd.func4, Tryd.ntmps4
    go_wp2_with fail
    refine (HW _).out.mono ?_
    rintro e w1 ⟨rfl, hb⟩
    have HB1 := Lib.hid hb
    clear hb
    go_wp2_with fail
    go_ret
    exact ⟨rfl, HB1.out⟩
  have hd2 : decide ((2000 : Int) < (s.length : Int)) = false := by rw [decide_eq_false_iff_not]; omega
  go_enter Tryd.func4, Tryd.ntmps4
  go_wp2_with fail
  refine (rdr_new D dc _ bs w HD.out rfl (by omega)).mono ?_
  rintro e w1 ⟨r, rfl, hR, hb⟩
  obtain ⟨lo, hlo⟩ : ∃ lo, lo = w.heap.size := ⟨_, rfl⟩
  obtain ⟨hi, hhi⟩ : ∃ hi, hi = w1.heap.size := ⟨_, rfl⟩
  rw [← hlo, ← hhi] at hR
  have HR := Lib.hid hR
  have HLO := Lib.hid hlo
  have HB1 := Lib.hid hb
  have hs1 : w.heap.size ≤ w1.heap.size := hb.size
  clear hR hb hlo hhi
  obtain ⟨x, q, f, ht⟩ : ∃ x q f, stepP 2 0 (bs.drop 0) false = (x, [], q, f) ∧ x < 18446744073709551616 ∧ q ≤ bs.length ∧ ((f = false ∧ short x = bs.take q) ∨ (f = true ∧ x = 0 ∧ q = 0)) := by
    rw [List.drop_zero]
    cases hn : num bs 0 with
    | none => exact ⟨0, 0, true, stepP_none (by unfold getP; rw [if_neg (by decide), if_neg (by decide), if_pos rfl, hn]; rfl), by omega, by omega, .inr ⟨rfl, rfl, rfl⟩⟩
    | some v =>
      obtain ⟨y, k⟩ := v
      have h := num_sound bs 0 y k (by omega) hn
      exact ⟨y, k, false, stepP_some (by unfold getP; rw [if_neg (by decide), if_neg (by decide), if_pos rfl, hn]; rfl), (num_digits hn).2.2, h.1, .inl ⟨rfl, h.2.1⟩⟩
  obtain ⟨ht, hx64, hq, hcase⟩ := ht
  have hu := rdr_uint w1 lo hi r bs 0 false HR.out
  rw [ht] at hu
  have HU := Lib.hid hu
  clear hu ht
  go_wp2_with fail
  refine HU.out.mono ?_
  rintro e w2 ⟨rfl, hr2, hm2'⟩
  have HB2 := Lib.hid (Below.mod HB1.out hm2' hs1 fun k hk => by have := hk.1; have := HLO.out; omega)
  have HR2 : Hid (Rdr w2 lo hi r bs (0 + q) f) := hr2
  have hs2 : w.heap.size ≤ w2.heap.size := HB2.out.size
  clear hr2 hm2' HU
  have hlf := rdr_left w2 lo hi r _ _ f HR2.out
  rw [Nat.zero_add] at hlf
  have HLF := Lib.hid hlf
  clear hlf
  have hw9 : IntKind.i64.wrap ((bs.length : Int) - ((bs.length - q : Nat) : Int)) = (q : Int) := by rw [IntKind.wrap_i64]; omega
  have hw10 : (bs.length : Int) - ((bs.length - q : Nat) : Int) = (q : Int) := by omega
  go_wp2_with fail
  refine HLF.out.mono ?_
  rintro e w3 ⟨rfl, q3, hq3⟩
  have HB3 : Hid (Below w.heap.size w w3) := by rw [hq3]; exact HB2.out.trans (below_drewN (Below.refl _ _) q3)
  have HR3 : Hid (Rdr w3 lo hi r bs (0 + q) f) := by rw [hq3]; exact HR2.out.drewN q3
  have hs3 : w.heap.size ≤ w3.heap.size := HB3.out.size
  clear hq3 HLF HR2 HB2
  have HE := Lib.hid (rdr_err w3 lo hi r _ _ f HR3.out)
  rcases hcase with ⟨rfl, hsx⟩ | ⟨rfl, rfl, rfl⟩
  · have HSX := Lib.hid hsx
    clear hsx
    go_wp2_with fail
    refine HE.out.mono ?_
    rintro e w4 ⟨rfl, rfl⟩
    clear HE
    have hP := Pts.one (w0 := w3) 36 (p := ptNum x) ⟨Bytes.nil_ _ _, Nat.le_refl _, Nat.zero_le _⟩ (below_drewN (Below.refl _ _) 1) #[.int .i64 2, .int .i64 0, .int .u64 (x : Int), .slice none 0 0] (by rw [ptNum_row hx64])
    have hrow := row_any (some ⟨w3.heap.size, 0, none⟩) 1 1 [ptNum x] rfl (Fit.single (Nat.zero_le _)) _ hP
    rw [putAll_one, ptNum_put hx64] at hrow
    have HROW := Lib.hid hrow
    have hbk : Bytes w3.drew D (bs.take q) := by
      have h : Bytes w3.drew D bs := HD.out.below (HB3.out.drew)
      have := Reads.take h (k := q) hq
      unfold Bytes
      rw [List.length_take, Nat.min_eq_left hq, List.map_take]
      simpa using this
    have HBK := Lib.hid hbk
    have hlq : (bs.take q).length = q := by rw [List.length_take]; omega
    have hneq : (!short x == bs.take q) = false := by rw [HSX.out]; simp
    have hq0 : (0 : Int) ≤ q ∧ (q : Int) ≤ dc := by omega
    clear hrow hP hbk
    go_wp2_with fail
    refine PF.pf_begin (by kernel_rfl) ?_
    refine PF.pf_take0 0 (by kernel_rfl) rfl (fun _ _ _ _ _ h => h) (by kernel_rfl) (fun u => by go_simp; try rfl) ?_
    try simp only [Act.put, List.setIfInBounds_toArray, List.set_cons_zero, List.set_cons_succ]
    refine PF.pf_take0 1 (by kernel_rfl) rfl (fun _ _ _ _ _ h => h) (by kernel_rfl) (fun u => by go_simp; try rfl) ?_
    try simp only [Act.put, List.setIfInBounds_toArray, List.set_cons_zero, List.set_cons_succ]
    refine PF.pf_take0 5 (by kernel_rfl) rfl (fun _ _ _ _ _ h => h) (by kernel_rfl) (fun u => by go_simp; try rfl) ?_
    try simp only [Act.put, List.setIfInBounds_toArray, List.set_cons_zero, List.set_cons_succ]
    refine PF.pf_take0 6 (by kernel_rfl) rfl (fun _ _ _ _ _ h => h) (by kernel_rfl) (fun u => by go_simp; try rfl) ?_
    try simp only [Act.put, List.setIfInBounds_toArray, List.set_cons_zero, List.set_cons_succ]
    refine PF.pf_take0 7 (by kernel_rfl) rfl (fun _ _ _ _ _ h => h) (by kernel_rfl) (fun u => by go_simp; try rfl) ?_
    try simp only [Act.put, List.setIfInBounds_toArray, List.set_cons_zero, List.set_cons_succ]
    refine PF.pf_take1 8 (fun u => Bytes u D (bs.take q)) (by kernel_rfl) rfl (fun _ _ _ _ _ h => h) (by kernel_rfl) (HBK.out) (fun u hu => by (have hcv := conv_str (P := Tryd.prog) (w := u) (n := q) (c := dc) Tryd.underlying27 Tryd.underlying5 Tryd.underlying9 hu hlq; go_simp; rfl)) ?_
    try simp only [Act.put, List.setIfInBounds_toArray, List.set_cons_zero, List.set_cons_succ]
    refine PF.pf_exec 2 (by kernel_rfl) rfl (by kernel_rfl) (fun K hK => ?_)
    go_simp
    refine hK _ _ (by repeat (first | exact PF.owes_nil | refine PF.owes_left ?_ | refine PF.owes_no (by decide +kernel) ?_ | refine PF.owes_yes (by exact HBK.out.alloc _) ?_)) ?_
    clear hK K
    try simp only [Act.put, List.setIfInBounds_toArray, List.set_cons_zero, List.set_cons_succ]
    refine PF.pf_exec 3 (by kernel_rfl) rfl (by kernel_rfl) (fun K hK => ?_)
    go_simp
    refine HROW.out.mono ?_
    rintro e w4 ⟨⟨A4, c4, rfl, ho4⟩, hb4⟩
    have HB4 := Lib.hid (below_call HB3.out.drew hs3 ((below_new w3.drew _).trans (hb4.mono (by simp))))
    have hcv4 := conv_str (P := Tryd.prog) (w := w4) (n := (short x).length) (c := c4) Tryd.underlying27 Tryd.underlying5 Tryd.underlying9 (own_bytes ho4) rfl
    refine hK _ _ (by repeat (first | exact PF.owes_nil | refine PF.owes_left ?_ | refine PF.owes_no (by decide +kernel) ?_ | refine PF.owes_yes (by exact (HBK.out.alloc _).below hb4) ?_)) ?_
    clear hK K
    try simp only [Act.put, List.setIfInBounds_toArray, List.set_cons_zero, List.set_cons_succ]
    refine PF.pf_take1 4 (fun u => (convert 27 9 (.slice A4 (short x).length c4)).run Tryd.prog u = .ok (.string ⟨(short x).toArray⟩) u) (by kernel_rfl) rfl (fun _ _ _ _ _ h => h) (by kernel_rfl) (hcv4) (fun u hu => by (go_simp; rfl)) ?_
    try simp only [Act.put, List.setIfInBounds_toArray, List.set_cons_zero, List.set_cons_succ]
    refine PF.pf_take0 9 (by kernel_rfl) rfl (fun _ _ _ _ _ h => h) (by kernel_rfl) (fun u => by go_simp; try rfl) ?_
    try simp only [Act.put, List.setIfInBounds_toArray, List.set_cons_zero, List.set_cons_succ]
    refine PF.pf_done (by kernel_rfl) ?_
    obtain ⟨w9, hw9⟩ : ∃ W : World, W = w4 := ⟨_, rfl⟩
    rw [← hw9] at HB4 ⊢
    have HB9 : Hid (Below w.heap.size w w9) := HB4
    have hs9 : w.heap.size ≤ w9.heap.size := HB9.out.size
    clear hw9 HB4 HB3 hs3 HR3 HROW HBK hneq hlq
    -- the text
    go_wp2_with (refine str_new_list rfl rfl Tryd.underlying9 Tryd.underlying27 Tryd.underlying5 (l := s) (by omega) rfl ?_; intro c w10 hB hc1 hc2 hb10; refine Hid.out ?_)
    have hok : (ptText w9.heap.size s c).ok w10 := ⟨hB, hc1, hc2⟩
    have HB10 := Lib.hid (below_call HB9.out hs9 hb10)
    have hs10 : w.heap.size ≤ w10.heap.size := HB10.out.size
    have hP := Pts.one (w0 := w10) 36 hok (Below.refl _ _) #[.int .i64 3, .int .i64 0, .int .u64 0, .slice (some ⟨w9.heap.size, 0, none⟩) s.length c] rfl
    have hrow := row_any (some ⟨w10.heap.size, 0, none⟩) 1 1 [ptText w9.heap.size s c] rfl (Fit.single (by show s.length ≤ 2000; omega)) _ hP
    rw [putAll_one, ptText_put] at hrow
    have HROW := Lib.hid hrow
    clear hrow hP hok hB hb10
    refine Lib.hid ?_
    go_wp2_with fail
    refine HROW.out.mono ?_
    rintro e w11 ⟨⟨A11, c11, rfl, ho11⟩, hb11⟩
    have HB11 := Lib.hid (below_call HB10.out hs10 ((below_new w10 _).trans (hb11.mono (by simp))))
    have hs11 : w.heap.size ≤ w11.heap.size := HB11.out.size
    have hsl := short_len (y := s.length) (by omega)
    have hll : (short s.length ++ s).length ≤ 140737488355328 := by rw [List.length_append]; omega
    have HNEW := Lib.hid (rdr_new A11 c11 ((short s.length).length + s.length) (short s.length ++ s) w11 (own_bytes ho11) (by rw [List.length_append]) hll)
    clear ho11 hb11 hll HROW
    go_wp2_with fail
    refine HNEW.out.mono ?_
    rintro e w12 ⟨z, rfl, hR12, hb12⟩
    obtain ⟨loz, hloz⟩ : ∃ n, n = w11.heap.size := ⟨_, rfl⟩
    obtain ⟨hiz, hhiz⟩ : ∃ n, n = w12.heap.size := ⟨_, rfl⟩
    rw [← hloz, ← hhiz] at hR12
    have HR12 := Lib.hid hR12
    have HB12 := Lib.hid (below_call HB11.out hs11 hb12)
    have hs12 : w.heap.size ≤ w12.heap.size := HB12.out.size
    have hlz : w.heap.size ≤ loz := by omega
    clear hR12 hb12 hloz hhiz HNEW
    have htx := rdr_text w12 loz hiz z _ 0 false HR12.out most hm1 hm2
    rw [step_text s most (by omega)] at htx
    by_cases hml : (s.length : Int) ≤ most
    · rw [if_pos hml] at htx
      have HTX := Lib.hid htx
      have hge : decide ((s.length : Int) ≤ most) = true := by rw [decide_eq_true_iff]; exact hml
      clear htx
      go_wp2_with fail
      refine HTX.out.mono ?_
      rintro e w13 ⟨rfl, hr13, hm13⟩
      have HB13 := Lib.hid (Below.mod HB12.out hm13 hs12 fun k hk => by have := hk.1; omega)
      have HR13 := Lib.hid hr13
      clear hr13 hm13 HTX
      have HE13 := Lib.hid (rdr_err w13 loz hiz z _ _ false HR13.out)
      go_wp2_with fail
      refine HE13.out.mono ?_
      rintro e w14 ⟨rfl, rfl⟩
      go_wp2_with fail
      refine (HW _).out.mono ?_
      rintro e w15 ⟨rfl, hb⟩
      have HB15 := Lib.hid (below_call HB13.out HB13.out.size hb)
      clear hb
      go_wp2_with fail
      go_ret
      exact ⟨rfl, HB15.out⟩
    · rw [if_neg hml] at htx
      have HTX := Lib.hid htx
      have hge : decide ((s.length : Int) ≤ most) = false := by rw [decide_eq_false_iff_not]; exact hml
      clear htx
      go_wp2_with fail
      refine HTX.out.mono ?_
      rintro e w13 ⟨rfl, hr13, hm13⟩
      have HB13 := Lib.hid (Below.mod HB12.out hm13 hs12 fun k hk => by have := hk.1; omega)
      have HR13 : Hid (Rdr w13 loz hiz z (short s.length ++ s) (0 + 0) true) := hr13
      clear hr13 hm13 HTX
      have HE13 := Lib.hid (rdr_err w13 loz hiz z _ _ true HR13.out)
      go_wp2_with fail
      refine HE13.out.mono ?_
      rintro e w14 ⟨rfl, rfl⟩
      cases hse : s with
      | nil =>
        subst hse
        have hge2 : decide ((0 : Int) ≤ most) = false := by rw [decide_eq_false_iff_not]; simpa using hml
        go_wp2_with fail
        refine (HW _).out.mono ?_
        rintro e w15 ⟨rfl, hb⟩
        have HB15 := Lib.hid (below_call HB13.out HB13.out.size hb)
        clear hb
        go_wp2_with fail
        go_ret
        exact ⟨rfl, HB15.out⟩
      | cons c0 s0 =>
        subst hse
        have hge2 : decide ((s0.length : Int) + 1 ≤ most) = false := by rw [decide_eq_false_iff_not]; simpa using hml
        go_wp2_with fail
        refine HE13.out.mono ?_
        rintro e w14 ⟨rfl, rfl⟩
        go_wp2_with fail
        refine (HW _).out.mono ?_
        rintro e w15 ⟨rfl, hb⟩
        have HB15 := Lib.hid (below_call HB13.out HB13.out.size hb)
        clear hb
        go_wp2_with fail
        go_ret
        exact ⟨rfl, HB15.out⟩
  · go_wp2_with fail
    refine HE.out.mono ?_
    rintro e w4 ⟨rfl, rfl⟩
    clear HE
    obtain ⟨w9, hw9⟩ : ∃ W : World, W = w3 := ⟨_, rfl⟩
    rw [← hw9] at HB3 hs3 ⊢
    have HB9 := HB3
    have hs9 := hs3
    clear hw9 HB3 hs3 HR3
    -- the text
    go_wp2_with (refine str_new_list rfl rfl Tryd.underlying9 Tryd.underlying27 Tryd.underlying5 (l := s) (by omega) rfl ?_; intro c w10 hB hc1 hc2 hb10; refine Hid.out ?_)
    have hok : (ptText w9.heap.size s c).ok w10 := ⟨hB, hc1, hc2⟩
    have HB10 := Lib.hid (below_call HB9.out hs9 hb10)
    have hs10 : w.heap.size ≤ w10.heap.size := HB10.out.size
    have hP := Pts.one (w0 := w10) 36 hok (Below.refl _ _) #[.int .i64 3, .int .i64 0, .int .u64 0, .slice (some ⟨w9.heap.size, 0, none⟩) s.length c] rfl
    have hrow := row_any (some ⟨w10.heap.size, 0, none⟩) 1 1 [ptText w9.heap.size s c] rfl (Fit.single (by show s.length ≤ 2000; omega)) _ hP
    rw [putAll_one, ptText_put] at hrow
    have HROW := Lib.hid hrow
    clear hrow hP hok hB hb10
    refine Lib.hid ?_
    go_wp2_with fail
    refine HROW.out.mono ?_
    rintro e w11 ⟨⟨A11, c11, rfl, ho11⟩, hb11⟩
    have HB11 := Lib.hid (below_call HB10.out hs10 ((below_new w10 _).trans (hb11.mono (by simp))))
    have hs11 : w.heap.size ≤ w11.heap.size := HB11.out.size
    have hsl := short_len (y := s.length) (by omega)
    have hll : (short s.length ++ s).length ≤ 140737488355328 := by rw [List.length_append]; omega
    have HNEW := Lib.hid (rdr_new A11 c11 ((short s.length).length + s.length) (short s.length ++ s) w11 (own_bytes ho11) (by rw [List.length_append]) hll)
    clear ho11 hb11 hll HROW
    go_wp2_with fail
    refine HNEW.out.mono ?_
    rintro e w12 ⟨z, rfl, hR12, hb12⟩
    obtain ⟨loz, hloz⟩ : ∃ n, n = w11.heap.size := ⟨_, rfl⟩
    obtain ⟨hiz, hhiz⟩ : ∃ n, n = w12.heap.size := ⟨_, rfl⟩
    rw [← hloz, ← hhiz] at hR12
    have HR12 := Lib.hid hR12
    have HB12 := Lib.hid (below_call HB11.out hs11 hb12)
    have hs12 : w.heap.size ≤ w12.heap.size := HB12.out.size
    have hlz : w.heap.size ≤ loz := by omega
    clear hR12 hb12 hloz hhiz HNEW
    have htx := rdr_text w12 loz hiz z _ 0 false HR12.out most hm1 hm2
    rw [step_text s most (by omega)] at htx
    by_cases hml : (s.length : Int) ≤ most
    · rw [if_pos hml] at htx
      have HTX := Lib.hid htx
      have hge : decide ((s.length : Int) ≤ most) = true := by rw [decide_eq_true_iff]; exact hml
      clear htx
      go_wp2_with fail
      refine HTX.out.mono ?_
      rintro e w13 ⟨rfl, hr13, hm13⟩
      have HB13 := Lib.hid (Below.mod HB12.out hm13 hs12 fun k hk => by have := hk.1; omega)
      have HR13 := Lib.hid hr13
      clear hr13 hm13 HTX
      have HE13 := Lib.hid (rdr_err w13 loz hiz z _ _ false HR13.out)
      go_wp2_with fail
      refine HE13.out.mono ?_
      rintro e w14 ⟨rfl, rfl⟩
      go_wp2_with fail
      refine (HW _).out.mono ?_
      rintro e w15 ⟨rfl, hb⟩
      have HB15 := Lib.hid (below_call HB13.out HB13.out.size hb)
      clear hb
      go_wp2_with fail
      go_ret
      exact ⟨rfl, HB15.out⟩
    · rw [if_neg hml] at htx
      have HTX := Lib.hid htx
      have hge : decide ((s.length : Int) ≤ most) = false := by rw [decide_eq_false_iff_not]; exact hml
      clear htx
      go_wp2_with fail
      refine HTX.out.mono ?_
      rintro e w13 ⟨rfl, hr13, hm13⟩
      have HB13 := Lib.hid (Below.mod HB12.out hm13 hs12 fun k hk => by have := hk.1; omega)
      have HR13 : Hid (Rdr w13 loz hiz z (short s.length ++ s) (0 + 0) true) := hr13
      clear hr13 hm13 HTX
      have HE13 := Lib.hid (rdr_err w13 loz hiz z _ _ true HR13.out)
      go_wp2_with fail
      refine HE13.out.mono ?_
      rintro e w14 ⟨rfl, rfl⟩
      cases hse : s with
      | nil =>
        subst hse
        have hge2 : decide ((0 : Int) ≤ most) = false := by rw [decide_eq_false_iff_not]; simpa using hml
        go_wp2_with fail
        refine (HW _).out.mono ?_
        rintro e w15 ⟨rfl, hb⟩
        have HB15 := Lib.hid (below_call HB13.out HB13.out.size hb)
        clear hb
        go_wp2_with fail
        go_ret
        exact ⟨rfl, HB15.out⟩
      | cons c0 s0 =>
        subst hse
        have hge2 : decide ((s0.length : Int) + 1 ≤ most) = false := by rw [decide_eq_false_iff_not]; simpa using hml
        go_wp2_with fail
        refine HE13.out.mono ?_
        rintro e w14 ⟨rfl, rfl⟩
        go_wp2_with fail
        refine (HW _).out.mono ?_
        rintro e w15 ⟨rfl, hb⟩
        have HB15 := Lib.hid (below_call HB13.out HB13.out.size hb)
        clear hb
        go_wp2_with fail
        go_ret
        exact ⟨rfl, HB15.out⟩
namespace CodeEach
theorem walk {w : World} (D : Option Addr) (bs : List UInt8) (dc : Nat) (hD : Bytes w D bs) (h1 : bs.length ≤ dc) (h2 : dc ≤ 9223372036854775807) (s : ByteArray) (hs : s.size ≤ 9223372036854775807) (x : Int64) :
    Calls Tryd.prog 4 #[.slice D bs.length dc, .string s, .int .i64 x.toInt] w fun e w' => e = .returned (.bool true) ∧ Below w.heap.size w w' := by
  obtain ⟨l, rfl⟩ : ∃ l : List UInt8, s = ⟨l.toArray⟩ := ⟨s.data.toList, by simp⟩
  exact each_any D dc bs (Nat.le_trans h1 h2) h1 h2 l (by simpa [ByteArray.size] using hs) x.toInt (i64_lo x) (i64_hi x) w hD
end CodeEach
end Go.Proofs.YtcklbhplhpohpaaDoor
