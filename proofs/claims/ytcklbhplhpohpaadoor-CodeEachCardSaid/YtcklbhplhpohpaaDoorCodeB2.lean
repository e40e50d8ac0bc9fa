/- CodeBehind, walked. -/
import Derived.Test.YtcklbhplhpohpaaDoorCodeZ
import Derived.Laws.Bits128
namespace Go.Proofs.YtcklbhplhpohpaaDoor
open Go.RowKit

theorem i64_and65535 (n : Int) : bits .and .i64 n 65535 = n % 65536 := by
  have h1 : (BitVec.ofInt 64 n &&& BitVec.ofInt 64 65535).toNat = (BitVec.ofInt 64 n).toNat % 65536 := by
    rw [BitVec.toNat_and, show (BitVec.ofInt 64 65535).toNat = 65535 by decide]
    exact Nat.and_two_pow_sub_one_eq_mod _ 16
  show IntKind.i64.wrap ((BitVec.ofInt 64 n &&& BitVec.ofInt 64 65535).toNat : Int) = _
  rw [h1, BitVec.toNat_ofInt, IntKind.wrap_i64]
  omega
theorem Pts.one {w0 w : World} {p : Pt} (t : TypeId) (hp : p.ok w0) (hb : Below w0.heap.size w0 w) (cs : Array Value) (hcs : cs = (Pt.row [p]).toArray) : Pts (w.alloc (.cells cs t)) (some ⟨w.heap.size, 0, none⟩) [p] := by
  subst hcs
  refine ⟨⟨by simp [Pt.row, Pt.cells], fun _ => ⟨_, rfl, by simp, fun j u hu => ?_⟩⟩, fun q hq => ?_⟩
  · rw [add_flat]
    have := (Blk.new w t (Pt.row [p]).toArray).cell (0 + j)
    rw [this]
    simpa using hu
  · rw [List.mem_singleton.1 hq]
    exact hp.below (hb.alloc hb.size _)
theorem putAll_one (p : Pt) : putAll [p] = p.put := by simp [putAll]
theorem Fit.single {p : Pt} (h : p.b.length ≤ 2000) : Fit [p] := ⟨by simp, by simp; omega⟩
set_option maxRecDepth 100000 in
set_option maxHeartbeats 4000000 in
theorem behind_any (p : Pt) (A : Option Addr) (c : Nat) (xs : List UInt8) (B : Option Addr) (e : Nat) (ys : List UInt8) (cut : Int) (w : World) (hp : p.ok w) (hA : Bytes w A xs) (hB : Bytes w B ys) (hx63 : xs.length ≤ 9223372036854775807) (hy63 : ys.length ≤ 9223372036854775807) :
    Calls Tryd.prog 8 #[p.val, .slice A xs.length c, .slice B ys.length e, .int .i64 cut] w fun e w' => e = .returned (.bool true) ∧ Below w.heap.size w w' := by
  have HP := Lib.hid hp
  have HA := Lib.hid hA
  have HB := Lib.hid hB
  have HW := fun w => Lib.hid (awake_any w)
  have hpb : p.b.length ≤ 9223372036854775807 := Nat.le_trans hp.2.1 hp.2.2
  have hbig : (2000 < p.b.length ∨ 2000 < xs.length ∨ 2000 < ys.length) ∨ (p.b.length ≤ 2000 ∧ xs.length ≤ 2000 ∧ ys.length ≤ 2000) := by omega
  have hbx := below_new w p.obj
  have hblk : Blk (w.alloc p.obj) w.heap.size 36 #[.int .i64 p.s.toInt, .int .i64 p.m.toInt, .int .u64 (p.x.toNat : Int), .slice p.A p.b.length p.c] := Blk.new _ _ _
  unfold Pt.obj at hbx hblk
  unfold Pt.val
  have HBX := Lib.hid hbx
  clear hp hA hB hbx
  rcases hbig with hbig | ⟨hb1, hb2, hb3⟩
  · have h3 : 2000 < p.b.length ∨ (¬ 2000 < p.b.length ∧ 2000 < xs.length) ∨ (¬ 2000 < p.b.length ∧ ¬ 2000 < xs.length ∧ 2000 < ys.length) := by omega
    clear hbig hblk
    rcases h3 with h | ⟨h, h'⟩ | ⟨h, h', h''⟩
    · have hd1 : decide ((2000 : Int) < (p.b.length : Int)) = true := by rw [decide_eq_true_iff]; omega
      go_enter Tryd.func8, Tryd.ntmps8
      go_wp2_with fail
      refine (HW _).out.mono ?_
      rintro e w1 ⟨rfl, hb⟩
      have HB1 := Lib.hid (HBX.out.trans (hb.mono (by simp)))
      clear hb
      go_wp2_with fail
      go_ret
      exact ⟨rfl, HB1.out⟩
    · have hd1 : decide ((2000 : Int) < (p.b.length : Int)) = false := by rw [decide_eq_false_iff_not]; omega
      have hd2 : decide ((2000 : Int) < (xs.length : Int)) = true := by rw [decide_eq_true_iff]; omega
      go_enter Tryd.func8, Tryd.ntmps8
      go_wp2_with fail
      refine (HW _).out.mono ?_
      rintro e w1 ⟨rfl, hb⟩
      have HB1 := Lib.hid (HBX.out.trans (hb.mono (by simp)))
      clear hb
      go_wp2_with fail
      go_ret
      exact ⟨rfl, HB1.out⟩
    · have hd1 : decide ((2000 : Int) < (p.b.length : Int)) = false := by rw [decide_eq_false_iff_not]; omega
      have hd2 : decide ((2000 : Int) < (xs.length : Int)) = false := by rw [decide_eq_false_iff_not]; omega
      have hd3 : decide ((2000 : Int) < (ys.length : Int)) = true := by rw [decide_eq_true_iff]; omega
      go_enter Tryd.func8, Tryd.ntmps8
      go_wp2_with fail
      refine (HW _).out.mono ?_
      rintro e w1 ⟨rfl, hb⟩
      have HB1 := Lib.hid (HBX.out.trans (hb.mono (by simp)))
      clear hb
      go_wp2_with fail
      go_ret
      exact ⟨rfl, HB1.out⟩
  have hd1 : decide ((2000 : Int) < (p.b.length : Int)) = false := by rw [decide_eq_false_iff_not]; omega
  have hd2 : decide ((2000 : Int) < (xs.length : Int)) = false := by rw [decide_eq_false_iff_not]; omega
  have hd3 : decide ((2000 : Int) < (ys.length : Int)) = false := by rw [decide_eq_false_iff_not]; omega
  have hput := p.len_put (by omega)
  have hand : bits .and .i64 cut 65535 = ((cut % 65536).toNat : Int) := by rw [i64_and65535]; omega
  obtain ⟨ct, hct⟩ : ∃ ct : Nat, ct = (cut % 65536).toNat := ⟨_, rfl⟩
  rw [← hct] at hand
  have hct2 : ct < 65536 := by omega
  clear hct
  go_enter Tryd.func8, Tryd.ntmps8
  go_wp2_with fail
  have hP1 : Pts ((w.alloc (.cells #[.int .i64 p.s.toInt, .int .i64 p.m.toInt, .int .u64 (p.x.toNat : Int), .slice p.A p.b.length p.c] 36)).alloc (.cells #[.int .i64 p.s.toInt, .int .i64 p.m.toInt, .int .u64 (p.x.toNat : Int), .slice p.A p.b.length p.c] 36)) (some ⟨w.heap.size + 1, 0, none⟩) [p] := by
    have := Pts.one (w0 := w) 36 HP.out HBX.out #[.int .i64 p.s.toInt, .int .i64 p.m.toInt, .int .u64 (p.x.toNat : Int), .slice p.A p.b.length p.c] rfl
    rw [alloc_size] at this
    exact this
  have hrow := row_any (some ⟨w.heap.size + 1, 0, none⟩) 1 1 [p] rfl (Fit.single hb1) _ hP1
  rw [putAll_one] at hrow
  refine hrow.mono ?_
  clear hrow hP1
  rintro e w1 ⟨⟨A1, c1, rfl, ho1⟩, hr1⟩
  simp only [alloc_size] at ho1 hr1
  have hlt : w.heap.size < w1.heap.size := by have := hr1.size; simp at this; omega
  have hblk1 := (hblk.alloc (.cells #[.int .i64 p.s.toInt, .int .i64 p.m.toInt, .int .u64 (p.x.toNat : Int), .slice p.A p.b.length p.c] 36)).below hr1 (by omega)
  have HB1 := Lib.hid ((HBX.out.alloc (by simp) _).trans (hr1.mono (by omega)))
  have HO1 := Lib.hid (base_le ho1 (base' := w.heap.size) (by omega))
  have HBL := Lib.hid hblk1
  clear ho1 hr1 hblk hblk1
  have hown0 : ∀ W : World, (W.alloc (.cells #[] 5)).ownsRow W.heap.size 5 1 (.slice (some ⟨W.heap.size, 0, none⟩) 0 0) 0 [] := fun W => World.ownsRow_made _ _ _ (Nat.le_refl _) (by simp [maxLen]) rfl
  have HOWN := Lib.hid hown0
  clear hown0
  -- the first reader's bytes
  have hr1 : Reads (w1.alloc (.cells #[] 5)) 1 A1 p.put.length (p.put.map bv) := (Reads.of_own HO1.out).alloc _
  go_wp2_with (at_builtin; refine app_list bytes_ty rfl (s := .tmp 34) (x := .tmp 35) rfl (HOWN.out w1) rfl hr1 rfl (bv_one p.put) (by omega) (by simp) ?_; intro v2 w2 hown2 hg2 _; refine Hid.out ?_)
  have D2 := Lib.hid ((below_new w1 _).grown hg2 (by simp) (own_ge (HOWN.out w1)))
  have hs2 : w1.heap.size ≤ w2.heap.size := D2.out.size
  simp only [Nat.zero_add, List.nil_append] at hown2
  obtain ⟨A2, c2, rfl, _, _⟩ := own_slice hown2
  have hrx : Reads w2 1 A xs.length (xs.map bv) := Reads.below HA.out (below_call HB1.out (Nat.le_of_lt hlt) D2.out)
  clear hg2 hr1
  refine Lib.hid ?_
  go_wp2_with (at_builtin; refine app_list bytes_ty rfl (s := .tmp 36) (x := .tmp 37) rfl hown2 rfl hrx rfl (bv_one xs) (by omega) hs2 ?_; intro v3 w3 hown3 hg3 _; refine Hid.out ?_)
  have D3 := Lib.hid (D2.out.trans ((Below.refl _ _).grown hg3 hs2 (own_ge hown2)))
  have hs3 : w1.heap.size ≤ w3.heap.size := D3.out.size
  obtain ⟨A3, c3, rfl, _, _⟩ := own_slice hown3
  rw [← List.map_append] at hown3
  have HX3 : Hid (Bytes w3 A3 (p.put ++ xs)) := own_bytes (n := p.put.length + xs.length) hown3
  clear hg3 hown2 hrx hown3
  refine Lib.hid ?_
  go_wp2_with fail
  refine (rdr_new A3 c3 _ (p.put ++ xs) w3 HX3.out (by simp) (by simp; omega)).mono ?_
  rintro e w4 ⟨rx, rfl, hR4, hb4⟩
  obtain ⟨lox, hlox⟩ : ∃ n, n = w3.heap.size := ⟨_, rfl⟩
  obtain ⟨hix, hhix⟩ : ∃ n, n = w4.heap.size := ⟨_, rfl⟩
  rw [← hlox, ← hhix] at hR4
  have HR4 := Lib.hid hR4
  have hlx : w1.heap.size ≤ lox := by omega
  have HHIX := Lib.hid hhix
  have D4 := Lib.hid (below_call D3.out hs3 hb4)
  have hs4 : w1.heap.size ≤ w4.heap.size := D4.out.size
  clear hR4 hb4 hlox hhix D2 D3 hs2 hs3 HX3
  -- the second one's
  have hr4 : Reads (w4.alloc (.cells #[] 5)) 1 A1 p.put.length (p.put.map bv) := (Reads.of_own (own_call HO1.out D4.out)).alloc _
  go_wp2_with (at_builtin; refine app_list bytes_ty rfl (s := .tmp 40) (x := .tmp 41) rfl (HOWN.out w4) rfl hr4 rfl (bv_one p.put) (by omega) (by simp) ?_; intro v5 w5 hown5 hg5 _; refine Hid.out ?_)
  have E5 := Lib.hid ((below_new w4 _).grown hg5 (by simp) (own_ge (HOWN.out w4)))
  have hs5 : w4.heap.size ≤ w5.heap.size := E5.out.size
  simp only [Nat.zero_add, List.nil_append] at hown5
  obtain ⟨A5, c5, rfl, _, _⟩ := own_slice hown5
  have hry : Reads w5 1 B ys.length (ys.map bv) := Reads.below HB.out (below_call HB1.out (Nat.le_of_lt hlt) (below_call D4.out hs4 E5.out))
  clear hg5 hr4
  refine Lib.hid ?_
  go_wp2_with (at_builtin; refine app_list bytes_ty rfl (s := .tmp 42) (x := .tmp 43) rfl hown5 rfl hry rfl (bv_one ys) (by omega) hs5 ?_; intro v6 w6 hown6 hg6 _; refine Hid.out ?_)
  have E6 := Lib.hid (E5.out.trans ((Below.refl _ _).grown hg6 hs5 (own_ge hown5)))
  have hs6 : w4.heap.size ≤ w6.heap.size := E6.out.size
  obtain ⟨A6, c6, rfl, _, _⟩ := own_slice hown6
  rw [← List.map_append] at hown6
  have HX6 : Hid (Bytes w6 A6 (p.put ++ ys)) := own_bytes (n := p.put.length + ys.length) hown6
  clear hg6 hown5 hry hown6
  refine Lib.hid ?_
  go_wp2_with fail
  refine (rdr_new A6 c6 _ (p.put ++ ys) w6 HX6.out (by simp) (by simp; omega)).mono ?_
  rintro e w7 ⟨ry, rfl, hR7, hb7⟩
  obtain ⟨loy, hloy⟩ : ∃ n, n = w6.heap.size := ⟨_, rfl⟩
  obtain ⟨hiy, hhiy⟩ : ∃ n, n = w7.heap.size := ⟨_, rfl⟩
  rw [← hloy, ← hhiy] at hR7
  have HY7 := Lib.hid hR7
  have hxy : hix ≤ loy := by have := HHIX.out; omega
  have hhi7 : hiy ≤ w7.heap.size := by omega
  have hiy2 : loy ≤ hiy := by have := hb7.size; omega
  have hly : w1.heap.size ≤ loy := by omega
  have E7 := Lib.hid (below_call E6.out hs6 hb7)
  have D7 := Lib.hid (below_call D4.out hs4 E7.out)
  have HR7 := Lib.hid (HR4.out.below E7.out)
  have hs7 : w1.heap.size ≤ w7.heap.size := D7.out.size
  clear hR7 hb7 hloy hhiy E5 E6 hs5 hs6 HX6 HR4 D4 HHIX hs4
  -- what the part's block says
  have HPW : Hid (∀ W, Below w1.heap.size w1 W → W.cell? ⟨w.heap.size, 0, none⟩ = some (.int .i64 p.s.toInt) ∧ W.cell? ⟨w.heap.size, 1, none⟩ = some (.int .i64 p.m.toInt) ∧ W.cell? ⟨w.heap.size, 2, none⟩ = some (.int .u64 (p.x.toNat : Int)) ∧ W.cell? ⟨w.heap.size, 3, none⟩ = some (.slice p.A p.b.length p.c)) := fun W h => by
    have hb := HBL.out.below h hlt
    exact ⟨hb.cell 0, hb.cell 1, hb.cell 2, hb.cell 3⟩
  have HOK : Hid (∀ W, Below w1.heap.size w1 W → p.ok W) := fun W h => HP.out.below (below_call HB1.out (Nat.le_of_lt hlt) h)
  have HFAR : Hid (∀ lo hi, w1.heap.size ≤ lo → 0 < p.b.length → ∀ ad, p.A = some ad → ¬ Iv lo hi ad.block) := fun lo hi hlo h0 ad e h => by
    obtain ⟨g, o, e2, hg, _⟩ := Bytes.flat HP.out.1 h0
    rw [e] at e2
    injection e2 with e2
    subst e2
    have := h.1
    simp only at *
    omega
  obtain ⟨a0, a1, a2, a3⟩ := HPW.out w7 D7.out
  have hmx := meet_any lox hix rx _ 0 p w7 HR7.out (by omega) (HOK.out w7 D7.out) (HFAR.out lox hix hlx) hpb xs rfl
  unfold Pt.val at hmx
  have HMX := Lib.hid hmx
  clear hmx
  go_wp2_with fail
  refine HMX.out.mono ?_
  rintro e w8 ⟨rfl, hr8, hm8⟩
  have D8 := Lib.hid (Below.mod D7.out hm8 hs7 fun k hk => by have := hk.1; omega)
  have HR8 := Lib.hid hr8
  have HY8 := Lib.hid (HY7.out.mod hm8 fun k h1 h2 h3 => by have := h3.2; omega)
  have hs8 : w7.heap.size ≤ w8.heap.size := hm8.size
  clear hr8 hm8 a0 a1 a2 a3 HMX HY7 HR7
  obtain ⟨a0, a1, a2, a3⟩ := HPW.out w8 D8.out
  have hmy := meet_any loy hiy ry _ 0 p w8 HY8.out (by omega) (HOK.out w8 D8.out) (HFAR.out loy hiy (by omega)) hpb ys rfl
  unfold Pt.val at hmy
  have HMY := Lib.hid hmy
  clear hmy
  go_wp2_with fail
  refine HMY.out.mono ?_
  rintro e w9 ⟨rfl, hr9, hm9⟩
  have D9 := Lib.hid (Below.mod D8.out hm9 (by omega) fun k hk => by have := hk.1; omega)
  have HY9 := Lib.hid hr9
  have HR9 := Lib.hid (HR8.out.mod hm9 fun k h1 h2 h3 => by have := h3.1; omega)
  have hs9 : w8.heap.size ≤ w9.heap.size := hm9.size
  clear hr9 hm9 a0 a1 a2 a3 HMY HY8 HR8
  have hlfx := rdr_left w9 lox hix rx _ _ false HR9.out
  rw [show (p.put ++ xs).length - (0 + p.put.length) = xs.length from by rw [List.length_append]; omega] at hlfx
  have HLX := Lib.hid hlfx
  clear hlfx
  go_wp2_with fail
  refine HLX.out.mono ?_
  rintro e w10 ⟨rfl, q10, hq10⟩
  have hb10 : Below w9.heap.size w9 w10 := by rw [hq10]; exact below_drewN (Below.refl _ _) q10
  have D10 := Lib.hid (below_call D9.out (by omega) hb10)
  have HR10 := Lib.hid (HR9.out.below hb10)
  have HY10 := Lib.hid (HY9.out.below hb10)
  have hs10 : w9.heap.size ≤ w10.heap.size := hb10.size
  clear hq10 hb10 HR9 HY9 HLX
  have hlfy := rdr_left w10 loy hiy ry _ _ false HY10.out
  rw [show (p.put ++ ys).length - (0 + p.put.length) = ys.length from by rw [List.length_append]; omega] at hlfy
  have HLY := Lib.hid hlfy
  clear hlfy
  go_wp2_with fail
  refine HLY.out.mono ?_
  rintro e w11 ⟨rfl, q11, hq11⟩
  have hb11 : Below w10.heap.size w10 w11 := by rw [hq11]; exact below_drewN (Below.refl _ _) q11
  have D11 := Lib.hid (below_call D10.out (by omega) hb11)
  have HR11 := Lib.hid (HR10.out.below hb11)
  have hs11 : w10.heap.size ≤ w11.heap.size := hb11.size
  clear hq11 hb11 HR10 HY10 HLY
  have hs11' : w1.heap.size ≤ w11.heap.size := by omega
  have HE := Lib.hid (rdr_err w11 lox hix rx _ _ false HR11.out)
  go_wp2_with fail
  refine HE.out.mono ?_
  rintro e w12 ⟨rfl, rfl⟩
  clear HE HR11 hs7 hs8 hs9 hs10 hs11
  have HW1 := fun w => HW w
  rcases Nat.eq_zero_or_pos p.put.length with h0 | h0
  · have hz : ((p.put.length : Int) == 0) = true := by rw [beq_iff_eq]; omega
    go_wp2_with fail
    refine (HW _).out.mono ?_
    rintro e w13 ⟨rfl, hb⟩
    have HB13 := Lib.hid (below_call HB1.out (Nat.le_of_lt hlt) (below_call D11.out hs11' hb))
    clear hb
    go_wp2_with fail
    go_ret
    exact ⟨rfl, HB13.out⟩
  · have hz : ((p.put.length : Int) == 0) = false := by rw [beq_eq_false_iff_ne]; omega
    obtain ⟨g1, c1', e1, hg1, hc1, hc1'⟩ := own_ptr HO1.out h0
    injection e1 with e1 _ e2
    subst e1 e2
    obtain ⟨k, hk⟩ : ∃ k : Nat, k = ct % p.put.length := ⟨_, rfl⟩
    have hk2 : k < p.put.length := by rw [hk]; exact Nat.mod_lt _ h0
    have hmod : (ct : Int) % (p.put.length : Int) = (k : Int) := by rw [hk]; omega
    have hk0 : (0 : Int) ≤ k := by omega
    have hk3 : (k : Int) ≤ c1 := by omega
    unfold maxLen at hc1'
    clear hk
    go_wp2_with fail
    have hBk : Bytes w11 (some ⟨g1, 0, none⟩) (p.put.take k) := by
      have h := (own_bytes (own_call HO1.out D11.out) : Bytes w11 (some ⟨g1, 0, none⟩) p.put)
      have := Reads.take h (k := k) (by omega)
      unfold Bytes
      rw [List.length_take, Nat.min_eq_left (by omega), List.map_take]
      simpa using this
    refine (rdr_new (some ⟨g1, 0, none⟩) c1 k (p.put.take k) w11 hBk (by rw [List.length_take]; omega) (by rw [List.length_take]; omega)).mono ?_
    rintro e w12 ⟨rz, rfl, hR12, hb12⟩
    obtain ⟨loz, hloz⟩ : ∃ n, n = w11.heap.size := ⟨_, rfl⟩
    obtain ⟨hiz, hhiz⟩ : ∃ n, n = w12.heap.size := ⟨_, rfl⟩
    rw [← hloz, ← hhiz] at hR12
    have HR12 := Lib.hid hR12
    have D12 := Lib.hid (below_call D11.out hs11' hb12)
    have hs12 : w1.heap.size ≤ w12.heap.size := D12.out.size
    have hlz : w1.heap.size ≤ loz := by omega
    have hlz2 : loz ≤ w12.heap.size := by have := hb12.size; omega
    obtain ⟨a0, a1, a2, a3⟩ := HPW.out w12 D12.out
    have hfz : w12.frozen? ⟨w.heap.size, 1, none⟩ = false := (HBL.out.below D12.out hlt).free 1
    clear hR12 hb12 hloz hhiz hBk
    have hbm := HBL.out.below D12.out hlt
    have hbm2 := Lib.hid (hbm.put 1 (.int .i64 (p.b.length : Int)))
    have hm13 : Mod (fun k => k = w.heap.size) w12 (w12.setCell ⟨w.heap.size, 1, none⟩ (.int .i64 (p.b.length : Int))) := (Mod.refl (fun k => k = w.heap.size) w12).set (p := ⟨w.heap.size, 1, none⟩) (fun _ => rfl) _
    have HB12 := Lib.hid (below_call HB1.out (Nat.le_of_lt hlt) D12.out)
    have HB13 : Hid (Below w.heap.size w (w12.setCell ⟨w.heap.size, 1, none⟩ (.int .i64 (p.b.length : Int)))) := Below.mod HB12.out hm13 (by omega) fun k hk => by omega
    have HR13 := Lib.hid (HR12.out.mod hm13 fun k h1 h2 h3 => by omega)
    have hst : stepP p.most.k p.most.m.toInt ((p.put.take k).drop 0) false = (0, [], 0, true) := by
      rw [List.drop_zero, p.most_m hpb, p.most_k]
      exact stepP_none (get_cut p.n_lt hpb hk2)
    have hget := rdr_get _ loz hiz rz (p.put.take k) 0 false p.most HR13.out
    rw [hst, p.most_val hpb] at hget
    have HGET := Lib.hid hget
    clear hget hst hm13 hbm HR12 HB12
    have b0 := hbm2.out.cell 0
    have b1 := hbm2.out.cell 1
    have b2 := hbm2.out.cell 2
    have b3 := hbm2.out.cell 3
    simp only [List.setIfInBounds_toArray, List.set_cons_succ, List.set_cons_zero, List.getElem?_toArray, List.getElem?_cons_succ, List.getElem?_cons_zero] at b0 b1 b2 b3
    go_wp2_with fail
    refine HGET.out.mono ?_
    rintro e w14 ⟨rfl, hr14, hm14⟩
    have HB14 := Lib.hid (Below.mod HB13.out hm14 (by simp [World.setCell]; omega) fun k hk => by have := hk.1; omega)
    have HR14 := Lib.hid hr14
    have hs14 : w.heap.size ≤ w14.heap.size := HB14.out.size
    clear hr14 hm14 HGET b0 b1 b2 b3 hbm2 a0 a1 a2 a3
    have hlf := rdr_left w14 loz hiz rz _ _ true HR14.out
    rw [show (p.put.take k).length - (0 + 0) = k from by rw [List.length_take]; omega] at hlf
    have HLF := Lib.hid hlf
    clear hlf
    go_wp2_with fail
    refine HLF.out.mono ?_
    rintro e w15 ⟨rfl, q15, hq15⟩
    have HB15 : Hid (Below w.heap.size w w15) := by rw [hq15]; exact HB14.out.trans (below_drewN (Below.refl _ _) q15)
    have HR15 : Hid (Rdr w15 loz hiz rz (p.put.take k) (0 + 0) true) := by rw [hq15]; exact HR14.out.drewN q15
    clear hq15 HLF
    have HE2 := Lib.hid (rdr_err w15 loz hiz rz _ _ true HR15.out)
    go_wp2_with fail
    refine HE2.out.mono ?_
    rintro e w16 ⟨rfl, rfl⟩
    go_wp2_with fail
    refine (HW _).out.mono ?_
    rintro e w17 ⟨rfl, hb⟩
    have HB17 := Lib.hid (below_call HB15.out HB15.out.size hb)
    clear hb
    go_wp2_with fail
    go_ret
    exact ⟨rfl, HB17.out⟩
namespace CodeBehind
theorem walk {w : World} (p : Pt) (hp : p.ok w) (A : Option Addr) (xs : List UInt8) (c : Nat) (hA : Bytes w A xs) (h3 : xs.length ≤ c) (h4 : c ≤ 9223372036854775807)
    (B : Option Addr) (ys : List UInt8) (e : Nat) (hB : Bytes w B ys) (h5 : ys.length ≤ e) (h6 : e ≤ 9223372036854775807) (x : Int64) :
    Calls Tryd.prog 8 #[p.val, .slice A xs.length c, .slice B ys.length e, .int .i64 x.toInt] w fun e w' => e = .returned (.bool true) ∧ Below w.heap.size w w' :=
  behind_any p A c xs B e ys x.toInt w hp hA hB (Nat.le_trans h3 h4) (Nat.le_trans h5 h6)
end CodeBehind
end Go.Proofs.YtcklbhplhpohpaaDoor
