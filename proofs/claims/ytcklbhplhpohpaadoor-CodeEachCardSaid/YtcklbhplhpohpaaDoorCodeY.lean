/- The law's meet, where the part stands there. (Printed by codey.py.) -/
import Derived.Test.YtcklbhplhpohpaaDoorCodeX
namespace Go.Proofs.YtcklbhplhpohpaaDoor
open Go.RowKit

/-- The part, asked for with its own length. -/
def Pt.most (p : Pt) : Pt := { p with m := Int64.ofInt p.b.length }
theorem Pt.most_m (p : Pt) (h : p.b.length ≤ 9223372036854775807) : p.most.m.toInt = (p.b.length : Int) := Int64.toInt_ofInt_of_le (by omega) (by omega)
theorem Pt.most_k (p : Pt) : p.most.k = p.k := rfl
theorem Pt.most_put (p : Pt) : p.most.put = p.put := rfl
theorem Pt.most_val (p : Pt) (h : p.b.length ≤ 9223372036854775807) : p.most.val = .agg #[.int .i64 p.s.toInt, .int .i64 (p.b.length : Int), .int .u64 (p.x.toNat : Int), .slice p.A p.b.length p.c] := by
  unfold Pt.val
  rw [p.most_m h]
  rfl
theorem and255 (n : Nat) (h : n < 18446744073709551616) : bits .and .u64 (n : Int) 255 = ((n % 256 : Nat) : Int) := by
  have := u64_and_nat n 255 h (by decide)
  rw [show n &&& 255 = n % 256 from Nat.and_two_pow_sub_one_eq_mod n 8] at this
  exact this
theorem and32 (n : Nat) (h : n < 18446744073709551616) : bits .and .u64 (n : Int) 4294967295 = ((n % 4294967296 : Nat) : Int) := by
  have := u64_and_nat n 4294967295 h (by decide)
  rw [show n &&& 4294967295 = n % 4294967296 from Nat.and_two_pow_sub_one_eq_mod n 32] at this
  exact this
/-- What is read where the part stands. -/
theorem step_put (p : Pt) (hb : p.b.length ≤ 9223372036854775807) {xs rest : List UInt8} (hx : xs = p.put ++ rest) : stepP p.most.k p.most.m.toInt xs false = (numP p.k p.n, textP p.k p.b, p.put.length, false) := by
  rw [p.most_m hb, p.most_k, hx]
  exact stepP_some (get_put p.n_lt hb)
set_option maxRecDepth 100000 in
set_option maxHeartbeats 1000000 in
theorem meet_0 (lo hi r : Nat) (l : List UInt8) (q : Nat) (p : Pt) (hk : p.k = 0) (w : World) (h : Rdr w lo hi r l q false) (hhi : hi ≤ w.heap.size) (hp : p.ok w) (hA : 0 < p.b.length → ∀ ad, p.A = some ad → ¬ Iv lo hi ad.block) (hb : p.b.length ≤ 9223372036854775807) (rest : List UInt8) (hx : l.drop q = p.put ++ rest) :
    Calls Tryd.prog 32 #[.pointer (some ⟨r, 0, none⟩), p.val] w fun e w' => e = .returned (.bool true) ∧ Rdr w' lo hi r l (q + p.put.length) false ∧ Mod (Iv lo hi) w w' := by
  have hst : stepP p.most.k p.most.m.toInt (l.drop q) false = (p.n % 256, [], p.put.length, false) := by
    rw [step_put p hb hx, hk]
    rfl
  obtain ⟨cs, hcs⟩ : ∃ cs : Array Value, cs = #[.int .i64 p.s.toInt, .int .i64 (p.b.length : Int), .int .u64 (p.x.toNat : Int), .slice p.A p.b.length p.c] := ⟨_, rfl⟩
  have hbx := below_new w (.cells cs 36)
  have hblk : Blk (w.alloc (.cells cs 36)) w.heap.size 36 cs := Blk.new _ _ _
  have hR1 := h.below hbx
  have hm1 : Mod (Iv lo hi) w (w.alloc (.cells cs 36)) := (Mod.refl _ w).alloc _
  have hget := rdr_get _ lo hi r l q false p.most hR1
  rw [hst, p.most_val hb] at hget
  subst hcs
  have hn : p.n = p.x.toNat := rfl
  have hx64 := p.n_lt
  unfold Pt.val
  have HSM := fun w => Lib.hid (sort_k p.most 0 hk w)
  simp only [p.most_val hb] at HSM
  rw [← hn] at hbx hblk hm1 hget HSM ⊢
  have HG := Lib.hid hget
  have HM1 := Lib.hid hm1
  have HP := Lib.hid hp
  have HPA := Lib.hid hA
  have hhi1 : hi ≤ w.heap.size := hhi
  have HB1 := Lib.hid hblk
  have HBX := Lib.hid hbx
  clear hget hm1 hp hA hR1 hst hx h hk hn hbx
  have hand := and255 p.n hx64
  have d1 := hblk.cell 1
  have d3 := hblk.cell 3
  have f1 := hblk.free 1
  simp only [List.getElem?_toArray, List.getElem?_cons_succ, List.getElem?_cons_zero] at d1 d3
  clear hblk
  go_enter Tryd.func32, Tryd.ntmps32
  go_wp2_with fail
  refine HG.out.mono ?_
  rintro e w2 ⟨rfl, hr2, hm2⟩
  have HM2 := Lib.hid (HM1.out.trans hm2)
  have HR2 : Hid (Rdr w2 lo hi r l (q + p.put.length) false) := hr2
  have hb2 := HB1.out.mod hm2 (fun h => by have := h.2; omega)
  have HPB : Hid (Bytes w2 p.A p.b) := by
    rcases Nat.eq_zero_or_pos p.b.length with h0 | h0
    · have : p.b = [] := List.eq_nil_of_length_eq_zero h0
      rw [this]
      exact Bytes.nil_ _ _
    · exact HP.out.1.mod HM2.out (HPA.out h0)
  have HB2 := Lib.hid hb2
  have e0 := hb2.cell 0
  have e1 := hb2.cell 1
  have e2 := hb2.cell 2
  have e3 := hb2.cell 3
  simp only [List.getElem?_toArray, List.getElem?_cons_succ, List.getElem?_cons_zero] at e0 e1 e2 e3
  clear hr2 hm2 hb2
  go_wp2_with fail
  refine (HSM _).out.mono ?_
  rintro e w3 ⟨rfl, hb3⟩
  have hlt2 := HB2.out.lt
  have c2 := (hb3.cell (p := ⟨w.heap.size, 2, none⟩) hlt2).trans e2
  have c3 := (hb3.cell (p := ⟨w.heap.size, 3, none⟩) hlt2).trans e3
  have HR3 := Lib.hid (HR2.out.below hb3)
  have HM3 := Lib.hid (HM2.out.trans (Mod.below hb3 (Nat.le_refl _)))
  clear hb3 e0 e1 e2 e3
  go_wp2_with fail
  go_ret
  exact ⟨rfl, HR3.out, HM3.out⟩
set_option maxRecDepth 100000 in
set_option maxHeartbeats 1000000 in
theorem meet_1 (lo hi r : Nat) (l : List UInt8) (q : Nat) (p : Pt) (hk : p.k = 1) (w : World) (h : Rdr w lo hi r l q false) (hhi : hi ≤ w.heap.size) (hp : p.ok w) (hA : 0 < p.b.length → ∀ ad, p.A = some ad → ¬ Iv lo hi ad.block) (hb : p.b.length ≤ 9223372036854775807) (rest : List UInt8) (hx : l.drop q = p.put ++ rest) :
    Calls Tryd.prog 32 #[.pointer (some ⟨r, 0, none⟩), p.val] w fun e w' => e = .returned (.bool true) ∧ Rdr w' lo hi r l (q + p.put.length) false ∧ Mod (Iv lo hi) w w' := by
  have hst : stepP p.most.k p.most.m.toInt (l.drop q) false = (p.n % 4294967296, [], p.put.length, false) := by
    rw [step_put p hb hx, hk]
    rfl
  obtain ⟨cs, hcs⟩ : ∃ cs : Array Value, cs = #[.int .i64 p.s.toInt, .int .i64 (p.b.length : Int), .int .u64 (p.x.toNat : Int), .slice p.A p.b.length p.c] := ⟨_, rfl⟩
  have hbx := below_new w (.cells cs 36)
  have hblk : Blk (w.alloc (.cells cs 36)) w.heap.size 36 cs := Blk.new _ _ _
  have hR1 := h.below hbx
  have hm1 : Mod (Iv lo hi) w (w.alloc (.cells cs 36)) := (Mod.refl _ w).alloc _
  have hget := rdr_get _ lo hi r l q false p.most hR1
  rw [hst, p.most_val hb] at hget
  subst hcs
  have hn : p.n = p.x.toNat := rfl
  have hx64 := p.n_lt
  unfold Pt.val
  have HSM := fun w => Lib.hid (sort_k p.most 1 hk w)
  simp only [p.most_val hb] at HSM
  rw [← hn] at hbx hblk hm1 hget HSM ⊢
  have HG := Lib.hid hget
  have HM1 := Lib.hid hm1
  have HP := Lib.hid hp
  have HPA := Lib.hid hA
  have hhi1 : hi ≤ w.heap.size := hhi
  have HB1 := Lib.hid hblk
  have HBX := Lib.hid hbx
  clear hget hm1 hp hA hR1 hst hx h hk hn hbx
  have hand := and32 p.n hx64
  have d1 := hblk.cell 1
  have d3 := hblk.cell 3
  have f1 := hblk.free 1
  simp only [List.getElem?_toArray, List.getElem?_cons_succ, List.getElem?_cons_zero] at d1 d3
  clear hblk
  go_enter Tryd.func32, Tryd.ntmps32
  go_wp2_with fail
  refine HG.out.mono ?_
  rintro e w2 ⟨rfl, hr2, hm2⟩
  have HM2 := Lib.hid (HM1.out.trans hm2)
  have HR2 : Hid (Rdr w2 lo hi r l (q + p.put.length) false) := hr2
  have hb2 := HB1.out.mod hm2 (fun h => by have := h.2; omega)
  have HPB : Hid (Bytes w2 p.A p.b) := by
    rcases Nat.eq_zero_or_pos p.b.length with h0 | h0
    · have : p.b = [] := List.eq_nil_of_length_eq_zero h0
      rw [this]
      exact Bytes.nil_ _ _
    · exact HP.out.1.mod HM2.out (HPA.out h0)
  have HB2 := Lib.hid hb2
  have e0 := hb2.cell 0
  have e1 := hb2.cell 1
  have e2 := hb2.cell 2
  have e3 := hb2.cell 3
  simp only [List.getElem?_toArray, List.getElem?_cons_succ, List.getElem?_cons_zero] at e0 e1 e2 e3
  clear hr2 hm2 hb2
  go_wp2_with fail
  refine (HSM _).out.mono ?_
  rintro e w3 ⟨rfl, hb3⟩
  have hlt2 := HB2.out.lt
  have c2 := (hb3.cell (p := ⟨w.heap.size, 2, none⟩) hlt2).trans e2
  have c3 := (hb3.cell (p := ⟨w.heap.size, 3, none⟩) hlt2).trans e3
  have HR3 := Lib.hid (HR2.out.below hb3)
  have HM3 := Lib.hid (HM2.out.trans (Mod.below hb3 (Nat.le_refl _)))
  clear hb3 e0 e1 e2 e3
  go_wp2_with fail
  go_ret
  exact ⟨rfl, HR3.out, HM3.out⟩
set_option maxRecDepth 100000 in
set_option maxHeartbeats 1000000 in
theorem meet_2 (lo hi r : Nat) (l : List UInt8) (q : Nat) (p : Pt) (hk : p.k = 2) (w : World) (h : Rdr w lo hi r l q false) (hhi : hi ≤ w.heap.size) (hp : p.ok w) (hA : 0 < p.b.length → ∀ ad, p.A = some ad → ¬ Iv lo hi ad.block) (hb : p.b.length ≤ 9223372036854775807) (rest : List UInt8) (hx : l.drop q = p.put ++ rest) :
    Calls Tryd.prog 32 #[.pointer (some ⟨r, 0, none⟩), p.val] w fun e w' => e = .returned (.bool true) ∧ Rdr w' lo hi r l (q + p.put.length) false ∧ Mod (Iv lo hi) w w' := by
  have hst : stepP p.most.k p.most.m.toInt (l.drop q) false = (p.n, [], p.put.length, false) := by
    rw [step_put p hb hx, hk]
    rfl
  obtain ⟨cs, hcs⟩ : ∃ cs : Array Value, cs = #[.int .i64 p.s.toInt, .int .i64 (p.b.length : Int), .int .u64 (p.x.toNat : Int), .slice p.A p.b.length p.c] := ⟨_, rfl⟩
  have hbx := below_new w (.cells cs 36)
  have hblk : Blk (w.alloc (.cells cs 36)) w.heap.size 36 cs := Blk.new _ _ _
  have hR1 := h.below hbx
  have hm1 : Mod (Iv lo hi) w (w.alloc (.cells cs 36)) := (Mod.refl _ w).alloc _
  have hget := rdr_get _ lo hi r l q false p.most hR1
  rw [hst, p.most_val hb] at hget
  subst hcs
  have hn : p.n = p.x.toNat := rfl
  have hx64 := p.n_lt
  unfold Pt.val
  have HSM := fun w => Lib.hid (sort_k p.most 2 hk w)
  simp only [p.most_val hb] at HSM
  rw [← hn] at hbx hblk hm1 hget HSM ⊢
  have HG := Lib.hid hget
  have HM1 := Lib.hid hm1
  have HP := Lib.hid hp
  have HPA := Lib.hid hA
  have hhi1 : hi ≤ w.heap.size := hhi
  have HB1 := Lib.hid hblk
  have HBX := Lib.hid hbx
  clear hget hm1 hp hA hR1 hst hx h hk hn hbx
  have d1 := hblk.cell 1
  have d3 := hblk.cell 3
  have f1 := hblk.free 1
  simp only [List.getElem?_toArray, List.getElem?_cons_succ, List.getElem?_cons_zero] at d1 d3
  clear hblk
  go_enter Tryd.func32, Tryd.ntmps32
  go_wp2_with fail
  refine HG.out.mono ?_
  rintro e w2 ⟨rfl, hr2, hm2⟩
  have HM2 := Lib.hid (HM1.out.trans hm2)
  have HR2 : Hid (Rdr w2 lo hi r l (q + p.put.length) false) := hr2
  have hb2 := HB1.out.mod hm2 (fun h => by have := h.2; omega)
  have HPB : Hid (Bytes w2 p.A p.b) := by
    rcases Nat.eq_zero_or_pos p.b.length with h0 | h0
    · have : p.b = [] := List.eq_nil_of_length_eq_zero h0
      rw [this]
      exact Bytes.nil_ _ _
    · exact HP.out.1.mod HM2.out (HPA.out h0)
  have HB2 := Lib.hid hb2
  have e0 := hb2.cell 0
  have e1 := hb2.cell 1
  have e2 := hb2.cell 2
  have e3 := hb2.cell 3
  simp only [List.getElem?_toArray, List.getElem?_cons_succ, List.getElem?_cons_zero] at e0 e1 e2 e3
  clear hr2 hm2 hb2
  go_wp2_with fail
  refine (HSM _).out.mono ?_
  rintro e w3 ⟨rfl, hb3⟩
  have hlt2 := HB2.out.lt
  have c2 := (hb3.cell (p := ⟨w.heap.size, 2, none⟩) hlt2).trans e2
  have c3 := (hb3.cell (p := ⟨w.heap.size, 3, none⟩) hlt2).trans e3
  have HR3 := Lib.hid (HR2.out.below hb3)
  have HM3 := Lib.hid (HM2.out.trans (Mod.below hb3 (Nat.le_refl _)))
  clear hb3 e0 e1 e2 e3
  go_wp2_with fail
  go_ret
  exact ⟨rfl, HR3.out, HM3.out⟩
set_option maxRecDepth 100000 in
set_option maxHeartbeats 1000000 in
theorem meet_3 (lo hi r : Nat) (l : List UInt8) (q : Nat) (p : Pt) (hk : p.k = 3) (w : World) (h : Rdr w lo hi r l q false) (hhi : hi ≤ w.heap.size) (hp : p.ok w) (hA : 0 < p.b.length → ∀ ad, p.A = some ad → ¬ Iv lo hi ad.block) (hb : p.b.length ≤ 9223372036854775807) (rest : List UInt8) (hx : l.drop q = p.put ++ rest) :
    Calls Tryd.prog 32 #[.pointer (some ⟨r, 0, none⟩), p.val] w fun e w' => e = .returned (.bool true) ∧ Rdr w' lo hi r l (q + p.put.length) false ∧ Mod (Iv lo hi) w w' := by
  have hst : stepP p.most.k p.most.m.toInt (l.drop q) false = (0, p.b, p.put.length, false) := by
    rw [step_put p hb hx, hk]
    rfl
  obtain ⟨cs, hcs⟩ : ∃ cs : Array Value, cs = #[.int .i64 p.s.toInt, .int .i64 (p.b.length : Int), .int .u64 (p.x.toNat : Int), .slice p.A p.b.length p.c] := ⟨_, rfl⟩
  have hbx := below_new w (.cells cs 36)
  have hblk : Blk (w.alloc (.cells cs 36)) w.heap.size 36 cs := Blk.new _ _ _
  have hR1 := h.below hbx
  have hm1 : Mod (Iv lo hi) w (w.alloc (.cells cs 36)) := (Mod.refl _ w).alloc _
  have hget := rdr_get _ lo hi r l q false p.most hR1
  rw [hst, p.most_val hb] at hget
  subst hcs
  have hn : p.n = p.x.toNat := rfl
  have hx64 := p.n_lt
  unfold Pt.val
  have HSM := fun w => Lib.hid (sort_k p.most 3 hk w)
  simp only [p.most_val hb] at HSM
  rw [← hn] at hbx hblk hm1 hget HSM ⊢
  have HG := Lib.hid hget
  have HM1 := Lib.hid hm1
  have HP := Lib.hid hp
  have HPA := Lib.hid hA
  have hhi1 : hi ≤ w.heap.size := hhi
  have HB1 := Lib.hid hblk
  have HBX := Lib.hid hbx
  clear hget hm1 hp hA hR1 hst hx h hk hn hbx
  have d1 := hblk.cell 1
  have d3 := hblk.cell 3
  have f1 := hblk.free 1
  simp only [List.getElem?_toArray, List.getElem?_cons_succ, List.getElem?_cons_zero] at d1 d3
  clear hblk
  go_enter Tryd.func32, Tryd.ntmps32
  go_wp2_with fail
  refine HG.out.mono ?_
  rintro e w2 ⟨rfl, hr2, hm2⟩
  have HM2 := Lib.hid (HM1.out.trans hm2)
  have HR2 : Hid (Rdr w2 lo hi r l (q + p.put.length) false) := hr2
  have hb2 := HB1.out.mod hm2 (fun h => by have := h.2; omega)
  have HPB : Hid (Bytes w2 p.A p.b) := by
    rcases Nat.eq_zero_or_pos p.b.length with h0 | h0
    · have : p.b = [] := List.eq_nil_of_length_eq_zero h0
      rw [this]
      exact Bytes.nil_ _ _
    · exact HP.out.1.mod HM2.out (HPA.out h0)
  have HB2 := Lib.hid hb2
  have e0 := hb2.cell 0
  have e1 := hb2.cell 1
  have e2 := hb2.cell 2
  have e3 := hb2.cell 3
  simp only [List.getElem?_toArray, List.getElem?_cons_succ, List.getElem?_cons_zero] at e0 e1 e2 e3
  clear hr2 hm2 hb2
  go_wp2_with fail
  refine (HSM _).out.mono ?_
  rintro e w3 ⟨rfl, hb3⟩
  have hlt2 := HB2.out.lt
  have c2 := (hb3.cell (p := ⟨w.heap.size, 2, none⟩) hlt2).trans e2
  have c3 := (hb3.cell (p := ⟨w.heap.size, 3, none⟩) hlt2).trans e3
  have HR3 := Lib.hid (HR2.out.below hb3)
  have HM3 := Lib.hid (HM2.out.trans (Mod.below hb3 (Nat.le_refl _)))
  have hcv := conv_str (P := Tryd.prog) (w := w3) (n := p.b.length) (c := p.c) Tryd.underlying27 Tryd.underlying5 Tryd.underlying9 (HPB.out.below hb3) rfl
  clear hb3 e0 e1 e2 e3
  go_wp2_with fail
  go_ret
  exact ⟨rfl, HR3.out, HM3.out⟩
set_option maxRecDepth 100000 in
set_option maxHeartbeats 1000000 in
theorem meet_4 (lo hi r : Nat) (l : List UInt8) (q : Nat) (p : Pt) (hk : p.k = 4) (w : World) (h : Rdr w lo hi r l q false) (hhi : hi ≤ w.heap.size) (hp : p.ok w) (hA : 0 < p.b.length → ∀ ad, p.A = some ad → ¬ Iv lo hi ad.block) (hb : p.b.length ≤ 9223372036854775807) (rest : List UInt8) (hx : l.drop q = p.put ++ rest) :
    Calls Tryd.prog 32 #[.pointer (some ⟨r, 0, none⟩), p.val] w fun e w' => e = .returned (.bool true) ∧ Rdr w' lo hi r l (q + p.put.length) false ∧ Mod (Iv lo hi) w w' := by
  have hst : stepP p.most.k p.most.m.toInt (l.drop q) false = (0, p.b, p.put.length, false) := by
    rw [step_put p hb hx, hk]
    rfl
  obtain ⟨cs, hcs⟩ : ∃ cs : Array Value, cs = #[.int .i64 p.s.toInt, .int .i64 (p.b.length : Int), .int .u64 (p.x.toNat : Int), .slice p.A p.b.length p.c] := ⟨_, rfl⟩
  have hbx := below_new w (.cells cs 36)
  have hblk : Blk (w.alloc (.cells cs 36)) w.heap.size 36 cs := Blk.new _ _ _
  have hR1 := h.below hbx
  have hm1 : Mod (Iv lo hi) w (w.alloc (.cells cs 36)) := (Mod.refl _ w).alloc _
  have hget := rdr_get _ lo hi r l q false p.most hR1
  rw [hst, p.most_val hb] at hget
  subst hcs
  have hn : p.n = p.x.toNat := rfl
  have hx64 := p.n_lt
  unfold Pt.val
  have HSM := fun w => Lib.hid (sort_k p.most 4 hk w)
  simp only [p.most_val hb] at HSM
  rw [← hn] at hbx hblk hm1 hget HSM ⊢
  have HG := Lib.hid hget
  have HM1 := Lib.hid hm1
  have HP := Lib.hid hp
  have HPA := Lib.hid hA
  have hhi1 : hi ≤ w.heap.size := hhi
  have HB1 := Lib.hid hblk
  have HBX := Lib.hid hbx
  clear hget hm1 hp hA hR1 hst hx h hk hn hbx
  have d1 := hblk.cell 1
  have d3 := hblk.cell 3
  have f1 := hblk.free 1
  simp only [List.getElem?_toArray, List.getElem?_cons_succ, List.getElem?_cons_zero] at d1 d3
  clear hblk
  go_enter Tryd.func32, Tryd.ntmps32
  go_wp2_with fail
  refine HG.out.mono ?_
  rintro e w2 ⟨rfl, hr2, hm2⟩
  have HM2 := Lib.hid (HM1.out.trans hm2)
  have HR2 : Hid (Rdr w2 lo hi r l (q + p.put.length) false) := hr2
  have hb2 := HB1.out.mod hm2 (fun h => by have := h.2; omega)
  have HPB : Hid (Bytes w2 p.A p.b) := by
    rcases Nat.eq_zero_or_pos p.b.length with h0 | h0
    · have : p.b = [] := List.eq_nil_of_length_eq_zero h0
      rw [this]
      exact Bytes.nil_ _ _
    · exact HP.out.1.mod HM2.out (HPA.out h0)
  have HB2 := Lib.hid hb2
  have e0 := hb2.cell 0
  have e1 := hb2.cell 1
  have e2 := hb2.cell 2
  have e3 := hb2.cell 3
  simp only [List.getElem?_toArray, List.getElem?_cons_succ, List.getElem?_cons_zero] at e0 e1 e2 e3
  clear hr2 hm2 hb2
  go_wp2_with fail
  refine (HSM _).out.mono ?_
  rintro e w3 ⟨rfl, hb3⟩
  have hlt2 := HB2.out.lt
  have c2 := (hb3.cell (p := ⟨w.heap.size, 2, none⟩) hlt2).trans e2
  have c3 := (hb3.cell (p := ⟨w.heap.size, 3, none⟩) hlt2).trans e3
  have HR3 := Lib.hid (HR2.out.below hb3)
  have HM3 := Lib.hid (HM2.out.trans (Mod.below hb3 (Nat.le_refl _)))
  have hcv := conv_str (P := Tryd.prog) (w := w3) (n := p.b.length) (c := p.c) Tryd.underlying27 Tryd.underlying5 Tryd.underlying9 (HPB.out.below hb3) rfl
  clear hb3 e0 e1 e2 e3
  go_wp2_with fail
  go_ret
  exact ⟨rfl, HR3.out, HM3.out⟩
theorem meet_any (lo hi r : Nat) (l : List UInt8) (q : Nat) (p : Pt) (w : World) (h : Rdr w lo hi r l q false) (hhi : hi ≤ w.heap.size) (hp : p.ok w) (hA : 0 < p.b.length → ∀ ad, p.A = some ad → ¬ Iv lo hi ad.block) (hb : p.b.length ≤ 9223372036854775807) (rest : List UInt8) (hx : l.drop q = p.put ++ rest) :
    Calls Tryd.prog 32 #[.pointer (some ⟨r, 0, none⟩), p.val] w fun e w' => e = .returned (.bool true) ∧ Rdr w' lo hi r l (q + p.put.length) false ∧ Mod (Iv lo hi) w w' := by
  rcases p.k_cases with hk | hk | hk | hk | hk
  · exact meet_0 lo hi r l q p hk w h hhi hp hA hb rest hx
  · exact meet_1 lo hi r l q p hk w h hhi hp hA hb rest hx
  · exact meet_2 lo hi r l q p hk w h hhi hp hA hb rest hx
  · exact meet_3 lo hi r l q p hk w h hhi hp hA hb rest hx
  · exact meet_4 lo hi r l q p hk w h hhi hp hA hb rest hx
end Go.Proofs.YtcklbhplhpohpaaDoor
