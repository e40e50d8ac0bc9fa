/- The law's put: of a writer, of none. (Printed by coder.py.) -/
import Derived.Test.YtcklbhplhpohpaaDoorCodeQ
namespace Go.Proofs.YtcklbhplhpohpaaDoor
open Go.RowKit

theorem u8_mod (n : Nat) : UInt8.ofNat (n % 256) = UInt8.ofNat n := by
  apply UInt8.toNat_inj.1
  rw [UInt8.toNat_ofNat', UInt8.toNat_ofNat']
  omega
theorem u8_eq {a b : Nat} (h : a % 256 = b % 256) : UInt8.ofNat a = UInt8.ofNat b := by
  apply UInt8.toNat_inj.1
  rw [UInt8.toNat_ofNat', UInt8.toNat_ofNat']
  exact h
theorem le4_mod (n : Nat) : le4 (n % 4294967296) = le4 n := by
  unfold le4
  rw [u8_eq (a := n % 4294967296) (b := n) (by omega), u8_eq (a := n % 4294967296 / 256) (b := n / 256) (by omega), u8_eq (a := n % 4294967296 / 65536) (b := n / 65536) (by omega), u8_eq (a := n % 4294967296 / 16777216) (b := n / 16777216) (by omega)]
theorem sort_k (p : Pt) (j : Int) (h : p.k = j) (w : World) : Calls Tryd.prog 24 #[p.val] w fun e w' => e = .returned (.int .i64 j) ∧ Below w.heap.size w w' := by
  subst h
  exact sort_any p w
theorem Pt.k_cases (p : Pt) : p.k = 0 ∨ p.k = 1 ∨ p.k = 2 ∨ p.k = 3 ∨ p.k = 4 := by
  have := p.k_lt
  omega
theorem Pt.len_put (p : Pt) (h : p.b.length < 18446744073709551616) : p.put.length ≤ p.b.length + 10 := by
  unfold Pt.put putP
  have h1 := short_len p.n_lt
  split
  · simp
  · split
    · simp [le4]
    · split
      · omega
      · split
        · rw [List.length_append]
          have := short_len h
          omega
        · omega
set_option maxRecDepth 100000 in
set_option maxHeartbeats 1000000 in
theorem put_0 (b : Nat) (row : Option Nat) (l : List UInt8) (p : Pt) (hk : p.k = 0) (w : World) (h : Wr w b row l) (hp : p.ok w) (hA : 0 < p.b.length → ∀ ad, p.A = some ad → ad.block ≠ b ∧ some ad.block ≠ row) (hlim : l.length + p.b.length + 10 ≤ 140737488355328) :
    Calls Tryd.prog 13 #[.pointer (some ⟨b, 0, none⟩), p.val] w fun e w' => e = .returned (.tuple #[]) ∧ Wrt b row (l ++ p.put) w w' := by
  have hfin : l ++ [UInt8.ofNat ((p.n : Int) % 256).toNat] = l ++ p.put := by
    unfold Pt.put putP
    rw [hk]
    rw [show ((p.n : Int) % 256).toNat = p.n % 256 by omega, u8_mod]; rfl
  have HF := Lib.hid hfin
  have HA := Lib.hid hA
  have HH := Lib.hid h
  have HP := Lib.hid hp
  have hbx := below_new w p.obj
  have hblk : Blk (w.alloc p.obj) w.heap.size 36 #[.int .i64 p.s.toInt, .int .i64 p.m.toInt, .int .u64 (p.x.toNat : Int), .slice p.A p.b.length p.c] := Blk.new _ _ _
  have hn : p.n = p.x.toNat := rfl
  have hx := p.n_lt
  unfold Pt.obj at hbx hblk
  have HS := fun w => Lib.hid (sort_k p 0 hk w)
  rw [← hn] at hbx hblk
  unfold Pt.val at HS ⊢
  rw [← hn] at HS ⊢
  clear hfin hA h hp hk hn
  go_enter Tryd.func13, Tryd.ntmps13
  go_wp2_with fail
  refine (HS _).out.mono ?_
  rintro e w2 ⟨rfl, hb2⟩
  have hB2 := hbx.trans (hb2.mono (by simp))
  have HW2 := Lib.hid (HH.out.below hB2)
  have HB2 : Hid (Bytes w2 p.A p.b) := HP.out.1.below hB2
  have hblk2 := hblk.below hb2 (by simp)
  have x2 := hblk2.cell 2
  have x3 := hblk2.cell 3
  simp only [List.getElem?_toArray, List.getElem?_cons_succ, List.getElem?_cons_zero] at x2 x3
  have HX := Lib.hid hB2
  clear hB2 hblk2 hblk hbx hb2
  go_wp2_with fail
  refine (wu8_any b row l ((p.n : Int) % 256) (by omega) (by omega) _ HW2.out (by omega)).mono ?_
  rintro e w3 ⟨rfl, hw⟩
  rw [HF.out] at hw
  have HW3 := Lib.hid (Wrt.ahead HX.out HH.out.row_lt hw)
  clear hw
  go_wp2_with fail
  go_end0
  exact ⟨rfl, HW3.out⟩
set_option maxRecDepth 100000 in
set_option maxHeartbeats 1000000 in
theorem putnil_0 (p : Pt) (hk : p.k = 0) (w : World) (hp : p.ok w) (_hlim : p.b.length ≤ 140737488355328) :
    Calls Tryd.prog 13 #[.pointer none, p.val] w fun e w' => e = .returned (.tuple #[]) ∧ Below w.heap.size w w' := by
  have HP := Lib.hid hp
  have hbx := below_new w p.obj
  have hblk : Blk (w.alloc p.obj) w.heap.size 36 #[.int .i64 p.s.toInt, .int .i64 p.m.toInt, .int .u64 (p.x.toNat : Int), .slice p.A p.b.length p.c] := Blk.new _ _ _
  have hn : p.n = p.x.toNat := rfl
  have hx := p.n_lt
  unfold Pt.obj at hbx hblk
  have HS := fun w => Lib.hid (sort_k p 0 hk w)
  rw [← hn] at hbx hblk
  unfold Pt.val at HS ⊢
  rw [← hn] at HS ⊢
  clear hp hk hn
  go_enter Tryd.func13, Tryd.ntmps13
  go_wp2_with fail
  refine (HS _).out.mono ?_
  rintro e w2 ⟨rfl, hb2⟩
  have hB2 := hbx.trans (hb2.mono (by simp))
  have HB2 : Hid (Bytes w2 p.A p.b) := HP.out.1.below hB2
  have hblk2 := hblk.below hb2 (by simp)
  have x2 := hblk2.cell 2
  have x3 := hblk2.cell 3
  simp only [List.getElem?_toArray, List.getElem?_cons_succ, List.getElem?_cons_zero] at x2 x3
  have HX := Lib.hid hB2
  clear hB2 hblk2 hblk hbx hb2
  go_wp2_with fail
  refine (wu8_nil _ _).mono ?_
  rintro e w3 ⟨rfl, hb3⟩
  have HX3 := Lib.hid (below_call HX.out HX.out.size hb3)
  clear hb3
  go_wp2_with fail
  go_end0
  exact ⟨rfl, HX3.out⟩
set_option maxRecDepth 100000 in
set_option maxHeartbeats 1000000 in
theorem put_1 (b : Nat) (row : Option Nat) (l : List UInt8) (p : Pt) (hk : p.k = 1) (w : World) (h : Wr w b row l) (hp : p.ok w) (hA : 0 < p.b.length → ∀ ad, p.A = some ad → ad.block ≠ b ∧ some ad.block ≠ row) (hlim : l.length + p.b.length + 10 ≤ 140737488355328) :
    Calls Tryd.prog 13 #[.pointer (some ⟨b, 0, none⟩), p.val] w fun e w' => e = .returned (.tuple #[]) ∧ Wrt b row (l ++ p.put) w w' := by
  have hfin : l ++ le4 ((p.n : Int) % 4294967296).toNat = l ++ p.put := by
    unfold Pt.put putP
    rw [hk]
    rw [show ((p.n : Int) % 4294967296).toNat = p.n % 4294967296 by omega, le4_mod]; rfl
  have HF := Lib.hid hfin
  have HA := Lib.hid hA
  have HH := Lib.hid h
  have HP := Lib.hid hp
  have hbx := below_new w p.obj
  have hblk : Blk (w.alloc p.obj) w.heap.size 36 #[.int .i64 p.s.toInt, .int .i64 p.m.toInt, .int .u64 (p.x.toNat : Int), .slice p.A p.b.length p.c] := Blk.new _ _ _
  have hn : p.n = p.x.toNat := rfl
  have hx := p.n_lt
  unfold Pt.obj at hbx hblk
  have HS := fun w => Lib.hid (sort_k p 1 hk w)
  rw [← hn] at hbx hblk
  unfold Pt.val at HS ⊢
  rw [← hn] at HS ⊢
  clear hfin hA h hp hk hn
  go_enter Tryd.func13, Tryd.ntmps13
  go_wp2_with fail
  refine (HS _).out.mono ?_
  rintro e w2 ⟨rfl, hb2⟩
  have hB2 := hbx.trans (hb2.mono (by simp))
  have HW2 := Lib.hid (HH.out.below hB2)
  have HB2 : Hid (Bytes w2 p.A p.b) := HP.out.1.below hB2
  have hblk2 := hblk.below hb2 (by simp)
  have x2 := hblk2.cell 2
  have x3 := hblk2.cell 3
  simp only [List.getElem?_toArray, List.getElem?_cons_succ, List.getElem?_cons_zero] at x2 x3
  have HX := Lib.hid hB2
  clear hB2 hblk2 hblk hbx hb2
  go_wp2_with fail
  refine (wu32_any b row l ((p.n : Int) % 4294967296) (by omega) (by omega) _ HW2.out (by omega)).mono ?_
  rintro e w3 ⟨rfl, hw⟩
  rw [HF.out] at hw
  have HW3 := Lib.hid (Wrt.ahead HX.out HH.out.row_lt hw)
  clear hw
  go_wp2_with fail
  go_end0
  exact ⟨rfl, HW3.out⟩
set_option maxRecDepth 100000 in
set_option maxHeartbeats 1000000 in
theorem putnil_1 (p : Pt) (hk : p.k = 1) (w : World) (hp : p.ok w) (_hlim : p.b.length ≤ 140737488355328) :
    Calls Tryd.prog 13 #[.pointer none, p.val] w fun e w' => e = .returned (.tuple #[]) ∧ Below w.heap.size w w' := by
  have HP := Lib.hid hp
  have hbx := below_new w p.obj
  have hblk : Blk (w.alloc p.obj) w.heap.size 36 #[.int .i64 p.s.toInt, .int .i64 p.m.toInt, .int .u64 (p.x.toNat : Int), .slice p.A p.b.length p.c] := Blk.new _ _ _
  have hn : p.n = p.x.toNat := rfl
  have hx := p.n_lt
  unfold Pt.obj at hbx hblk
  have HS := fun w => Lib.hid (sort_k p 1 hk w)
  rw [← hn] at hbx hblk
  unfold Pt.val at HS ⊢
  rw [← hn] at HS ⊢
  clear hp hk hn
  go_enter Tryd.func13, Tryd.ntmps13
  go_wp2_with fail
  refine (HS _).out.mono ?_
  rintro e w2 ⟨rfl, hb2⟩
  have hB2 := hbx.trans (hb2.mono (by simp))
  have HB2 : Hid (Bytes w2 p.A p.b) := HP.out.1.below hB2
  have hblk2 := hblk.below hb2 (by simp)
  have x2 := hblk2.cell 2
  have x3 := hblk2.cell 3
  simp only [List.getElem?_toArray, List.getElem?_cons_succ, List.getElem?_cons_zero] at x2 x3
  have HX := Lib.hid hB2
  clear hB2 hblk2 hblk hbx hb2
  go_wp2_with fail
  refine (wu32_nil _ (by omega) (by omega) _).mono ?_
  rintro e w3 ⟨rfl, hb3⟩
  have HX3 := Lib.hid (below_call HX.out HX.out.size hb3)
  clear hb3
  go_wp2_with fail
  go_end0
  exact ⟨rfl, HX3.out⟩
set_option maxRecDepth 100000 in
set_option maxHeartbeats 1000000 in
theorem put_2 (b : Nat) (row : Option Nat) (l : List UInt8) (p : Pt) (hk : p.k = 2) (w : World) (h : Wr w b row l) (hp : p.ok w) (hA : 0 < p.b.length → ∀ ad, p.A = some ad → ad.block ≠ b ∧ some ad.block ≠ row) (hlim : l.length + p.b.length + 10 ≤ 140737488355328) :
    Calls Tryd.prog 13 #[.pointer (some ⟨b, 0, none⟩), p.val] w fun e w' => e = .returned (.tuple #[]) ∧ Wrt b row (l ++ p.put) w w' := by
  have hfin : l ++ short p.n = l ++ p.put := by
    unfold Pt.put putP
    rw [hk]
    rfl
  have HF := Lib.hid hfin
  have HA := Lib.hid hA
  have HH := Lib.hid h
  have HP := Lib.hid hp
  have hbx := below_new w p.obj
  have hblk : Blk (w.alloc p.obj) w.heap.size 36 #[.int .i64 p.s.toInt, .int .i64 p.m.toInt, .int .u64 (p.x.toNat : Int), .slice p.A p.b.length p.c] := Blk.new _ _ _
  have hn : p.n = p.x.toNat := rfl
  have hx := p.n_lt
  unfold Pt.obj at hbx hblk
  have HS := fun w => Lib.hid (sort_k p 2 hk w)
  rw [← hn] at hbx hblk
  unfold Pt.val at HS ⊢
  rw [← hn] at HS ⊢
  clear hfin hA h hp hk hn
  go_enter Tryd.func13, Tryd.ntmps13
  go_wp2_with fail
  refine (HS _).out.mono ?_
  rintro e w2 ⟨rfl, hb2⟩
  have hB2 := hbx.trans (hb2.mono (by simp))
  have HW2 := Lib.hid (HH.out.below hB2)
  have HB2 : Hid (Bytes w2 p.A p.b) := HP.out.1.below hB2
  have hblk2 := hblk.below hb2 (by simp)
  have x2 := hblk2.cell 2
  have x3 := hblk2.cell 3
  simp only [List.getElem?_toArray, List.getElem?_cons_succ, List.getElem?_cons_zero] at x2 x3
  have HX := Lib.hid hB2
  clear hB2 hblk2 hblk hbx hb2
  go_wp2_with fail
  refine (wuint_any b row l p.n p.n_lt _ HW2.out (by omega)).mono ?_
  rintro e w3 ⟨rfl, hw⟩
  rw [HF.out] at hw
  have HW3 := Lib.hid (Wrt.ahead HX.out HH.out.row_lt hw)
  clear hw
  go_wp2_with fail
  go_end0
  exact ⟨rfl, HW3.out⟩
set_option maxRecDepth 100000 in
set_option maxHeartbeats 1000000 in
theorem putnil_2 (p : Pt) (hk : p.k = 2) (w : World) (hp : p.ok w) (_hlim : p.b.length ≤ 140737488355328) :
    Calls Tryd.prog 13 #[.pointer none, p.val] w fun e w' => e = .returned (.tuple #[]) ∧ Below w.heap.size w w' := by
  have HP := Lib.hid hp
  have hbx := below_new w p.obj
  have hblk : Blk (w.alloc p.obj) w.heap.size 36 #[.int .i64 p.s.toInt, .int .i64 p.m.toInt, .int .u64 (p.x.toNat : Int), .slice p.A p.b.length p.c] := Blk.new _ _ _
  have hn : p.n = p.x.toNat := rfl
  have hx := p.n_lt
  unfold Pt.obj at hbx hblk
  have HS := fun w => Lib.hid (sort_k p 2 hk w)
  rw [← hn] at hbx hblk
  unfold Pt.val at HS ⊢
  rw [← hn] at HS ⊢
  clear hp hk hn
  go_enter Tryd.func13, Tryd.ntmps13
  go_wp2_with fail
  refine (HS _).out.mono ?_
  rintro e w2 ⟨rfl, hb2⟩
  have hB2 := hbx.trans (hb2.mono (by simp))
  have HB2 : Hid (Bytes w2 p.A p.b) := HP.out.1.below hB2
  have hblk2 := hblk.below hb2 (by simp)
  have x2 := hblk2.cell 2
  have x3 := hblk2.cell 3
  simp only [List.getElem?_toArray, List.getElem?_cons_succ, List.getElem?_cons_zero] at x2 x3
  have HX := Lib.hid hB2
  clear hB2 hblk2 hblk hbx hb2
  go_wp2_with fail
  refine (wuint_nil p.n p.n_lt _).mono ?_
  rintro e w3 ⟨rfl, hb3⟩
  have HX3 := Lib.hid (below_call HX.out HX.out.size hb3)
  clear hb3
  go_wp2_with fail
  go_end0
  exact ⟨rfl, HX3.out⟩
set_option maxRecDepth 100000 in
set_option maxHeartbeats 1000000 in
theorem put_3 (b : Nat) (row : Option Nat) (l : List UInt8) (p : Pt) (hk : p.k = 3) (w : World) (h : Wr w b row l) (hp : p.ok w) (hA : 0 < p.b.length → ∀ ad, p.A = some ad → ad.block ≠ b ∧ some ad.block ≠ row) (hlim : l.length + p.b.length + 10 ≤ 140737488355328) :
    Calls Tryd.prog 13 #[.pointer (some ⟨b, 0, none⟩), p.val] w fun e w' => e = .returned (.tuple #[]) ∧ Wrt b row (l ++ p.put) w w' := by
  have hfin : l ++ (short p.b.length ++ p.b) = l ++ p.put := by
    unfold Pt.put putP
    rw [hk]
    rfl
  have HF := Lib.hid hfin
  have HA := Lib.hid hA
  have HH := Lib.hid h
  have HP := Lib.hid hp
  have hbx := below_new w p.obj
  have hblk : Blk (w.alloc p.obj) w.heap.size 36 #[.int .i64 p.s.toInt, .int .i64 p.m.toInt, .int .u64 (p.x.toNat : Int), .slice p.A p.b.length p.c] := Blk.new _ _ _
  have hn : p.n = p.x.toNat := rfl
  have hx := p.n_lt
  unfold Pt.obj at hbx hblk
  have HS := fun w => Lib.hid (sort_k p 3 hk w)
  rw [← hn] at hbx hblk
  unfold Pt.val at HS ⊢
  rw [← hn] at HS ⊢
  clear hfin hA h hp hk hn
  go_enter Tryd.func13, Tryd.ntmps13
  go_wp2_with fail
  refine (HS _).out.mono ?_
  rintro e w2 ⟨rfl, hb2⟩
  have hB2 := hbx.trans (hb2.mono (by simp))
  have HW2 := Lib.hid (HH.out.below hB2)
  have HB2 : Hid (Bytes w2 p.A p.b) := HP.out.1.below hB2
  have hblk2 := hblk.below hb2 (by simp)
  have x2 := hblk2.cell 2
  have x3 := hblk2.cell 3
  simp only [List.getElem?_toArray, List.getElem?_cons_succ, List.getElem?_cons_zero] at x2 x3
  have HX := Lib.hid hB2
  clear hB2 hblk2 hblk hbx hb2
  have hcv := conv_str (P := Tryd.prog) (w := w2) (n := p.b.length) (c := p.c) Tryd.underlying27 Tryd.underlying5 Tryd.underlying9 HB2.out rfl
  go_wp2_with fail
  refine (wtext_any b row l p.b _ HW2.out (by omega)).mono ?_
  rintro e w3 ⟨rfl, hw⟩
  rw [HF.out] at hw
  have HW3 := Lib.hid (Wrt.ahead HX.out HH.out.row_lt hw)
  clear hw
  go_wp2_with fail
  go_end0
  exact ⟨rfl, HW3.out⟩
set_option maxRecDepth 100000 in
set_option maxHeartbeats 1000000 in
theorem putnil_3 (p : Pt) (hk : p.k = 3) (w : World) (hp : p.ok w) (hlim : p.b.length ≤ 140737488355328) :
    Calls Tryd.prog 13 #[.pointer none, p.val] w fun e w' => e = .returned (.tuple #[]) ∧ Below w.heap.size w w' := by
  have HP := Lib.hid hp
  have hbx := below_new w p.obj
  have hblk : Blk (w.alloc p.obj) w.heap.size 36 #[.int .i64 p.s.toInt, .int .i64 p.m.toInt, .int .u64 (p.x.toNat : Int), .slice p.A p.b.length p.c] := Blk.new _ _ _
  have hn : p.n = p.x.toNat := rfl
  have hx := p.n_lt
  unfold Pt.obj at hbx hblk
  have HS := fun w => Lib.hid (sort_k p 3 hk w)
  rw [← hn] at hbx hblk
  unfold Pt.val at HS ⊢
  rw [← hn] at HS ⊢
  clear hp hk hn
  go_enter Tryd.func13, Tryd.ntmps13
  go_wp2_with fail
  refine (HS _).out.mono ?_
  rintro e w2 ⟨rfl, hb2⟩
  have hB2 := hbx.trans (hb2.mono (by simp))
  have HB2 : Hid (Bytes w2 p.A p.b) := HP.out.1.below hB2
  have hblk2 := hblk.below hb2 (by simp)
  have x2 := hblk2.cell 2
  have x3 := hblk2.cell 3
  simp only [List.getElem?_toArray, List.getElem?_cons_succ, List.getElem?_cons_zero] at x2 x3
  have HX := Lib.hid hB2
  clear hB2 hblk2 hblk hbx hb2
  have hcv := conv_str (P := Tryd.prog) (w := w2) (n := p.b.length) (c := p.c) Tryd.underlying27 Tryd.underlying5 Tryd.underlying9 HB2.out rfl
  go_wp2_with fail
  refine (wtext_nil p.b (by omega) _).mono ?_
  rintro e w3 ⟨rfl, hb3⟩
  have HX3 := Lib.hid (below_call HX.out HX.out.size hb3)
  clear hb3
  go_wp2_with fail
  go_end0
  exact ⟨rfl, HX3.out⟩
set_option maxRecDepth 100000 in
set_option maxHeartbeats 1000000 in
theorem put_4 (b : Nat) (row : Option Nat) (l : List UInt8) (p : Pt) (hk : p.k = 4) (w : World) (h : Wr w b row l) (hp : p.ok w) (hA : 0 < p.b.length → ∀ ad, p.A = some ad → ad.block ≠ b ∧ some ad.block ≠ row) (hlim : l.length + p.b.length + 10 ≤ 140737488355328) :
    Calls Tryd.prog 13 #[.pointer (some ⟨b, 0, none⟩), p.val] w fun e w' => e = .returned (.tuple #[]) ∧ Wrt b row (l ++ p.put) w w' := by
  have hfin : l ++ p.b = l ++ p.put := by
    unfold Pt.put putP
    rw [hk]
    rfl
  have HF := Lib.hid hfin
  have HA := Lib.hid hA
  have HH := Lib.hid h
  have HP := Lib.hid hp
  have hbx := below_new w p.obj
  have hblk : Blk (w.alloc p.obj) w.heap.size 36 #[.int .i64 p.s.toInt, .int .i64 p.m.toInt, .int .u64 (p.x.toNat : Int), .slice p.A p.b.length p.c] := Blk.new _ _ _
  have hn : p.n = p.x.toNat := rfl
  have hx := p.n_lt
  unfold Pt.obj at hbx hblk
  have HS := fun w => Lib.hid (sort_k p 4 hk w)
  rw [← hn] at hbx hblk
  unfold Pt.val at HS ⊢
  rw [← hn] at HS ⊢
  clear hfin hA h hp hk hn
  go_enter Tryd.func13, Tryd.ntmps13
  go_wp2_with fail
  refine (HS _).out.mono ?_
  rintro e w2 ⟨rfl, hb2⟩
  have hB2 := hbx.trans (hb2.mono (by simp))
  have HW2 := Lib.hid (HH.out.below hB2)
  have HB2 : Hid (Bytes w2 p.A p.b) := HP.out.1.below hB2
  have hblk2 := hblk.below hb2 (by simp)
  have x2 := hblk2.cell 2
  have x3 := hblk2.cell 3
  simp only [List.getElem?_toArray, List.getElem?_cons_succ, List.getElem?_cons_zero] at x2 x3
  have HX := Lib.hid hB2
  clear hB2 hblk2 hblk hbx hb2
  go_wp2_with fail
  refine (wraw_any b row l p.b p.A p.c p.b.length _ HW2.out HB2.out rfl HA.out (by omega)).mono ?_
  rintro e w3 ⟨rfl, hw⟩
  rw [HF.out] at hw
  have HW3 := Lib.hid (Wrt.ahead HX.out HH.out.row_lt hw)
  clear hw
  go_wp2_with fail
  go_end0
  exact ⟨rfl, HW3.out⟩
set_option maxRecDepth 100000 in
set_option maxHeartbeats 1000000 in
theorem putnil_4 (p : Pt) (hk : p.k = 4) (w : World) (hp : p.ok w) (_hlim : p.b.length ≤ 140737488355328) :
    Calls Tryd.prog 13 #[.pointer none, p.val] w fun e w' => e = .returned (.tuple #[]) ∧ Below w.heap.size w w' := by
  have HP := Lib.hid hp
  have hbx := below_new w p.obj
  have hblk : Blk (w.alloc p.obj) w.heap.size 36 #[.int .i64 p.s.toInt, .int .i64 p.m.toInt, .int .u64 (p.x.toNat : Int), .slice p.A p.b.length p.c] := Blk.new _ _ _
  have hn : p.n = p.x.toNat := rfl
  have hx := p.n_lt
  unfold Pt.obj at hbx hblk
  have HS := fun w => Lib.hid (sort_k p 4 hk w)
  rw [← hn] at hbx hblk
  unfold Pt.val at HS ⊢
  rw [← hn] at HS ⊢
  clear hp hk hn
  go_enter Tryd.func13, Tryd.ntmps13
  go_wp2_with fail
  refine (HS _).out.mono ?_
  rintro e w2 ⟨rfl, hb2⟩
  have hB2 := hbx.trans (hb2.mono (by simp))
  have HB2 : Hid (Bytes w2 p.A p.b) := HP.out.1.below hB2
  have hblk2 := hblk.below hb2 (by simp)
  have x2 := hblk2.cell 2
  have x3 := hblk2.cell 3
  simp only [List.getElem?_toArray, List.getElem?_cons_succ, List.getElem?_cons_zero] at x2 x3
  have HX := Lib.hid hB2
  clear hB2 hblk2 hblk hbx hb2
  go_wp2_with fail
  refine (wraw_nil _ _).mono ?_
  rintro e w3 ⟨rfl, rfl⟩
  go_wp2_with fail
  go_end0
  exact ⟨rfl, HX.out⟩
theorem put_any (b : Nat) (row : Option Nat) (l : List UInt8) (p : Pt) (w : World) (h : Wr w b row l) (hp : p.ok w) (hA : 0 < p.b.length → ∀ ad, p.A = some ad → ad.block ≠ b ∧ some ad.block ≠ row) (hlim : l.length + p.b.length + 10 ≤ 140737488355328) :
    Calls Tryd.prog 13 #[.pointer (some ⟨b, 0, none⟩), p.val] w fun e w' => e = .returned (.tuple #[]) ∧ Wrt b row (l ++ p.put) w w' := by
  rcases p.k_cases with hk | hk | hk | hk | hk
  · exact put_0 b row l p hk w h hp hA hlim
  · exact put_1 b row l p hk w h hp hA hlim
  · exact put_2 b row l p hk w h hp hA hlim
  · exact put_3 b row l p hk w h hp hA hlim
  · exact put_4 b row l p hk w h hp hA hlim
theorem putnil_any (p : Pt) (w : World) (hp : p.ok w) (hlim : p.b.length ≤ 140737488355328) :
    Calls Tryd.prog 13 #[.pointer none, p.val] w fun e w' => e = .returned (.tuple #[]) ∧ Below w.heap.size w w' := by
  rcases p.k_cases with hk | hk | hk | hk | hk
  · exact putnil_0 p hk w hp hlim
  · exact putnil_1 p hk w hp hlim
  · exact putnil_2 p hk w hp hlim
  · exact putnil_3 p hk w hp hlim
  · exact putnil_4 p hk w hp hlim
end Go.Proofs.YtcklbhplhpohpaaDoor
