/- The law's get. (Printed by codet.py.) -/
import Derived.Test.YtcklbhplhpohpaaDoorCodeS
namespace Go.Proofs.YtcklbhplhpohpaaDoor
open Go.RowKit

/-- What get answers of a part's sort. -/
def Got (r : Nat) (A : Option Addr) (c : Nat) (l : List UInt8) (q : Nat) (t : Nat × List UInt8 × Nat × Bool) (w : World) (e : Ending) (w' : World) : Prop :=
  e = .returned (.tuple #[.int .u64 (t.1 : Int), .string ⟨t.2.1.toArray⟩]) ∧ Rdd r A c l q t w w'
theorem Rdd.ahead {r : Nat} {A : Option Addr} {c : Nat} {l : List UInt8} {q : Nat} {t : Nat × List UInt8 × Nat × Bool} {w w1 w2 : World} (hb : Below w.heap.size w w1) (h : Rdd r A c l q t w1 w2) : Rdd r A c l q t w w2 :=
  ⟨h.1, only_below hb (Nat.le_refl _) h.2⟩
set_option maxRecDepth 100000 in
set_option maxHeartbeats 1000000 in
theorem get_0 (r : Nat) (A : Option Addr) (c : Nat) (l : List UInt8) (q : Nat) (f : Bool) (p : Pt) (hk : p.k = 0) (w : World) (h : RdB w r A c l q f) (_hl47 : l.length ≤ 140737488355328) :
    Calls Tryd.prog 23 #[.pointer (some ⟨r, 0, none⟩), p.val] w (Got r A c l q (stepP p.k p.m.toInt (l.drop q) f) w) := by
  rw [hk]
  have H := Lib.hid h
  clear h
  have hm1 := i64_lo p.m
  have hm2 := i64_hi p.m
  have hbx := below_new w p.obj
  have hblk : Blk (w.alloc p.obj) w.heap.size 36 #[.int .i64 p.s.toInt, .int .i64 p.m.toInt, .int .u64 (p.x.toNat : Int), .slice p.A p.b.length p.c] := Blk.new _ _ _
  unfold Pt.obj at hbx hblk
  have HS := fun w => Lib.hid (sort_k p 0 hk w)
  unfold Pt.val at HS ⊢
  generalize p.m.toInt = m at hm1 hm2 hbx hblk HS ⊢
  clear hk
  go_enter Tryd.func23, Tryd.ntmps23
  go_wp2_with fail
  refine (HS _).out.mono ?_
  rintro e w2 ⟨rfl, hb2⟩
  have hB2 := hbx.trans (hb2.mono (by simp))
  have hblk2 := hblk.below hb2 (by simp)
  have x1 := hblk2.cell 1
  simp only [List.getElem?_toArray, List.getElem?_cons_succ, List.getElem?_cons_zero] at x1
  have HX := Lib.hid hB2
  clear hB2 hblk2 hblk hbx hb2
  have HC := Lib.hid (u8_any r A c l q f w2 m (H.out.below HX.out))
  have hx := stepP_num (f := f) (xs := l.drop q) 256 (by decide) fun x s j hh => (getP_0 (m := m) hh).1
  have hs := stepP_bytes (f := f) (xs := l.drop q) fun x s j hh => (getP_0 (m := m) hh).2
  generalize ht : stepP 0 m (l.drop q) f = t at HC hx hs
  obtain ⟨x, s, j, g⟩ := t
  have HT := Lib.hid ht
  simp only at hx hs
  subst hs
  clear ht
  go_wp2_with fail
  refine HC.out.mono ?_
  rintro e w3 ⟨rfl, hr⟩
  have HR := Lib.hid (Rdd.ahead HX.out hr)
  clear hr
  go_wp2_with fail
  go_ret2
  rw [HT.out]
  exact ⟨rfl, HR.out⟩
set_option maxRecDepth 100000 in
set_option maxHeartbeats 1000000 in
theorem get_1 (r : Nat) (A : Option Addr) (c : Nat) (l : List UInt8) (q : Nat) (f : Bool) (p : Pt) (hk : p.k = 1) (w : World) (h : RdB w r A c l q f) (_hl47 : l.length ≤ 140737488355328) :
    Calls Tryd.prog 23 #[.pointer (some ⟨r, 0, none⟩), p.val] w (Got r A c l q (stepP p.k p.m.toInt (l.drop q) f) w) := by
  rw [hk]
  have H := Lib.hid h
  clear h
  have hm1 := i64_lo p.m
  have hm2 := i64_hi p.m
  have hbx := below_new w p.obj
  have hblk : Blk (w.alloc p.obj) w.heap.size 36 #[.int .i64 p.s.toInt, .int .i64 p.m.toInt, .int .u64 (p.x.toNat : Int), .slice p.A p.b.length p.c] := Blk.new _ _ _
  unfold Pt.obj at hbx hblk
  have HS := fun w => Lib.hid (sort_k p 1 hk w)
  unfold Pt.val at HS ⊢
  generalize p.m.toInt = m at hm1 hm2 hbx hblk HS ⊢
  clear hk
  go_enter Tryd.func23, Tryd.ntmps23
  go_wp2_with fail
  refine (HS _).out.mono ?_
  rintro e w2 ⟨rfl, hb2⟩
  have hB2 := hbx.trans (hb2.mono (by simp))
  have hblk2 := hblk.below hb2 (by simp)
  have x1 := hblk2.cell 1
  simp only [List.getElem?_toArray, List.getElem?_cons_succ, List.getElem?_cons_zero] at x1
  have HX := Lib.hid hB2
  clear hB2 hblk2 hblk hbx hb2
  have HC := Lib.hid (u32_any r A c l q f w2 m (H.out.below HX.out))
  have hx := stepP_num (f := f) (xs := l.drop q) 4294967296 (by decide) fun x s j hh => (getP_1 (m := m) hh).1
  have hs := stepP_bytes (f := f) (xs := l.drop q) fun x s j hh => (getP_1 (m := m) hh).2
  generalize ht : stepP 1 m (l.drop q) f = t at HC hx hs
  obtain ⟨x, s, j, g⟩ := t
  have HT := Lib.hid ht
  simp only at hx hs
  subst hs
  clear ht
  go_wp2_with fail
  refine HC.out.mono ?_
  rintro e w3 ⟨rfl, hr⟩
  have HR := Lib.hid (Rdd.ahead HX.out hr)
  clear hr
  go_wp2_with fail
  go_ret2
  rw [HT.out]
  exact ⟨rfl, HR.out⟩
set_option maxRecDepth 100000 in
set_option maxHeartbeats 1000000 in
theorem get_2 (r : Nat) (A : Option Addr) (c : Nat) (l : List UInt8) (q : Nat) (f : Bool) (p : Pt) (hk : p.k = 2) (w : World) (h : RdB w r A c l q f) (_hl47 : l.length ≤ 140737488355328) :
    Calls Tryd.prog 23 #[.pointer (some ⟨r, 0, none⟩), p.val] w (Got r A c l q (stepP p.k p.m.toInt (l.drop q) f) w) := by
  rw [hk]
  have H := Lib.hid h
  clear h
  have hm1 := i64_lo p.m
  have hm2 := i64_hi p.m
  have hbx := below_new w p.obj
  have hblk : Blk (w.alloc p.obj) w.heap.size 36 #[.int .i64 p.s.toInt, .int .i64 p.m.toInt, .int .u64 (p.x.toNat : Int), .slice p.A p.b.length p.c] := Blk.new _ _ _
  unfold Pt.obj at hbx hblk
  have HS := fun w => Lib.hid (sort_k p 2 hk w)
  unfold Pt.val at HS ⊢
  generalize p.m.toInt = m at hm1 hm2 hbx hblk HS ⊢
  clear hk
  go_enter Tryd.func23, Tryd.ntmps23
  go_wp2_with fail
  refine (HS _).out.mono ?_
  rintro e w2 ⟨rfl, hb2⟩
  have hB2 := hbx.trans (hb2.mono (by simp))
  have hblk2 := hblk.below hb2 (by simp)
  have x1 := hblk2.cell 1
  simp only [List.getElem?_toArray, List.getElem?_cons_succ, List.getElem?_cons_zero] at x1
  have HX := Lib.hid hB2
  clear hB2 hblk2 hblk hbx hb2
  have HC := Lib.hid (uint_any r A c l q f w2 m (H.out.below HX.out))
  have hx : True := trivial
  have hs := stepP_bytes (f := f) (xs := l.drop q) fun x s j hh => getP_2 (m := m) hh
  generalize ht : stepP 2 m (l.drop q) f = t at HC hx hs
  obtain ⟨x, s, j, g⟩ := t
  have HT := Lib.hid ht
  simp only at hx hs
  subst hs
  clear ht
  go_wp2_with fail
  refine HC.out.mono ?_
  rintro e w3 ⟨rfl, hr⟩
  have HR := Lib.hid (Rdd.ahead HX.out hr)
  clear hr
  go_wp2_with fail
  go_ret2
  rw [HT.out]
  exact ⟨rfl, HR.out⟩
set_option maxRecDepth 100000 in
set_option maxHeartbeats 1000000 in
theorem get_3 (r : Nat) (A : Option Addr) (c : Nat) (l : List UInt8) (q : Nat) (f : Bool) (p : Pt) (hk : p.k = 3) (w : World) (h : RdB w r A c l q f) (_hl47 : l.length ≤ 140737488355328) :
    Calls Tryd.prog 23 #[.pointer (some ⟨r, 0, none⟩), p.val] w (Got r A c l q (stepP p.k p.m.toInt (l.drop q) f) w) := by
  rw [hk]
  have H := Lib.hid h
  clear h
  have hm1 := i64_lo p.m
  have hm2 := i64_hi p.m
  have hbx := below_new w p.obj
  have hblk : Blk (w.alloc p.obj) w.heap.size 36 #[.int .i64 p.s.toInt, .int .i64 p.m.toInt, .int .u64 (p.x.toNat : Int), .slice p.A p.b.length p.c] := Blk.new _ _ _
  unfold Pt.obj at hbx hblk
  have HS := fun w => Lib.hid (sort_k p 3 hk w)
  unfold Pt.val at HS ⊢
  generalize p.m.toInt = m at hm1 hm2 hbx hblk HS ⊢
  clear hk
  go_enter Tryd.func23, Tryd.ntmps23
  go_wp2_with fail
  refine (HS _).out.mono ?_
  rintro e w2 ⟨rfl, hb2⟩
  have hB2 := hbx.trans (hb2.mono (by simp))
  have hblk2 := hblk.below hb2 (by simp)
  have x1 := hblk2.cell 1
  simp only [List.getElem?_toArray, List.getElem?_cons_succ, List.getElem?_cons_zero] at x1
  have HX := Lib.hid hB2
  clear hB2 hblk2 hblk hbx hb2
  have HC := Lib.hid (text_any r A c l q f w2 m hm1 hm2 (H.out.below HX.out))
  have hx : (stepP 3 m (l.drop q) f).1 = 0 := by
    have := stepP_num (k := 3) (m := m) (xs := l.drop q) (f := f) 1 (by decide) fun x s j hh => by have := getP_34 (m := m) ⟨by decide, by decide, by decide⟩ hh; omega
    omega
  generalize ht : stepP 3 m (l.drop q) f = t at HC hx
  obtain ⟨x, s, j, g⟩ := t
  have HT := Lib.hid ht
  simp only at hx
  subst hx
  clear ht
  go_wp2_with fail
  refine HC.out.mono ?_
  rintro e w3 ⟨rfl, hr⟩
  have HR := Lib.hid (Rdd.ahead HX.out hr)
  clear hr
  go_wp2_with fail
  go_ret2
  rw [HT.out]
  exact ⟨rfl, HR.out⟩
set_option maxRecDepth 100000 in
set_option maxHeartbeats 1000000 in
theorem get_4 (r : Nat) (A : Option Addr) (c : Nat) (l : List UInt8) (q : Nat) (f : Bool) (p : Pt) (hk : p.k = 4) (w : World) (h : RdB w r A c l q f) (hl47 : l.length ≤ 140737488355328) :
    Calls Tryd.prog 23 #[.pointer (some ⟨r, 0, none⟩), p.val] w (Got r A c l q (stepP p.k p.m.toInt (l.drop q) f) w) := by
  rw [hk]
  have H := Lib.hid h
  clear h
  have hm1 := i64_lo p.m
  have hm2 := i64_hi p.m
  have hbx := below_new w p.obj
  have hblk : Blk (w.alloc p.obj) w.heap.size 36 #[.int .i64 p.s.toInt, .int .i64 p.m.toInt, .int .u64 (p.x.toNat : Int), .slice p.A p.b.length p.c] := Blk.new _ _ _
  unfold Pt.obj at hbx hblk
  have HS := fun w => Lib.hid (sort_k p 4 hk w)
  unfold Pt.val at HS ⊢
  generalize p.m.toInt = m at hm1 hm2 hbx hblk HS ⊢
  clear hk
  go_enter Tryd.func23, Tryd.ntmps23
  go_wp2_with fail
  refine (HS _).out.mono ?_
  rintro e w2 ⟨rfl, hb2⟩
  have hB2 := hbx.trans (hb2.mono (by simp))
  have hblk2 := hblk.below hb2 (by simp)
  have x1 := hblk2.cell 1
  simp only [List.getElem?_toArray, List.getElem?_cons_succ, List.getElem?_cons_zero] at x1
  have HX := Lib.hid hB2
  clear hB2 hblk2 hblk hbx hb2
  have HC := Lib.hid (raw_any r A c l q f w2 m hl47 (H.out.below HX.out))
  have hx : (stepP 4 m (l.drop q) f).1 = 0 := by
    have := stepP_num (k := 4) (m := m) (xs := l.drop q) (f := f) 1 (by decide) fun x s j hh => by have := getP_34 (m := m) ⟨by decide, by decide, by decide⟩ hh; omega
    omega
  generalize ht : stepP 4 m (l.drop q) f = t at HC hx
  obtain ⟨x, s, j, g⟩ := t
  have HT := Lib.hid ht
  simp only at hx
  subst hx
  clear ht
  go_wp2_with fail
  refine PF.pf_begin (by kernel_rfl) ?_
  refine PF.pf_take0 0 (by kernel_rfl) rfl (fun _ _ _ _ _ h => h) (by kernel_rfl) (fun u => by go_simp; try rfl) ?_
  try simp only [Act.put, List.setIfInBounds_toArray, List.set_cons_zero, List.set_cons_succ]
  refine PF.pf_take0 1 (by kernel_rfl) rfl (fun _ _ _ _ _ h => h) (by kernel_rfl) (fun u => by go_simp; try rfl) ?_
  try simp only [Act.put, List.setIfInBounds_toArray, List.set_cons_zero, List.set_cons_succ]
  refine PF.pf_take1 2 (PF.Same (w.heap.size) _) (by kernel_rfl) rfl (fun _ _ _ _ _ h => h) (by kernel_rfl) (PF.Same.refl _ _) (fun u hu => by have hcu := hu.cell; go_simp; try rfl) ?_
  try simp only [Act.put, List.setIfInBounds_toArray, List.set_cons_zero, List.set_cons_succ]
  refine PF.pf_exec 3 (by kernel_rfl) rfl (by kernel_rfl) (fun K hK => ?_)
  go_simp
  have HC2 : Calls Tryd.prog 38 #[.pointer (some ⟨r, 0, none⟩), .int .i64 m] w2.drew _ := (raw_any r A c l q f w2.drew m hl47 (H.out.below (HX.out.drew)))
  rw [HT.out] at HC2
  refine HC2.mono ?_
  rintro e w3 ⟨⟨A3, c3, rfl, hB3⟩, hr⟩
  have HB3 := Lib.hid hB3
  have HR := Lib.hid (Rdd.ahead HX.out.drew hr)
  clear hr hB3 HC2 HC
  have hcv := conv_str (P := Tryd.prog) (w := w3) (n := s.length) (c := c3) Tryd.underlying27 Tryd.underlying5 Tryd.underlying9 HB3.out rfl
  refine hK _ _ (by repeat (first | exact PF.owes_nil | refine PF.owes_left ?_ | refine PF.owes_no (by decide +kernel) ?_ | refine PF.owes_yes (by first | rfl | assumption | go_simp) ?_)) ?_
  clear hK K
  refine PF.pf_take1 4 (fun u => (convert 27 9 (.slice A3 s.length c3)).run Tryd.prog u = .ok (.string ⟨s.toArray⟩) u) (by kernel_rfl) rfl (fun _ _ _ _ _ h => h) (by kernel_rfl) (hcv) (fun u hu => by (go_simp; rfl)) ?_
  try simp only [Act.put, List.setIfInBounds_toArray, List.set_cons_zero, List.set_cons_succ]
  refine PF.pf_take0 5 (by kernel_rfl) rfl (fun _ _ _ _ _ h => h) (by kernel_rfl) (fun u => by go_simp; try rfl) ?_
  try simp only [Act.put, List.setIfInBounds_toArray, List.set_cons_zero, List.set_cons_succ]
  refine PF.pf_take0 6 (by kernel_rfl) rfl (fun _ _ _ _ _ h => h) (by kernel_rfl) (fun u => by go_simp; try rfl) ?_
  try simp only [Act.put, List.setIfInBounds_toArray, List.set_cons_zero, List.set_cons_succ]
  refine PF.pf_done (by kernel_rfl) ?_
  go_wp2_with fail
  go_ret2
  rw [HT.out]
  exact ⟨rfl, HR.out⟩
set_option maxRecDepth 100000 in
set_option maxHeartbeats 1000000 in
theorem getnil_0 (p : Pt) (hk : p.k = 0) (w : World) :
    Calls Tryd.prog 23 #[.pointer none, p.val] w fun e w' => e = .returned (.tuple #[.int .u64 0, .string ⟨#[]⟩]) ∧ Below w.heap.size w w' := by
  have hm1 := i64_lo p.m
  have hm2 := i64_hi p.m
  have hbx := below_new w p.obj
  have hblk : Blk (w.alloc p.obj) w.heap.size 36 #[.int .i64 p.s.toInt, .int .i64 p.m.toInt, .int .u64 (p.x.toNat : Int), .slice p.A p.b.length p.c] := Blk.new _ _ _
  unfold Pt.obj at hbx hblk
  have HS := fun w => Lib.hid (sort_k p 0 hk w)
  unfold Pt.val at HS ⊢
  generalize p.m.toInt = m at hm1 hm2 hbx hblk HS ⊢
  clear hk
  go_enter Tryd.func23, Tryd.ntmps23
  go_wp2_with fail
  refine (HS _).out.mono ?_
  rintro e w2 ⟨rfl, hb2⟩
  have hB2 := hbx.trans (hb2.mono (by simp))
  have hblk2 := hblk.below hb2 (by simp)
  have x1 := hblk2.cell 1
  simp only [List.getElem?_toArray, List.getElem?_cons_succ, List.getElem?_cons_zero] at x1
  have HX := Lib.hid hB2
  clear hB2 hblk2 hblk hbx hb2
  go_wp2_with fail
  refine (u8_nil _).mono ?_
  rintro e w3 ⟨rfl, hb3⟩
  have HX3 := Lib.hid (below_call HX.out HX.out.size hb3)
  clear hb3
  go_wp2_with fail
  go_ret2
  exact ⟨rfl, HX3.out⟩
set_option maxRecDepth 100000 in
set_option maxHeartbeats 1000000 in
theorem getnil_1 (p : Pt) (hk : p.k = 1) (w : World) :
    Calls Tryd.prog 23 #[.pointer none, p.val] w fun e w' => e = .returned (.tuple #[.int .u64 0, .string ⟨#[]⟩]) ∧ Below w.heap.size w w' := by
  have hm1 := i64_lo p.m
  have hm2 := i64_hi p.m
  have hbx := below_new w p.obj
  have hblk : Blk (w.alloc p.obj) w.heap.size 36 #[.int .i64 p.s.toInt, .int .i64 p.m.toInt, .int .u64 (p.x.toNat : Int), .slice p.A p.b.length p.c] := Blk.new _ _ _
  unfold Pt.obj at hbx hblk
  have HS := fun w => Lib.hid (sort_k p 1 hk w)
  unfold Pt.val at HS ⊢
  generalize p.m.toInt = m at hm1 hm2 hbx hblk HS ⊢
  clear hk
  go_enter Tryd.func23, Tryd.ntmps23
  go_wp2_with fail
  refine (HS _).out.mono ?_
  rintro e w2 ⟨rfl, hb2⟩
  have hB2 := hbx.trans (hb2.mono (by simp))
  have hblk2 := hblk.below hb2 (by simp)
  have x1 := hblk2.cell 1
  simp only [List.getElem?_toArray, List.getElem?_cons_succ, List.getElem?_cons_zero] at x1
  have HX := Lib.hid hB2
  clear hB2 hblk2 hblk hbx hb2
  go_wp2_with fail
  refine (u32_nil _).mono ?_
  rintro e w3 ⟨rfl, hb3⟩
  have HX3 := Lib.hid (below_call HX.out HX.out.size hb3)
  clear hb3
  go_wp2_with fail
  go_ret2
  exact ⟨rfl, HX3.out⟩
set_option maxRecDepth 100000 in
set_option maxHeartbeats 1000000 in
theorem getnil_2 (p : Pt) (hk : p.k = 2) (w : World) :
    Calls Tryd.prog 23 #[.pointer none, p.val] w fun e w' => e = .returned (.tuple #[.int .u64 0, .string ⟨#[]⟩]) ∧ Below w.heap.size w w' := by
  have hm1 := i64_lo p.m
  have hm2 := i64_hi p.m
  have hbx := below_new w p.obj
  have hblk : Blk (w.alloc p.obj) w.heap.size 36 #[.int .i64 p.s.toInt, .int .i64 p.m.toInt, .int .u64 (p.x.toNat : Int), .slice p.A p.b.length p.c] := Blk.new _ _ _
  unfold Pt.obj at hbx hblk
  have HS := fun w => Lib.hid (sort_k p 2 hk w)
  unfold Pt.val at HS ⊢
  generalize p.m.toInt = m at hm1 hm2 hbx hblk HS ⊢
  clear hk
  go_enter Tryd.func23, Tryd.ntmps23
  go_wp2_with fail
  refine (HS _).out.mono ?_
  rintro e w2 ⟨rfl, hb2⟩
  have hB2 := hbx.trans (hb2.mono (by simp))
  have hblk2 := hblk.below hb2 (by simp)
  have x1 := hblk2.cell 1
  simp only [List.getElem?_toArray, List.getElem?_cons_succ, List.getElem?_cons_zero] at x1
  have HX := Lib.hid hB2
  clear hB2 hblk2 hblk hbx hb2
  go_wp2_with fail
  refine (uint_nil _).mono ?_
  rintro e w3 ⟨rfl, hb3⟩
  have HX3 := Lib.hid (below_call HX.out HX.out.size hb3)
  clear hb3
  go_wp2_with fail
  go_ret2
  exact ⟨rfl, HX3.out⟩
set_option maxRecDepth 100000 in
set_option maxHeartbeats 1000000 in
theorem getnil_3 (p : Pt) (hk : p.k = 3) (w : World) :
    Calls Tryd.prog 23 #[.pointer none, p.val] w fun e w' => e = .returned (.tuple #[.int .u64 0, .string ⟨#[]⟩]) ∧ Below w.heap.size w w' := by
  have hm1 := i64_lo p.m
  have hm2 := i64_hi p.m
  have hbx := below_new w p.obj
  have hblk : Blk (w.alloc p.obj) w.heap.size 36 #[.int .i64 p.s.toInt, .int .i64 p.m.toInt, .int .u64 (p.x.toNat : Int), .slice p.A p.b.length p.c] := Blk.new _ _ _
  unfold Pt.obj at hbx hblk
  have HS := fun w => Lib.hid (sort_k p 3 hk w)
  unfold Pt.val at HS ⊢
  generalize p.m.toInt = m at hm1 hm2 hbx hblk HS ⊢
  clear hk
  go_enter Tryd.func23, Tryd.ntmps23
  go_wp2_with fail
  refine (HS _).out.mono ?_
  rintro e w2 ⟨rfl, hb2⟩
  have hB2 := hbx.trans (hb2.mono (by simp))
  have hblk2 := hblk.below hb2 (by simp)
  have x1 := hblk2.cell 1
  simp only [List.getElem?_toArray, List.getElem?_cons_succ, List.getElem?_cons_zero] at x1
  have HX := Lib.hid hB2
  clear hB2 hblk2 hblk hbx hb2
  go_wp2_with fail
  refine (text_nil m _).mono ?_
  rintro e w3 ⟨rfl, hb3⟩
  have HX3 := Lib.hid (below_call HX.out HX.out.size hb3)
  clear hb3
  go_wp2_with fail
  go_ret2
  exact ⟨rfl, HX3.out⟩
set_option maxRecDepth 100000 in
set_option maxHeartbeats 1000000 in
theorem getnil_4 (p : Pt) (hk : p.k = 4) (w : World) :
    Calls Tryd.prog 23 #[.pointer none, p.val] w fun e w' => e = .returned (.tuple #[.int .u64 0, .string ⟨#[]⟩]) ∧ Below w.heap.size w w' := by
  have hm1 := i64_lo p.m
  have hm2 := i64_hi p.m
  have hbx := below_new w p.obj
  have hblk : Blk (w.alloc p.obj) w.heap.size 36 #[.int .i64 p.s.toInt, .int .i64 p.m.toInt, .int .u64 (p.x.toNat : Int), .slice p.A p.b.length p.c] := Blk.new _ _ _
  unfold Pt.obj at hbx hblk
  have HS := fun w => Lib.hid (sort_k p 4 hk w)
  unfold Pt.val at HS ⊢
  generalize p.m.toInt = m at hm1 hm2 hbx hblk HS ⊢
  clear hk
  go_enter Tryd.func23, Tryd.ntmps23
  go_wp2_with fail
  refine (HS _).out.mono ?_
  rintro e w2 ⟨rfl, hb2⟩
  have hB2 := hbx.trans (hb2.mono (by simp))
  have hblk2 := hblk.below hb2 (by simp)
  have x1 := hblk2.cell 1
  simp only [List.getElem?_toArray, List.getElem?_cons_succ, List.getElem?_cons_zero] at x1
  have HX := Lib.hid hB2
  clear hB2 hblk2 hblk hbx hb2
  go_wp2_with fail
  refine PF.pf_begin (by kernel_rfl) ?_
  refine PF.pf_take0 0 (by kernel_rfl) rfl (fun _ _ _ _ _ h => h) (by kernel_rfl) (fun u => by go_simp; try rfl) ?_
  try simp only [Act.put, List.setIfInBounds_toArray, List.set_cons_zero, List.set_cons_succ]
  refine PF.pf_take0 1 (by kernel_rfl) rfl (fun _ _ _ _ _ h => h) (by kernel_rfl) (fun u => by go_simp; try rfl) ?_
  try simp only [Act.put, List.setIfInBounds_toArray, List.set_cons_zero, List.set_cons_succ]
  refine PF.pf_take1 2 (PF.Same (w.heap.size) _) (by kernel_rfl) rfl (fun _ _ _ _ _ h => h) (by kernel_rfl) (PF.Same.refl _ _) (fun u hu => by have hcu := hu.cell; go_simp; try rfl) ?_
  try simp only [Act.put, List.setIfInBounds_toArray, List.set_cons_zero, List.set_cons_succ]
  refine PF.pf_exec 3 (by kernel_rfl) rfl (by kernel_rfl) (fun K hK => ?_)
  go_simp
  refine (raw_nil m _).mono ?_
  rintro e w3 ⟨rfl, hb3⟩
  have HX3 := Lib.hid (below_call HX.out.drew (by have := HX.out.size; simpa using this) hb3)
  clear hb3
  have hcv := conv_str (P := Tryd.prog) (w := w3) (A := none) (l := []) (n := 0) (c := 0) Tryd.underlying27 Tryd.underlying5 Tryd.underlying9 (Bytes.nil_ _ _) rfl
  refine hK _ _ (by repeat (first | exact PF.owes_nil | refine PF.owes_left ?_ | refine PF.owes_no (by decide +kernel) ?_ | refine PF.owes_yes (by first | rfl | assumption | go_simp) ?_)) ?_
  clear hK K
  refine PF.pf_take1 4 (fun u => (convert 27 9 (.slice none 0 0)).run Tryd.prog u = .ok (.string ⟨#[]⟩) u) (by kernel_rfl) rfl (fun _ _ _ _ _ h => h) (by kernel_rfl) (hcv) (fun u hu => by (go_simp; rfl)) ?_
  try simp only [Act.put, List.setIfInBounds_toArray, List.set_cons_zero, List.set_cons_succ]
  refine PF.pf_take0 5 (by kernel_rfl) rfl (fun _ _ _ _ _ h => h) (by kernel_rfl) (fun u => by go_simp; try rfl) ?_
  try simp only [Act.put, List.setIfInBounds_toArray, List.set_cons_zero, List.set_cons_succ]
  refine PF.pf_take0 6 (by kernel_rfl) rfl (fun _ _ _ _ _ h => h) (by kernel_rfl) (fun u => by go_simp; try rfl) ?_
  try simp only [Act.put, List.setIfInBounds_toArray, List.set_cons_zero, List.set_cons_succ]
  refine PF.pf_done (by kernel_rfl) ?_
  go_wp2_with fail
  go_ret2
  exact ⟨rfl, HX3.out⟩
theorem get_any (r : Nat) (A : Option Addr) (c : Nat) (l : List UInt8) (q : Nat) (f : Bool) (p : Pt) (w : World) (h : RdB w r A c l q f) (hl47 : l.length ≤ 140737488355328) :
    Calls Tryd.prog 23 #[.pointer (some ⟨r, 0, none⟩), p.val] w (Got r A c l q (stepP p.k p.m.toInt (l.drop q) f) w) := by
  rcases p.k_cases with hk | hk | hk | hk | hk
  · exact get_0 r A c l q f p hk w h hl47
  · exact get_1 r A c l q f p hk w h hl47
  · exact get_2 r A c l q f p hk w h hl47
  · exact get_3 r A c l q f p hk w h hl47
  · exact get_4 r A c l q f p hk w h hl47
theorem getnil_any (p : Pt) (w : World) :
    Calls Tryd.prog 23 #[.pointer none, p.val] w fun e w' => e = .returned (.tuple #[.int .u64 0, .string ⟨#[]⟩]) ∧ Below w.heap.size w w' := by
  rcases p.k_cases with hk | hk | hk | hk | hk
  · exact getnil_0 p hk w
  · exact getnil_1 p hk w
  · exact getnil_2 p hk w
  · exact getnil_3 p hk w
  · exact getnil_4 p hk w
end Go.Proofs.YtcklbhplhpohpaaDoor
