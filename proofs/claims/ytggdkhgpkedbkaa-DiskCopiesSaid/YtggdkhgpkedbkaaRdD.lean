/- The document's disk: its changes; Done. -/
import Derived.Test.YtggdkhgpkedbkaaRdC
namespace Go.Proofs.Ytggdkhgpkedbkaa
open Go.RowKit

/-- A change as the document keeps it. -/
structure Rc where
  k : Int
  n : Nm
  t : Nm
  s : Sl
  l : List UInt8
def Rc.val (c : Rc) : Value := .agg #[.int .i64 c.k, .string ⟨c.n.toArray⟩, .string ⟨c.t.toArray⟩, sv c.s]
def Rc.cells (c : Rc) : List Value := [.int .i64 c.k, .string ⟨c.n.toArray⟩, .string ⟨c.t.toArray⟩, sv c.s]
/-- Files with it done, as the document does it. -/
def Rc.done (c : Rc) (F : Files) : Files :=
  if c.k = 0 then fput c.n ((fget c.n F).getD [] ++ c.l) F
  else if c.k = 1 then fput c.n c.l F
  else if c.k = 2 then fput c.t ((fget c.n F).getD []) (fdel c.n F)
  else fdel c.n F
def DonePost (w : World) (R : Nat → Prop) (F : Files) (e : Ending) (w' : World) : Prop := ∃ E, fil E = F ∧ RowPost w R E e w'
theorem DonePost.behind {w W : World} {R : Nat → Prop} {F : Files} {e : Ending} {w' : World} (hb : Below w.heap.size w W) (h : DonePost W (fun b => R b ∨ From w.heap.size W b) F e w') : DonePost w R F e w' := by
  obtain ⟨E, hE, ⟨A, c, he, hf⟩, hb'⟩ := h
  refine ⟨E, hE, ⟨A, c, he, hf.mono fun b h => ?_⟩, hb.trans (hb'.mono hb.size)⟩
  rcases h with (h | h) | h
  · exact .inl h
  · exact .inr ⟨h.1, Nat.lt_of_lt_of_le h.2 hb'.size⟩
  · exact .inr ⟨Nat.le_trans hb.size h.1, h.2⟩
theorem BytesIn.undrew {w : World} {V : Nat → Prop} {s : Sl} {l : List UInt8} (h : BytesIn w.drew V s l) : BytesIn w V s l := ⟨h.len, h.room, h.cap, h.bytes, h.block⟩
theorem BytesIn.of_own' {w : World} {base n : Nat} {A : Option Addr} {c : Nat} {l : List UInt8} {V : Nat → Prop} (hn : n = l.length) (h : w.ownsRow base 5 1 (.slice A n c) n (l.map bv)) (hV : ∀ b, base ≤ b → b < w.heap.size → V b) : BytesIn w V (A, n, c) l := by
  subst hn
  exact BytesIn.of_own h hV
set_option maxRecDepth 100000 in
set_option maxHeartbeats 8000000 in
theorem done_any {w : World} {R : Nat → Prop} {A : Option Addr} {E : List (Nm × Sb)} (c : Nat) (h : FRow w R A E) (hn : E.length ≤ 1000000) (x : Rc) {V : Nat → Prop} (hx : BytesIn w V x.s x.l) (hxl : x.l.length ≤ 1000000) (hg : ((fget x.n (fil E)).getD []).length ≤ 1000000) :
    Calls Try.prog 67 #[.slice A E.length c, x.val] w (DonePost w R (x.done (fil E))) := by
  have hbx := below_new w (.cells x.cells.toArray 84)
  have kb := Blk.new w 84 x.cells.toArray
  obtain ⟨S, hS⟩ : ∃ S : Nat → Prop, S = fun b => R b ∨ From w.heap.size (w.alloc (.cells x.cells.toArray 84)) b := ⟨_, rfl⟩
  have hW : FRow (w.alloc (.cells x.cells.toArray 84)) S A E := (h.below hbx).mono fun b hb => by rw [hS]; exact .inl hb
  have hxW : BytesIn (w.alloc (.cells x.cells.toArray 84)) V x.s x.l := hx.below_ hbx
  have HFIN : Hid (∀ e w', DonePost (w.alloc (.cells x.cells.toArray 84)) S (x.done (fil E)) e w' → DonePost w R (x.done (fil E)) e w') := fun e w' hh => DonePost.behind hbx (by rw [← hS]; exact hh)
  have HZ : Hid (w.heap.size < (w.alloc (.cells x.cells.toArray 84)).heap.size) := by show _ < _; simp
  obtain ⟨xk, xn, xt, ⟨xA, xm, xc⟩, xl⟩ := x
  obtain rfl : xm = xl.length := hx.len
  clear hx h hS
  unfold Rc.val Rc.cells sv at *
  simp only at *
  go_enter Try.func67, Try.ntmps67
  have q0 := kb.cell 0
  have q1 := kb.cell 1
  have q2 := kb.cell 2
  have q3 := kb.cell 3
  simp only [List.getElem?_toArray, List.getElem?_cons_zero, List.getElem?_cons_succ] at q0 q1 q2 q3
  have HWB : Hid (Below w.heap.size w (w.alloc (.cells #[.int .i64 xk, .string ⟨xn.toArray⟩, .string ⟨xt.toArray⟩, .slice xA xl.length xc] 84))) := hbx
  clear hbx
  obtain ⟨W, hWW⟩ : ∃ W, W = w.alloc (.cells #[.int .i64 xk, .string ⟨xn.toArray⟩, .string ⟨xt.toArray⟩, .slice xA xl.length xc] 84) := ⟨_, rfl⟩
  have hbd : Below W.heap.size W W.drew := (Below.refl _ W).drew
  have hba : Below W.heap.size W (W.alloc (.cells #[] 5)).drew := (below_new W _).drew
  have hown0 : (W.alloc (.cells #[] 5)).drew.ownsRow W.heap.size 5 1 (.slice (some ⟨W.heap.size, 0, none⟩) 0 0) 0 [] := World.ownsRow_made _ _ _ (Nat.le_refl _) (by simp [maxLen]) rfl
  rw [← hWW] at hW hxW HFIN HZ HWB kb
  by_cases e0 : xk = 0
  · subst e0
    have HF : Hid (∀ s, (⟨0, xn, xt, (xA, xl.length, xc), xl⟩ : Rc).done (fil E) = fil (fput xn (s, (fget xn (fil E)).getD [] ++ xl) E)) := fun s => by
      rw [fil_put]
      rfl
    have hbyd := bytesof_any c (hW.below hbd) (by omega) xn
    have hbya := bytesof_any c (hW.below hba) (by omega) xn
    generalize (fget xn (fil E)).getD [] = lb at *
    have r0 := (Blk.below kb hbd kb.lt).cell 0
    have r1 := (Blk.below kb hbd kb.lt).cell 1
    have r2 := (Blk.below kb hbd kb.lt).cell 2
    have r3 := (Blk.below kb hbd kb.lt).cell 3
    simp only [List.getElem?_toArray, List.getElem?_cons_zero, List.getElem?_cons_succ] at r0 r1 r2 r3
    have HWW := Lib.hid hWW
    clear hWW
    go_wp2_with fail
    rw [← HWW.out] at q0 q1 q2 q3 ⊢
    have hWW := HWW.out
    clear hWW HWW
    refine PF.pf_begin (by kernel_rfl) ?_
    refine PF.pf_take0 0 (by kernel_rfl) rfl (fun _ _ _ _ _ h => h) (by kernel_rfl) (fun u => by go_simp; try rfl) ?_
    try simp only [Act.put, List.setIfInBounds_toArray, List.set_cons_zero, List.set_cons_succ]
    refine PF.pf_take0 1 (by kernel_rfl) rfl (fun _ _ _ _ _ h => h) (by kernel_rfl) (fun u => by go_simp; try rfl) ?_
    try simp only [Act.put, List.setIfInBounds_toArray, List.set_cons_zero, List.set_cons_succ]
    refine PF.pf_take1 2 (PF.Same (w.heap.size) _) (by kernel_rfl) rfl (fun _ _ _ _ _ h => h) (by kernel_rfl) (PF.Same.refl _ _) (fun u hu => by have hcu := hu.cell; go_simp; try rfl) ?_
    try simp only [Act.put, List.setIfInBounds_toArray, List.set_cons_zero, List.set_cons_succ]
    refine PF.pf_take0 4 (by kernel_rfl) rfl (fun _ _ _ _ _ h => h) (by kernel_rfl) (fun u => by go_simp; try rfl) ?_
    try simp only [Act.put, List.setIfInBounds_toArray, List.set_cons_zero, List.set_cons_succ]
    refine PF.pf_take0 5 (by kernel_rfl) rfl (fun _ _ _ _ _ h => h) (by kernel_rfl) (fun u => by go_simp; try rfl) ?_
    try simp only [Act.put, List.setIfInBounds_toArray, List.set_cons_zero, List.set_cons_succ]
    refine PF.pf_take1 6 (PF.Same (w.heap.size) _) (by kernel_rfl) rfl (fun _ _ _ _ _ h => h) (by kernel_rfl) (PF.Same.refl _ _) (fun u hu => by have hcu := hu.cell; go_simp; try rfl) ?_
    try simp only [Act.put, List.setIfInBounds_toArray, List.set_cons_zero, List.set_cons_succ]
    refine PF.pf_take0 9 (by kernel_rfl) rfl (fun _ _ _ _ _ h => h) (by kernel_rfl) (fun u => by go_simp; try rfl) ?_
    try simp only [Act.put, List.setIfInBounds_toArray, List.set_cons_zero, List.set_cons_succ]
    refine PF.pf_take1 10 (PF.Same (w.heap.size) _) (by kernel_rfl) rfl (fun _ _ _ _ _ h => h) (by kernel_rfl) (PF.Same.refl _ _) (fun u hu => by have hcu := hu.cell; go_simp; try rfl) ?_
    try simp only [Act.put, List.setIfInBounds_toArray, List.set_cons_zero, List.set_cons_succ]
    refine PF.pf_fork [3, 7] (by kernel_rfl) rfl (PF.fork_cons ?_ (PF.fork_cons ?_ PF.fork_nil))
    -- number 3 first
    · refine PF.step_one rfl (by kernel_rfl) (fun K hK => ?_)
      go_simp
      refine hK _ _ (by repeat (first | exact PF.owes_nil | refine PF.owes_left ?_ | refine PF.owes_no (by decide +kernel) ?_ | refine PF.owes_yes (by exact Below.heap_alloc _ _ _ HZ.out) ?_)) ?_
      clear hK K
      try simp only [Act.put, List.setIfInBounds_toArray, List.set_cons_zero, List.set_cons_succ]
      refine PF.pf_exec 7 (by kernel_rfl) rfl (by kernel_rfl) (fun K hK => ?_)
      go_simp
      refine hbya.mono ?_
      rintro e w1 ⟨⟨s, rfl, hs⟩, rfl⟩
      refine hK _ _ (by repeat (first | exact PF.owes_nil | refine PF.owes_left ?_ | refine PF.owes_no (by decide +kernel) ?_ | refine PF.owes_yes (by first | rfl | exact Below.heap_alloc _ _ _ HZ.out) ?_)) ?_
      clear hK K
      try simp only [Act.put, List.setIfInBounds_toArray, List.set_cons_zero, List.set_cons_succ]
      refine PF.pf_exec 8 (by kernel_rfl) rfl (by kernel_rfl) (fun K hK => ?_)
      obtain ⟨sA, sm, sc⟩ := s
      obtain rfl : sm = lb.length := hs.len
      refine app_wp bytes_ty rfl hown0 rfl (hs.bytes : Reads _ 1 sA lb.length (lb.map bv)) rfl (bv_one lb) (by omega) hba.size ?_
      intro v2 w2 ho2 hg2 _
      obtain ⟨A2, c2, rfl, _, _⟩ := own_slice ho2
      simp only [Nat.zero_add, List.nil_append] at ho2 ⊢
      have hb2 := hba.grown hg2 hba.size (own_ge hown0)
      refine hK _ _ (by repeat (first | exact PF.owes_nil | refine PF.owes_left ?_ | refine PF.owes_no (by decide +kernel) ?_ | refine PF.owes_yes (by exact hb2.block _ HZ.out) ?_)) ?_
      clear hK K
      try simp only [Act.put, List.setIfInBounds_toArray, List.set_cons_zero, List.set_cons_succ]
      refine PF.pf_exec 11 (by kernel_rfl) rfl (by kernel_rfl) (fun K hK => ?_)
      refine app_wp bytes_ty rfl ho2 rfl ((hxW.below_ hb2).bytes : Reads _ 1 xA xl.length (xl.map bv)) rfl (bv_one xl) (by omega) hb2.size ?_
      intro v4 w4 ho4 hg4 _
      obtain ⟨A4, c4, rfl, _, _⟩ := own_slice ho4
      have hb4 := hb2.grown hg4 hb2.size (own_ge ho2)
      have hwi := with_any c ((hW.below hb4).mono (R' := fun b => S b ∨ From W.heap.size w4 b) fun b => .inl) hn (xn, ((A4, lb.length + xl.length, c4), lb ++ xl)) (BytesIn.of_own' (by simp) (by rw [List.map_append]; exact ho4) fun b h1 h2 => .inr ⟨h1, h2⟩)
      unfold sv at hwi
      refine hK _ _ (by repeat (first | exact PF.owes_nil | refine PF.owes_left ?_ | refine PF.owes_no (by decide +kernel) ?_ | refine PF.owes_yes (by exact hb4.block _ HZ.out) ?_)) ?_
      clear hK K
      try simp only [Act.put, List.setIfInBounds_toArray, List.set_cons_zero, List.set_cons_succ]
      refine PF.pf_take0 12 (by kernel_rfl) rfl (fun _ _ _ _ _ h => h) (by kernel_rfl) (fun u => by go_simp; try rfl) ?_
      try simp only [Act.put, List.setIfInBounds_toArray, List.set_cons_zero, List.set_cons_succ]
      refine PF.pf_exec 13 (by kernel_rfl) rfl (by kernel_rfl) (fun K hK => ?_)
      go_simp
      refine hwi.mono ?_
      rintro e w5 ⟨⟨A5, c5, rfl, hf5⟩, hb5⟩
      refine hK _ _ (by repeat (first | exact PF.owes_nil | refine PF.owes_left ?_ | refine PF.owes_no (by decide +kernel) ?_ | refine PF.owes_yes (by first | rfl | assumption | go_simp) ?_)) ?_
      clear hK K
      try simp only [Act.put, List.setIfInBounds_toArray, List.set_cons_zero, List.set_cons_succ]
      refine PF.pf_take0 14 (by kernel_rfl) rfl (fun _ _ _ _ _ h => h) (by kernel_rfl) (fun u => by go_simp; try rfl) ?_
      try simp only [Act.put, List.setIfInBounds_toArray, List.set_cons_zero, List.set_cons_succ]
      refine PF.pf_done (by kernel_rfl) ?_
      go_wp2_with fail
      go_ret
      exact HFIN.out _ _ (DonePost.behind hb4 ⟨_, (HF.out _).symm, ⟨A5, c5, rfl, hf5⟩, hb5⟩)
    -- number 7 first
    · refine PF.step_one rfl (by kernel_rfl) (fun K hK => ?_)
      go_simp
      refine hbyd.mono ?_
      rintro e w1 ⟨⟨s, rfl, hs⟩, rfl⟩
      refine hK _ _ (by repeat (first | exact PF.owes_nil | refine PF.owes_left ?_ | refine PF.owes_no (by decide +kernel) ?_ | refine PF.owes_yes (by first | rfl | exact Below.heap_alloc _ _ _ HZ.out) ?_)) ?_
      clear hK K
      try simp only [Act.put, List.setIfInBounds_toArray, List.set_cons_zero, List.set_cons_succ]
      refine PF.pf_exec 3 (by kernel_rfl) rfl (by kernel_rfl) (fun K hK => ?_)
      go_simp
      have hs : BytesIn (W.alloc (.cells #[] 5)).drew S s lb := BytesIn.below_ hs.undrew hba
      refine hK _ _ (by repeat (first | exact PF.owes_nil | refine PF.owes_left ?_ | refine PF.owes_no (by decide +kernel) ?_ | refine PF.owes_yes (by exact Below.heap_alloc _ _ _ HZ.out) ?_)) ?_
      clear hK K
      try simp only [Act.put, List.setIfInBounds_toArray, List.set_cons_zero, List.set_cons_succ]
      refine PF.pf_exec 8 (by kernel_rfl) rfl (by kernel_rfl) (fun K hK => ?_)
      obtain ⟨sA, sm, sc⟩ := s
      obtain rfl : sm = lb.length := hs.len
      refine app_wp bytes_ty rfl hown0 rfl (hs.bytes : Reads _ 1 sA lb.length (lb.map bv)) rfl (bv_one lb) (by omega) hba.size ?_
      intro v2 w2 ho2 hg2 _
      obtain ⟨A2, c2, rfl, _, _⟩ := own_slice ho2
      simp only [Nat.zero_add, List.nil_append] at ho2 ⊢
      have hb2 := hba.grown hg2 hba.size (own_ge hown0)
      refine hK _ _ (by repeat (first | exact PF.owes_nil | refine PF.owes_left ?_ | refine PF.owes_no (by decide +kernel) ?_ | refine PF.owes_yes (by exact hb2.block _ HZ.out) ?_)) ?_
      clear hK K
      try simp only [Act.put, List.setIfInBounds_toArray, List.set_cons_zero, List.set_cons_succ]
      refine PF.pf_exec 11 (by kernel_rfl) rfl (by kernel_rfl) (fun K hK => ?_)
      refine app_wp bytes_ty rfl ho2 rfl ((hxW.below_ hb2).bytes : Reads _ 1 xA xl.length (xl.map bv)) rfl (bv_one xl) (by omega) hb2.size ?_
      intro v4 w4 ho4 hg4 _
      obtain ⟨A4, c4, rfl, _, _⟩ := own_slice ho4
      have hb4 := hb2.grown hg4 hb2.size (own_ge ho2)
      have hwi := with_any c ((hW.below hb4).mono (R' := fun b => S b ∨ From W.heap.size w4 b) fun b => .inl) hn (xn, ((A4, lb.length + xl.length, c4), lb ++ xl)) (BytesIn.of_own' (by simp) (by rw [List.map_append]; exact ho4) fun b h1 h2 => .inr ⟨h1, h2⟩)
      unfold sv at hwi
      refine hK _ _ (by repeat (first | exact PF.owes_nil | refine PF.owes_left ?_ | refine PF.owes_no (by decide +kernel) ?_ | refine PF.owes_yes (by exact hb4.block _ HZ.out) ?_)) ?_
      clear hK K
      try simp only [Act.put, List.setIfInBounds_toArray, List.set_cons_zero, List.set_cons_succ]
      refine PF.pf_take0 12 (by kernel_rfl) rfl (fun _ _ _ _ _ h => h) (by kernel_rfl) (fun u => by go_simp; try rfl) ?_
      try simp only [Act.put, List.setIfInBounds_toArray, List.set_cons_zero, List.set_cons_succ]
      refine PF.pf_exec 13 (by kernel_rfl) rfl (by kernel_rfl) (fun K hK => ?_)
      go_simp
      refine hwi.mono ?_
      rintro e w5 ⟨⟨A5, c5, rfl, hf5⟩, hb5⟩
      refine hK _ _ (by repeat (first | exact PF.owes_nil | refine PF.owes_left ?_ | refine PF.owes_no (by decide +kernel) ?_ | refine PF.owes_yes (by first | rfl | assumption | go_simp) ?_)) ?_
      clear hK K
      try simp only [Act.put, List.setIfInBounds_toArray, List.set_cons_zero, List.set_cons_succ]
      refine PF.pf_take0 14 (by kernel_rfl) rfl (fun _ _ _ _ _ h => h) (by kernel_rfl) (fun u => by go_simp; try rfl) ?_
      try simp only [Act.put, List.setIfInBounds_toArray, List.set_cons_zero, List.set_cons_succ]
      refine PF.pf_done (by kernel_rfl) ?_
      go_wp2_with fail
      go_ret
      exact HFIN.out _ _ (DonePost.behind hb4 ⟨_, (HF.out _).symm, ⟨A5, c5, rfl, hf5⟩, hb5⟩)
  by_cases e1 : xk = 1
  · subst e1
    have HF : Hid (∀ s, (⟨1, xn, xt, (xA, xl.length, xc), xl⟩ : Rc).done (fil E) = fil (fput xn (s, xl) E)) := fun s => by
      rw [fil_put]
      rfl
    have hrd := (hxW.below_ hba).bytes
    simp only at hrd
    unfold Bytes at hrd
    have r0 := (Blk.below kb hbd kb.lt).cell 0
    have r1 := (Blk.below kb hbd kb.lt).cell 1
    have r3 := (Blk.below kb hbd kb.lt).cell 3
    simp only [List.getElem?_toArray, List.getElem?_cons_zero, List.getElem?_cons_succ] at r0 r1 r3
    clear e0 hg
    have HWW := Lib.hid hWW
    clear hWW
    go_wp2_with fail
    rw [← HWW.out] at q0 q1 q2 q3 ⊢
    have hWW := HWW.out
    clear hWW HWW
    refine PF.pf_begin (by kernel_rfl) ?_
    refine PF.pf_take0 0 (by kernel_rfl) rfl (fun _ _ _ _ _ h => h) (by kernel_rfl) (fun u => by go_simp; try rfl) ?_
    try simp only [Act.put, List.setIfInBounds_toArray, List.set_cons_zero, List.set_cons_succ]
    refine PF.pf_take0 1 (by kernel_rfl) rfl (fun _ _ _ _ _ h => h) (by kernel_rfl) (fun u => by go_simp; try rfl) ?_
    try simp only [Act.put, List.setIfInBounds_toArray, List.set_cons_zero, List.set_cons_succ]
    refine PF.pf_take1 2 (PF.Same (w.heap.size) _) (by kernel_rfl) rfl (fun _ _ _ _ _ h => h) (by kernel_rfl) (PF.Same.refl _ _) (fun u hu => by have hcu := hu.cell; go_simp; try rfl) ?_
    try simp only [Act.put, List.setIfInBounds_toArray, List.set_cons_zero, List.set_cons_succ]
    refine PF.pf_take0 4 (by kernel_rfl) rfl (fun _ _ _ _ _ h => h) (by kernel_rfl) (fun u => by go_simp; try rfl) ?_
    try simp only [Act.put, List.setIfInBounds_toArray, List.set_cons_zero, List.set_cons_succ]
    refine PF.pf_take1 5 (PF.Same (w.heap.size) _) (by kernel_rfl) rfl (fun _ _ _ _ _ h => h) (by kernel_rfl) (PF.Same.refl _ _) (fun u hu => by have hcu := hu.cell; go_simp; try rfl) ?_
    try simp only [Act.put, List.setIfInBounds_toArray, List.set_cons_zero, List.set_cons_succ]
    refine PF.pf_exec 3 (by kernel_rfl) rfl (by kernel_rfl) (fun K hK => ?_)
    go_simp
    refine hK _ _ (by repeat (first | exact PF.owes_nil | refine PF.owes_left ?_ | refine PF.owes_no (by decide +kernel) ?_ | refine PF.owes_yes (by exact Below.heap_alloc _ _ _ HZ.out) ?_)) ?_
    clear hK K
    try simp only [Act.put, List.setIfInBounds_toArray, List.set_cons_zero, List.set_cons_succ]
    refine PF.pf_exec 6 (by kernel_rfl) rfl (by kernel_rfl) (fun K hK => ?_)
    refine app_wp bytes_ty rfl hown0 rfl hrd rfl (bv_one xl) (by omega) hba.size ?_
    intro v2 w2 ho2 hg2 _
    obtain ⟨A2, c2, rfl, _, _⟩ := own_slice ho2
    simp only [Nat.zero_add, List.nil_append] at ho2 ⊢
    have hb2 := hba.grown hg2 hba.size (own_ge hown0)
    have hwi := with_any c ((hW.below hb2).mono (R' := fun b => S b ∨ From W.heap.size w2 b) fun b => .inl) hn (xn, ((A2, xl.length, c2), xl)) (BytesIn.of_own ho2 fun b h1 h2 => .inr ⟨h1, h2⟩)
    unfold sv at hwi
    refine hK _ _ (by repeat (first | exact PF.owes_nil | refine PF.owes_left ?_ | refine PF.owes_no (by decide +kernel) ?_ | refine PF.owes_yes (by exact hb2.block _ HZ.out) ?_)) ?_
    clear hK K
    try simp only [Act.put, List.setIfInBounds_toArray, List.set_cons_zero, List.set_cons_succ]
    refine PF.pf_take0 7 (by kernel_rfl) rfl (fun _ _ _ _ _ h => h) (by kernel_rfl) (fun u => by go_simp; try rfl) ?_
    try simp only [Act.put, List.setIfInBounds_toArray, List.set_cons_zero, List.set_cons_succ]
    refine PF.pf_exec 8 (by kernel_rfl) rfl (by kernel_rfl) (fun K hK => ?_)
    go_simp
    refine hwi.mono ?_
    rintro e w3 ⟨⟨A3, c3, rfl, hf3⟩, hb3⟩
    refine hK _ _ (by repeat (first | exact PF.owes_nil | refine PF.owes_left ?_ | refine PF.owes_no (by decide +kernel) ?_ | refine PF.owes_yes (by first | rfl | assumption | go_simp) ?_)) ?_
    clear hK K
    try simp only [Act.put, List.setIfInBounds_toArray, List.set_cons_zero, List.set_cons_succ]
    refine PF.pf_take0 9 (by kernel_rfl) rfl (fun _ _ _ _ _ h => h) (by kernel_rfl) (fun u => by go_simp; try rfl) ?_
    try simp only [Act.put, List.setIfInBounds_toArray, List.set_cons_zero, List.set_cons_succ]
    refine PF.pf_done (by kernel_rfl) ?_
    go_wp2_with fail
    go_ret
    exact HFIN.out _ _ (DonePost.behind hb2 ⟨_, (HF.out _).symm, ⟨A3, c3, rfl, hf3⟩, hb3⟩)
  by_cases e2 : xk = 2
  · subst e2
    have HF : Hid (∀ s, (⟨2, xn, xt, (xA, xl.length, xc), xl⟩ : Rc).done (fil E) = fil (fput xt (s, (fget xn (fil E)).getD []) (fdel xn E))) := fun s => by
      rw [fil_put, fil_del]
      rfl
    have hwo := without_any c (hW.below hbd) (by omega) xn
    have hln : (fdel xn E).length ≤ E.length := List.length_filter_le _ _
    have HBY : Hid (∀ u, Below W.heap.size W u → Calls Try.prog 68 #[.slice A E.length c, .string ⟨xn.toArray⟩] u fun e w' => (∃ s, e = .returned (sv s) ∧ BytesIn u S s ((fget xn (fil E)).getD [])) ∧ u = w') := fun u hu => bytesof_any c (hW.below hu) (by omega) xn
    generalize (fget xn (fil E)).getD [] = lb at *
    generalize fdel xn E = D at *
    have r0 := (Blk.below kb hbd kb.lt).cell 0
    have r1 := (Blk.below kb hbd kb.lt).cell 1
    have r2 := (Blk.below kb hbd kb.lt).cell 2
    have r3 := (Blk.below kb hbd kb.lt).cell 3
    simp only [List.getElem?_toArray, List.getElem?_cons_zero, List.getElem?_cons_succ] at r0 r1 r2 r3
    clear e0 e1
    have HWW := Lib.hid hWW
    clear hWW
    go_wp2_with fail
    rw [← HWW.out] at q0 q1 q2 q3 ⊢
    have hWW := HWW.out
    clear hWW HWW
    refine PF.pf_begin (by kernel_rfl) ?_
    refine PF.pf_take0 0 (by kernel_rfl) rfl (fun _ _ _ _ _ h => h) (by kernel_rfl) (fun u => by go_simp; try rfl) ?_
    try simp only [Act.put, List.setIfInBounds_toArray, List.set_cons_zero, List.set_cons_succ]
    refine PF.pf_take0 1 (by kernel_rfl) rfl (fun _ _ _ _ _ h => h) (by kernel_rfl) (fun u => by go_simp; try rfl) ?_
    try simp only [Act.put, List.setIfInBounds_toArray, List.set_cons_zero, List.set_cons_succ]
    refine PF.pf_take1 2 (PF.Same (w.heap.size) _) (by kernel_rfl) rfl (fun _ _ _ _ _ h => h) (by kernel_rfl) (PF.Same.refl _ _) (fun u hu => by have hcu := hu.cell; go_simp; try rfl) ?_
    try simp only [Act.put, List.setIfInBounds_toArray, List.set_cons_zero, List.set_cons_succ]
    refine PF.pf_take0 4 (by kernel_rfl) rfl (fun _ _ _ _ _ h => h) (by kernel_rfl) (fun u => by go_simp; try rfl) ?_
    try simp only [Act.put, List.setIfInBounds_toArray, List.set_cons_zero, List.set_cons_succ]
    refine PF.pf_take1 5 (PF.Same (w.heap.size) _) (by kernel_rfl) rfl (fun _ _ _ _ _ h => h) (by kernel_rfl) (PF.Same.refl _ _) (fun u hu => by have hcu := hu.cell; go_simp; try rfl) ?_
    try simp only [Act.put, List.setIfInBounds_toArray, List.set_cons_zero, List.set_cons_succ]
    refine PF.pf_take0 6 (by kernel_rfl) rfl (fun _ _ _ _ _ h => h) (by kernel_rfl) (fun u => by go_simp; try rfl) ?_
    try simp only [Act.put, List.setIfInBounds_toArray, List.set_cons_zero, List.set_cons_succ]
    refine PF.pf_take0 7 (by kernel_rfl) rfl (fun _ _ _ _ _ h => h) (by kernel_rfl) (fun u => by go_simp; try rfl) ?_
    try simp only [Act.put, List.setIfInBounds_toArray, List.set_cons_zero, List.set_cons_succ]
    refine PF.pf_take1 8 (PF.Same (w.heap.size) _) (by kernel_rfl) rfl (fun _ _ _ _ _ h => h) (by kernel_rfl) (PF.Same.refl _ _) (fun u hu => by have hcu := hu.cell; go_simp; try rfl) ?_
    try simp only [Act.put, List.setIfInBounds_toArray, List.set_cons_zero, List.set_cons_succ]
    refine PF.pf_exec 3 (by kernel_rfl) rfl (by kernel_rfl) (fun K hK => ?_)
    go_simp
    refine hwo.mono ?_
    rintro e w1 ⟨⟨A1, c1, rfl, hf1⟩, hb1⟩
    have hb1' : Below W.heap.size W w1 := hbd.trans hb1
    have hby := HBY.out w1 hb1'
    refine hK _ _ (by repeat (first | exact PF.owes_nil | refine PF.owes_left ?_ | refine PF.owes_no (by decide +kernel) ?_ | refine PF.owes_yes (by exact hb1'.block _ HZ.out) ?_)) ?_
    clear hK K
    try simp only [Act.put, List.setIfInBounds_toArray, List.set_cons_zero, List.set_cons_succ]
    refine PF.pf_exec 9 (by kernel_rfl) rfl (by kernel_rfl) (fun K hK => ?_)
    go_simp
    refine hby.mono ?_
    rintro e w2 ⟨⟨s, rfl, hs⟩, rfl⟩
    have hwi := with_any c1 hf1 (by omega) (xt, (s, lb)) (hs.mono fun b => .inl)
    unfold sv at hwi
    refine hK _ _ (by repeat (first | exact PF.owes_nil | refine PF.owes_left ?_ | refine PF.owes_no (by decide +kernel) ?_ | refine PF.owes_yes (by exact hb1'.block _ HZ.out) ?_)) ?_
    clear hK K
    try simp only [Act.put, List.setIfInBounds_toArray, List.set_cons_zero, List.set_cons_succ]
    refine PF.pf_take0 10 (by kernel_rfl) rfl (fun _ _ _ _ _ h => h) (by kernel_rfl) (fun u => by go_simp; try rfl) ?_
    try simp only [Act.put, List.setIfInBounds_toArray, List.set_cons_zero, List.set_cons_succ]
    refine PF.pf_exec 11 (by kernel_rfl) rfl (by kernel_rfl) (fun K hK => ?_)
    go_simp
    refine hwi.mono ?_
    rintro e w5 ⟨⟨A5, c5, rfl, hf5⟩, hb5⟩
    refine hK _ _ (by repeat (first | exact PF.owes_nil | refine PF.owes_left ?_ | refine PF.owes_no (by decide +kernel) ?_ | refine PF.owes_yes (by first | rfl | assumption | go_simp) ?_)) ?_
    clear hK K
    try simp only [Act.put, List.setIfInBounds_toArray, List.set_cons_zero, List.set_cons_succ]
    refine PF.pf_take0 12 (by kernel_rfl) rfl (fun _ _ _ _ _ h => h) (by kernel_rfl) (fun u => by go_simp; try rfl) ?_
    try simp only [Act.put, List.setIfInBounds_toArray, List.set_cons_zero, List.set_cons_succ]
    refine PF.pf_done (by kernel_rfl) ?_
    go_wp2_with fail
    go_ret
    exact HFIN.out _ _ (DonePost.behind hb1' ⟨_, (HF.out _).symm, ⟨A5, c5, rfl, hf5⟩, hb5⟩)
  have f0 : (xk == 0) = false := by simpa using e0
  have f1 : (xk == 1) = false := by simpa using e1
  have f2 : (xk == 2) = false := by simpa using e2
  have HF : Hid ((⟨xk, xn, xt, (xA, xl.length, xc), xl⟩ : Rc).done (fil E) = fil (fdel xn E)) := by
    show _ = _
    rw [fil_del]
    unfold Rc.done
    rw [if_neg e0, if_neg e1, if_neg e2]
  have hwo := without_any c hW (by omega) xn
  clear e0 e1 e2
  have HWW := Lib.hid hWW
  clear hWW
  go_wp2_with fail
  rw [← HWW.out]
  refine hwo.mono ?_
  rintro e w1 ⟨⟨A1, c1, rfl, hf1⟩, hb1⟩
  go_wp2_with fail
  go_ret
  exact HFIN.out _ _ ⟨_, HF.out.symm, ⟨A1, c1, rfl, hf1⟩, hb1⟩
end Go.Proofs.Ytggdkhgpkedbkaa
