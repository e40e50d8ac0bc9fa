/- The writer: what it is; Write of bytes, Raw, Len, Bytes. -/
import Derived.Test.YtcklbhplhpohpaaDoorBufD
import Derived.Test.YtcklbhplhpohpaaDoorFlat
namespace Go.Proofs.YtcklbhplhpohpaaDoor
open Go.RowKit

/-- The writer in the block b has the bytes l, in the row 'row'. -/
def Wr (w : World) (b : Nat) (row : Option Nat) (l : List UInt8) : Prop := Buf 33 w b row (l.map bv)
/-- The writer in the block b has the bytes l now; its row is the one it had, or a new one. -/
def Wrt (b : Nat) (row : Option Nat) (l : List UInt8) (w w' : World) : Prop :=
  ∃ row', Wr w' b row' l ∧ (row' = row ∨ ∃ g, w.heap.size ≤ g ∧ row' = some g) ∧ Mod (fun k => k = b ∨ some k = row) w w'
theorem Wrt.of {b : Nat} {row : Option Nat} {l s : List UInt8} {w w' : World} (h : Wrote 33 b row (l.map bv ++ s.map bv) w w') : Wrt b row (l ++ s) w w' := by
  unfold Wrt Wr
  rw [List.map_append]
  exact h
theorem Wrt.step {b : Nat} {row row1 : Option Nat} {s : List UInt8} {w w1 w2 : World} (h2 : row1 = row ∨ ∃ g, w.heap.size ≤ g ∧ row1 = some g) (h3 : Mod (fun k => k = b ∨ some k = row) w w1) (k : Wrt b row1 s w1 w2) : Wrt b row s w w2 := by
  obtain ⟨row2, k1, k2, k3⟩ := k
  refine ⟨row2, k1, ?_, h3.join k3 fun i hi ht => ?_⟩
  · rcases k2 with rfl | ⟨g, k4, rfl⟩
    · exact h2
    · exact .inr ⟨g, Nat.le_trans h3.size k4, rfl⟩
  · rcases ht with ht | ht
    · exact .inl ht
    · rcases h2 with h2 | ⟨g', h4, h5⟩
      · exact .inr (by rw [ht, h2])
      · rw [h5] at ht
        injection ht with ht
        omega
theorem Wrt.refl {b : Nat} {row : Option Nat} {l : List UInt8} {w : World} (h : Wr w b row l) : Wrt b row l w w := ⟨row, h, .inl rfl, Mod.refl _ _⟩
/-- What happens ahead in new blocks alone. -/
theorem Wrt.ahead {b : Nat} {row : Option Nat} {l : List UInt8} {w w1 w2 : World} (hb : Below w.heap.size w w1) (hr : ∀ g, row = some g → g < w.heap.size) (h : Wrt b row l w1 w2) : Wrt b row l w w2 := by
  obtain ⟨row2, k1, k2, k3⟩ := h
  refine ⟨row2, k1, ?_, (Mod.below hb (Nat.le_refl _)).join k3 fun i hi ht => ht⟩
  rcases k2 with rfl | ⟨g, k4, rfl⟩
  · exact .inl rfl
  · exact .inr ⟨g, Nat.le_trans hb.size k4, rfl⟩
theorem Wr.below {w w' : World} {b : Nat} {row : Option Nat} {l : List UInt8} (h : Wr w b row l) (hb : Below w.heap.size w w') : Wr w' b row l := Buf.mod h (Mod.below (S := fun _ => False) hb (Nat.le_refl _)) (fun h => h) fun _ _ h => h

theorem write_any (b : Nat) (row : Option Nat) (l s : List UInt8) (A : Option Addr) (c n : Nat) (w : World) (h : Wr w b row l) (hs : Bytes w A s) (hn : n = s.length) (hA : 0 < s.length → ∀ ad, A = some ad → ad.block ≠ b ∧ some ad.block ≠ row) (hlim : l.length + s.length ≤ 140737488355328) :
    Calls Tryd.prog 55 #[.pointer (some ⟨b, 0, none⟩), .slice A n c] w fun e w' => e = .returned (.tuple #[.int .i64 (s.length : Int), .nilIface]) ∧ Wrt b row (l ++ s) w w' := by
  subst hn
  rcases Nat.eq_zero_or_pos s.length with h0 | h0
  · obtain rfl := List.eq_nil_of_length_eq_zero h0
    refine (write_none 33 b row (l.map bv) A c w h).mono ?_
    rintro e w' ⟨rfl, hw⟩
    exact ⟨rfl, by rw [List.append_nil]; exact hw⟩
  · obtain ⟨g, o, rfl, _, _⟩ := Bytes.flat hs h0
    obtain ⟨h1, h2⟩ := hA h0 _ rfl
    refine (write_some 33 b row (l.map bv) g o c (s.map bv) s.length w h (by simp) h0 hs h1 h2 (bv_one l) (bv_one s) (by simpa using hlim)).mono ?_
    rintro e w' ⟨rfl, hw⟩
    exact ⟨rfl, Wrt.of hw⟩
theorem wraw_any (b : Nat) (row : Option Nat) (l s : List UInt8) (A : Option Addr) (c n : Nat) (w : World) (h : Wr w b row l) (hs : Bytes w A s) (hn : n = s.length) (hA : 0 < s.length → ∀ ad, A = some ad → ad.block ≠ b ∧ some ad.block ≠ row) (hlim : l.length + s.length ≤ 140737488355328) :
    Calls Tryd.prog 37 #[.pointer (some ⟨b, 0, none⟩), .slice A n c] w fun e w' => e = .returned (.tuple #[]) ∧ Wrt b row (l ++ s) w w' := by
  have HW := Lib.hid (write_any b row l s A c n w h hs hn hA hlim)
  clear hn hA hs h
  go_enter Tryd.func37, Tryd.ntmps37
  go_wp2_with fail
  refine HW.out.mono ?_
  rintro e w' ⟨rfl, hw⟩
  have HW2 := Lib.hid hw
  clear hw
  go_wp2_with fail
  go_end0
  exact ⟨rfl, HW2.out⟩
theorem wraw_nil (v : Value) (w : World) : Calls Tryd.prog 37 #[.pointer none, v] w fun e w' => e = .returned (.tuple #[]) ∧ w = w' := by
  go_enter Tryd.func37, Tryd.ntmps37
  go_wp2_with fail
  go_end0
  exact ⟨rfl, rfl⟩
theorem newwriter_any (w : World) : Calls Tryd.prog 12 #[] w fun e w' => e = .returned (.pointer (some ⟨w.heap.size, 0, none⟩)) ∧ Wr w' w.heap.size none [] ∧ w' = w.alloc (.cells #[.slice none 0 0, .int .i64 0, .int .i8 0] 33) := by
  go_enter Tryd.func12, Tryd.ntmps12
  go_wp2_with fail
  go_ret
  exact ⟨rfl, Buf.new _ _ _, rfl⟩
theorem wlen_any (b : Nat) (row : Option Nat) (l : List UInt8) (w : World) (h : Wr w b row l) : Calls Tryd.prog 15 #[.pointer (some ⟨b, 0, none⟩)] w fun e w' => e = .returned (.int .i64 (l.length : Int)) ∧ ∃ q, w' = w.drewN q := by
  obtain ⟨A, c, lr, hb, ho, _, _⟩ := h
  obtain ⟨_, _, e, h1, h2⟩ := own_slice ho
  injection e with e1 _ e2
  subst e1 e2
  unfold maxLen at h2
  have HL := Lib.hid (buf_len _ b A _ c lr w hb (by omega))
  clear hb ho
  go_enter Tryd.func15, Tryd.ntmps15
  go_wp2_with fail
  refine HL.out.mono ?_
  rintro e w' ⟨rfl, q, rfl⟩
  go_wp2_with fail
  go_ret
  exact ⟨by simp, q, rfl⟩
theorem wlen_nil (w : World) : Calls Tryd.prog 15 #[.pointer none] w fun e w' => e = .returned (.int .i64 0) ∧ w = w' := by
  go_enter Tryd.func15, Tryd.ntmps15
  go_wp2_with fail
  go_ret
  exact ⟨rfl, rfl⟩
theorem buf_bytes (T : TypeId) (b : Nat) (row : Option Nat) (l : List UInt8) (w : World) (h : Buf T w b row (l.map bv)) :
    Calls Tryd.prog 45 #[.pointer (some ⟨b, 0, none⟩)] w fun e w' => (∃ A c, e = .returned (.slice A l.length c) ∧ Bytes w' A l) ∧ ∃ q, w' = w.drewN q := by
  obtain ⟨A, c, lr, hb, ho, _, _⟩ := h
  have hB : Bytes w A l := by
    have := Reads.of_own ho
    unfold Bytes
    simpa using this
  obtain ⟨_, _, e, h1, h2⟩ := own_slice ho
  injection e with e1 _ e2
  subst e1 e2
  unfold maxLen at h2
  rw [List.length_map] at hb h1
  have c0 : w.cell? ⟨b, 0, none⟩ = some (.slice A l.length c) := hb.cell 0
  have c1 : w.cell? ⟨b, 1, none⟩ = some (.int .i64 0) := hb.cell 1
  have HB := Lib.hid hB
  clear hb ho hB
  cases A with
  | none =>
    have hl : l = [] := by
      rcases Nat.eq_zero_or_pos l.length with h0 | h0
      · exact List.eq_nil_of_length_eq_zero h0
      · obtain ⟨g, o, e, _⟩ := Bytes.flat HB.out h0
        cases e
    subst hl
    go_enter Tryd.func45, Tryd.ntmps45
    go_wp2_with fail
    refine PF.pf_begin (by kernel_rfl) ?_
    refine PF.pf_take0 0 (by kernel_rfl) rfl (fun _ _ _ _ _ h => h) (by kernel_rfl) (fun u => by go_simp; try rfl) ?_
    try simp only [Act.put, List.setIfInBounds_toArray, List.set_cons_zero, List.set_cons_succ]
    refine PF.pf_take0 1 (by kernel_rfl) rfl (fun _ _ _ _ _ h => h) (by kernel_rfl) (fun u => by go_simp; try rfl) ?_
    try simp only [Act.put, List.setIfInBounds_toArray, List.set_cons_zero, List.set_cons_succ]
    refine PF.pf_take0 2 (by kernel_rfl) rfl (fun _ _ _ _ _ h => h) (by kernel_rfl) (fun u => by go_simp; try rfl) ?_
    try simp only [Act.put, List.setIfInBounds_toArray, List.set_cons_zero, List.set_cons_succ]
    refine PF.pf_take1 3 (PF.Same (b) _) (by kernel_rfl) rfl (fun _ _ _ _ _ h => h) (by kernel_rfl) (PF.Same.refl _ _) (fun u hu => by have hcu := hu.cell; go_simp; try rfl) ?_
    try simp only [Act.put, List.setIfInBounds_toArray, List.set_cons_zero, List.set_cons_succ]
    refine PF.pf_take0 4 (by kernel_rfl) rfl (fun _ _ _ _ _ h => h) (by kernel_rfl) (fun u => by go_simp; try rfl) ?_
    try simp only [Act.put, List.setIfInBounds_toArray, List.set_cons_zero, List.set_cons_succ]
    refine PF.pf_take0 5 (by kernel_rfl) rfl (fun _ _ _ _ _ h => h) (by kernel_rfl) (fun u => by go_simp; try rfl) ?_
    try simp only [Act.put, List.setIfInBounds_toArray, List.set_cons_zero, List.set_cons_succ]
    refine PF.pf_take0 6 (by kernel_rfl) rfl (fun _ _ _ _ _ h => h) (by kernel_rfl) (fun u => by go_simp; try rfl) ?_
    try simp only [Act.put, List.setIfInBounds_toArray, List.set_cons_zero, List.set_cons_succ]
    refine PF.pf_take1 7 (PF.Same (b) _) (by kernel_rfl) rfl (fun _ _ _ _ _ h => h) (by kernel_rfl) (PF.Same.refl _ _) (fun u hu => by have hcu := hu.cell; go_simp; try rfl) ?_
    try simp only [Act.put, List.setIfInBounds_toArray, List.set_cons_zero, List.set_cons_succ]
    refine PF.pf_take0 8 (by kernel_rfl) rfl (fun _ _ _ _ _ h => h) (by kernel_rfl) (fun u => by go_simp; try rfl) ?_
    try simp only [Act.put, List.setIfInBounds_toArray, List.set_cons_zero, List.set_cons_succ]
    refine PF.pf_take0 9 (by kernel_rfl) rfl (fun _ _ _ _ _ h => h) (by kernel_rfl) (fun u => by go_simp; try rfl) ?_
    try simp only [Act.put, List.setIfInBounds_toArray, List.set_cons_zero, List.set_cons_succ]
    refine PF.pf_done (by kernel_rfl) ?_
    go_wp2_with fail
    go_ret
    exact ⟨⟨_, _, rfl, Bytes.nil_ _ _⟩, 1, rfl⟩
  | some ad =>
    go_enter Tryd.func45, Tryd.ntmps45
    go_wp2_with fail
    refine PF.pf_begin (by kernel_rfl) ?_
    refine PF.pf_take0 0 (by kernel_rfl) rfl (fun _ _ _ _ _ h => h) (by kernel_rfl) (fun u => by go_simp; try rfl) ?_
    try simp only [Act.put, List.setIfInBounds_toArray, List.set_cons_zero, List.set_cons_succ]
    refine PF.pf_take0 1 (by kernel_rfl) rfl (fun _ _ _ _ _ h => h) (by kernel_rfl) (fun u => by go_simp; try rfl) ?_
    try simp only [Act.put, List.setIfInBounds_toArray, List.set_cons_zero, List.set_cons_succ]
    refine PF.pf_take0 2 (by kernel_rfl) rfl (fun _ _ _ _ _ h => h) (by kernel_rfl) (fun u => by go_simp; try rfl) ?_
    try simp only [Act.put, List.setIfInBounds_toArray, List.set_cons_zero, List.set_cons_succ]
    refine PF.pf_take1 3 (PF.Same (b) _) (by kernel_rfl) rfl (fun _ _ _ _ _ h => h) (by kernel_rfl) (PF.Same.refl _ _) (fun u hu => by have hcu := hu.cell; go_simp; try rfl) ?_
    try simp only [Act.put, List.setIfInBounds_toArray, List.set_cons_zero, List.set_cons_succ]
    refine PF.pf_take0 4 (by kernel_rfl) rfl (fun _ _ _ _ _ h => h) (by kernel_rfl) (fun u => by go_simp; try rfl) ?_
    try simp only [Act.put, List.setIfInBounds_toArray, List.set_cons_zero, List.set_cons_succ]
    refine PF.pf_take0 5 (by kernel_rfl) rfl (fun _ _ _ _ _ h => h) (by kernel_rfl) (fun u => by go_simp; try rfl) ?_
    try simp only [Act.put, List.setIfInBounds_toArray, List.set_cons_zero, List.set_cons_succ]
    refine PF.pf_take0 6 (by kernel_rfl) rfl (fun _ _ _ _ _ h => h) (by kernel_rfl) (fun u => by go_simp; try rfl) ?_
    try simp only [Act.put, List.setIfInBounds_toArray, List.set_cons_zero, List.set_cons_succ]
    refine PF.pf_take1 7 (PF.Same (b) _) (by kernel_rfl) rfl (fun _ _ _ _ _ h => h) (by kernel_rfl) (PF.Same.refl _ _) (fun u hu => by have hcu := hu.cell; go_simp; try rfl) ?_
    try simp only [Act.put, List.setIfInBounds_toArray, List.set_cons_zero, List.set_cons_succ]
    refine PF.pf_take0 8 (by kernel_rfl) rfl (fun _ _ _ _ _ h => h) (by kernel_rfl) (fun u => by go_simp; try rfl) ?_
    try simp only [Act.put, List.setIfInBounds_toArray, List.set_cons_zero, List.set_cons_succ]
    refine PF.pf_take0 9 (by kernel_rfl) rfl (fun _ _ _ _ _ h => h) (by kernel_rfl) (fun u => by go_simp; try rfl) ?_
    try simp only [Act.put, List.setIfInBounds_toArray, List.set_cons_zero, List.set_cons_succ]
    refine PF.pf_done (by kernel_rfl) ?_
    go_wp2_with fail
    go_ret
    exact ⟨⟨_, _, rfl, HB.out.mod ((Mod.refl (fun _ => False) _).drew) fun _ _ h => h⟩, 1, rfl⟩
theorem wbytes_any (b : Nat) (row : Option Nat) (l : List UInt8) (w : World) (h : Wr w b row l) (hlim : l.length ≤ 140737488355328) :
    Calls Tryd.prog 16 #[.pointer (some ⟨b, 0, none⟩)] w fun e w' => CloneB w.heap.size l e w' ∧ Below w.heap.size w w' := by
  have HB := Lib.hid (buf_bytes _ b row l w h)
  clear h
  go_enter Tryd.func16, Tryd.ntmps16
  go_wp2_with fail
  refine HB.out.mono ?_
  rintro e w1 ⟨⟨A, c, rfl, hB⟩, q, hq⟩
  have HQ := Lib.hid hq
  clear hq
  go_wp2_with fail
  refine (bclone_any A c l w1 hB hlim).mono ?_
  rintro e w2 ⟨⟨A2, c2, rfl, ho⟩, hb⟩
  go_wp2_with fail
  go_ret
  have hq := HQ.out
  subst hq
  exact ⟨⟨_, _, rfl, ho⟩, hb.os, hb.tape, hb.output, hb.size, hb.block⟩
theorem wbytes_nil (w : World) : Calls Tryd.prog 16 #[.pointer none] w fun e w' => e = .returned (.slice none 0 0) ∧ w = w' := by
  go_enter Tryd.func16, Tryd.ntmps16
  go_wp2_with fail
  go_ret
  exact ⟨rfl, rfl⟩
end Go.Proofs.YtcklbhplhpohpaaDoor
