/- bytes.Buffer: Write, Bytes. -/
import Derived.Test.YtcklbhplhpohpaaDoorBufC
namespace Go.Proofs.YtcklbhplhpohpaaDoor
open Go.RowKit

/-- The buffer in the block b has the cells xs now; its row is the one it had, or a new one. -/
def Wrote (T : TypeId) (b : Nat) (row : Option Nat) (xs : List Value) (w w' : World) : Prop :=
  ∃ row', Buf T w' b row' xs ∧ (row' = row ∨ ∃ g, w.heap.size ≤ g ∧ row' = some g) ∧ Mod (fun k => k = b ∨ some k = row) w w'
/-- There is room for k cells more behind the cells xs. -/
def Roomy (T : TypeId) (b : Nat) (row : Option Nat) (k : Nat) (xs : List Value) (w W : World) : Prop :=
  ∃ g cap cur, Blk W b T #[.slice (some ⟨g, 0, none⟩) (xs.length + k) cap, .int .i64 0, .int .i8 0] ∧ W.heap[g]? = some (.cells cur 5 (0, 0)) ∧ cur.size = cap ∧ cur.toList.take xs.length = xs ∧
    xs.length + k ≤ cap ∧ cap ≤ 9223372036854775807 ∧ g ≠ b ∧ (row = some g ∨ w.heap.size ≤ g) ∧ Mod (fun k => k = b) w W
theorem grow_any (T : TypeId) (b : Nat) (row : Option Nat) (A : Option Addr) (c k : Nat) (xs : List Value) (w0 w : World) (hw : Mod (fun k => k = b) w0 w) (_hlt : b < w0.heap.size) (h : Blk w b T #[.slice A xs.length c, .int .i64 0, .int .i8 0]) (ho : w.ownsRow 0 5 1 (.slice A xs.length c) xs.length xs) (h1 : ∀ v ∈ xs, v.oneCell' = true) (hk : c < xs.length + k) (hlim : xs.length + k ≤ 140737488355328) :
    Calls Tryd.prog 63 #[.pointer (some ⟨b, 0, none⟩), .int .i64 (k : Int)] w fun e w' => e = .returned (.int .i64 (xs.length : Int)) ∧ Roomy T b row k xs w0 w' := by
  have key : ∀ e w', Bigger T b xs.length k 0 xs w e w' → e = .returned (.int .i64 (xs.length : Int)) ∧ Roomy T b row k xs w0 w' := by
    rintro e w' ⟨rfl, g, cap2, cells, hg, hb, hN, hcs, htk, hc, hm, hM⟩
    have := hw.size
    exact ⟨rfl, g, cap2, cells, hb, hN, hcs, htk, hc, by simpa [maxLen] using hm, by have := h.lt; omega, .inr (by omega), hw.trans hM⟩
  have hr := Reads.of_own ho
  rcases ho.2 with ⟨e, hl⟩ | ⟨g, c', cur, e, _, _, hnc, _⟩
  · injection e with e1 e2 e3
    subst e1 e3
    obtain rfl : xs = [] := List.eq_nil_of_length_eq_zero hl
    simp only [List.length_nil] at h hk hlim
    rcases Nat.lt_or_ge 64 k with h64 | h64
    · exact (grow_nil_big T b k 0 w h h64 (by omega)).mono key
    · exact (grow_nil_small T b k 0 w h (by omega) h64).mono key
  · injection e with e1 e2 e3
    subst e1 e3
    exact (grow_row T b g xs.length c k 0 xs w h hr h1 hnc hk hlim).mono key

set_option maxRecDepth 100000 in
set_option maxHeartbeats 1000000 in
theorem write_none (T : TypeId) (b : Nat) (row : Option Nat) (xs : List Value) (A : Option Addr) (c : Nat) (w : World) (h : Buf T w b row xs) :
    Calls Tryd.prog 55 #[.pointer (some ⟨b, 0, none⟩), .slice A 0 c] w fun e w' => e = .returned (.tuple #[.int .i64 0, .nilIface]) ∧ Wrote T b row xs w w' := by
  have hB := Lib.hid h
  obtain ⟨V, cv, lr, hb, ho, hrow, hne⟩ := h
  have c2 : w.cell? ⟨b, 2, none⟩ = some (.int .i8 lr) := hb.cell 2
  have f2 : w.frozen? ⟨b, 2, none⟩ = false := hb.free 2
  have hb1 : Blk (w.setCell ⟨b, 2, none⟩ (.int .i8 0)) b T #[.slice V xs.length cv, .int .i64 0, .int .i8 0] := hb.put 2 _
  have hce : ∀ d dLen dCap W, (Builtin.copy_ #[27, 27] 3 #[.slice d dLen dCap, .slice A 0 c]).run Tryd.prog W = .ok (goInt 0) W := fun d dLen dCap W => run_copy_none W 27 27 3 5 d A dLen dCap 0 c Tryd.underlying27 size_u8 (by simp)
  have hV := own_slice ho
  obtain ⟨V', cv', e, hnc, hcm⟩ := hV
  injection e with e1 _ e2
  subst e1 e2
  have hfin : ∀ v, v = Value.slice V (xs.length + 0) cv → Wrote T b row xs w ((w.setCell ⟨b, 2, none⟩ (.int .i8 0)).setCell ⟨b, 0, none⟩ v) := by
    intro v ev
    subst ev
    refine ⟨row, ⟨V, cv, 0, hb1.put 0 _, ?_, hrow, hne⟩, .inl rfl, ((Mod.refl _ w).set (p := ⟨b, 2, none⟩) (fun _ => .inl rfl) _).set (p := ⟨b, 0, none⟩) (fun _ => .inl rfl) _⟩
    exact World.ownsRow.kept ho (only_set (only_set (only_refl w (some b)) 2 _) 0 _) (.inr (by rw [hrow]; exact hne))
  have HF := Lib.hid hfin
  clear hfin hB hcm
  rcases ho.2 with ⟨e, hl⟩ | ⟨g, c', cur, e, _, _, hnc, hcm, _⟩
  · injection e with e1 e2 e3
    subst e1 e3
    obtain rfl : xs = [] := List.eq_nil_of_length_eq_zero hl
    simp only [List.length_nil] at hb1
    clear ho hl hrow hb hnc
    go_enter Tryd.func55, Tryd.ntmps55
    go_wp2_with fail
    refine (reslice_room T b none 0 0 0 0 _ hb1 (fun _ => rfl) (fun _ e => by cases e) (by omega) (by omega)).mono ?_
    rintro e w2 ⟨rfl, rfl⟩
    have d0 := (hb1.put 0 (.slice none (0 + 0) 0)).cell 0
    simp at d0
    go_wp2_with fail
    go_ret2
    exact ⟨rfl, HF.out _ rfl⟩
  · injection e with e1 e2 e3
    subst e1 e3
    unfold maxLen at hcm
    clear ho hrow hb
    generalize hn : xs.length = n at hb1 hnc HF
    clear hn
    go_enter Tryd.func55, Tryd.ntmps55
    go_wp2_with fail
    refine (reslice_room T b (some ⟨g, 0, none⟩) n cv 0 0 _ hb1 (fun e => by cases e) (fun ad e => ⟨g, by injection e with e; exact e.symm⟩) (by omega) (by omega)).mono ?_
    rintro e w2 ⟨rfl, rfl⟩
    have d0 := (hb1.put 0 (.slice (some ⟨g, 0, none⟩) (n + 0) cv)).cell 0
    simp at d0
    go_wp2_with fail
    all_goals
      go_ret2
      refine ⟨rfl, HF.out _ ?_⟩
      first | rfl | (congr 1; omega)
/-- The copy's end. -/
theorem wrote_end {T : TypeId} {b g cap : Nat} {row : Option Nat} {xs ys : List Value} {cur : Array Value} {w W : World} (hb : Blk W b T #[.slice (some ⟨g, 0, none⟩) (xs.length + ys.length) cap, .int .i64 0, .int .i8 0]) (hg : W.heap[g]? = some (.cells cur 5 (0, 0))) (hs : cur.size = cap) (hx : cur.toList.take xs.length = xs)
    (hn : xs.length + ys.length ≤ cap) (hc : cap ≤ 9223372036854775807) (hgb : g ≠ b) (hr : row = some g ∨ w.heap.size ≤ g) (hm : Mod (fun k => k = b) w W) :
    Wrote T b row (xs ++ ys) w (W.setRow g (cur.toList.take xs.length ++ ys ++ cur.toList.drop (xs.length + ys.length)).toArray) := by
  have hsz : (cur.toList.take xs.length ++ ys ++ cur.toList.drop (xs.length + ys.length)).toArray.size = cap := by
    rw [hx]
    simp only [List.size_toArray, List.length_append, List.length_drop, Array.length_toList]
    omega
  refine ⟨some g, Buf.mk_ (n := xs.length + ys.length) (c := cap) (lr := 0) ?_ (setRow_heap W g cur _ _ _ hg) hsz hn (by simpa [maxLen] using hc) hgb ?_, ?_, ?_⟩
  · exact (setRow_other W g b _ (Ne.symm hgb)).trans hb
  · rw [List.toList_toArray, hx, List.take_append_of_le_length (by rw [List.length_append]; exact Nat.le_refl _), List.take_of_length_le (by rw [List.length_append]; exact Nat.le_refl _)]
  · rcases hr with h | h
    · exact .inl h.symm
    · exact .inr ⟨g, h, rfl⟩
  · refine (hm.mono (T := fun k => k = b ∨ some k = row) fun k _ h => .inl h).setRow (fun hlt => ?_) _
    rcases hr with h | h
    · exact .inr h.symm
    · omega
set_option maxRecDepth 100000 in
set_option maxHeartbeats 1000000 in
theorem write_some (T : TypeId) (b : Nat) (row : Option Nat) (xs : List Value) (a o c : Nat) (ys : List Value) (n : Nat) (w : World) (h : Buf T w b row xs) (hn : ys.length = n) (hn0 : 0 < n) (hy : Reads w 1 (some ⟨a, o, none⟩) n ys) (hab : a ≠ b) (har : some a ≠ row) (h1 : ∀ v ∈ xs, v.oneCell' = true) (h1y : ∀ v ∈ ys, v.oneCell' = true) (hlim : xs.length + n ≤ 140737488355328) :
    Calls Tryd.prog 55 #[.pointer (some ⟨b, 0, none⟩), .slice (some ⟨a, o, none⟩) n c] w fun e w' => e = .returned (.tuple #[.int .i64 (n : Int), .nilIface]) ∧ Wrote T b row (xs ++ ys) w w' := by
  obtain ⟨V, cv, lr, hb, ho, hrow, hne⟩ := h
  have c2 : w.cell? ⟨b, 2, none⟩ = some (.int .i8 lr) := hb.cell 2
  have f2 : w.frozen? ⟨b, 2, none⟩ = false := hb.free 2
  have hlt := hb.lt
  have hb1 : Blk (w.setCell ⟨b, 2, none⟩ (.int .i8 0)) b T #[.slice V xs.length cv, .int .i64 0, .int .i8 0] := hb.put 2 _
  have hm1 : Mod (fun k => k = b) w (w.setCell ⟨b, 2, none⟩ (.int .i8 0)) := (Mod.refl (fun k => k = b) w).set (p := ⟨b, 2, none⟩) (fun _ => rfl) _
  have ho1 : (w.setCell ⟨b, 2, none⟩ (.int .i8 0)).ownsRow 0 5 1 (.slice V xs.length cv) xs.length xs := World.ownsRow.kept ho (only_set (only_refl w (some b)) 2 _) (.inr (by rw [hrow]; exact hne))
  have halt : a < w.heap.size := by
    obtain ⟨ad, e, hb, _⟩ := hy.2 hn0
    injection e with e
    subst e
    exact hb
  have hroom : cv < xs.length + n ∨ (xs.length + n ≤ cv ∧ cv ≤ 9223372036854775807 ∧ (∃ g, V = some ⟨g, 0, none⟩) ∧ Roomy T b row n xs w ((w.setCell ⟨b, 2, none⟩ (.int .i8 0)).setCell ⟨b, 0, none⟩ (.slice V (xs.length + n) cv))) := by
    rcases Nat.lt_or_ge cv (xs.length + n) with h | h
    · exact .inl h
    · refine .inr ⟨h, ?_⟩
      rcases ho1.2 with ⟨e, hl⟩ | ⟨g, c', cur, e, _, hg, hnc, hcm, hcs, htk⟩
      · injection e with e1 e2 e3
        omega
      · injection e with e1 e2 e3
        subst e1 e3
        have hgb : g ≠ b := by
          rintro rfl
          exact hne (by rw [← hrow]; simp [Value.ownBlock])
        unfold maxLen at hcm
        refine ⟨hcm, ⟨g, rfl⟩, g, cv, cur, hb1.put 0 _, ?_, by simpa using hcs, by simpa using htk, h, hcm, hgb, .inl (by rw [← hrow]; simp [Value.ownBlock]), hm1.set (p := ⟨b, 0, none⟩) (fun _ => rfl) _⟩
        rw [Below.heap_setCell _ _ _ _ hgb]
        exact hg
  -- the copy, in whatever world there is room
  have hcopy : ∀ W, Roomy T b row n xs w W → ∃ g cap, W.cell? ⟨b, 0, none⟩ = some (.slice (some ⟨g, 0, none⟩) (xs.length + n) cap) ∧ cap ≠ xs.length ∧ xs.length + n ≤ cap ∧ cap ≤ 9223372036854775807 ∧
      ∃ W', (Builtin.copy_ #[27, 27] 3 #[.slice (some ⟨g, xs.length, none⟩) n (cap - xs.length), .slice (some ⟨a, o, none⟩) n c]).run Tryd.prog W = .ok (goInt n) W' ∧ Wrote T b row (xs ++ ys) w W' := by
    rintro W ⟨g, cap, cur, hbW, hg, hcs, htk, hnc, hcm, hgb, hr, hM⟩
    have hga : a ≠ g := by
      rcases hr with h | h
      · rintro rfl
        exact har h.symm
      · omega
    have hyW : Reads W 1 (some ⟨a, o, none⟩) n ys := hy.mod hM fun ad e => by
      injection e with e
      subst e
      exact hab
    refine ⟨g, cap, hbW.cell 0, by omega, hnc, hcm, W.setRow g (cur.toList.take xs.length ++ ys ++ cur.toList.drop (xs.length + ys.length)).toArray, ?_, ?_⟩
    · have := run_copy_row (P := Tryd.prog) W 27 27 3 5 g xs.length n (cap - xs.length) ⟨a, o, none⟩ n c cur 5 ys Tryd.underlying27 size_u8 hg (by rw [hn]; exact (Nat.min_self n).symm) (fun j v hj => by
        obtain ⟨ad, e, _, hc⟩ := hyW.2 hn0
        injection e with e
        subst e
        exact hc j v hj) (by rw [hn]; omega) h1y
      rw [hn] at this
      rw [hn]
      exact this
    · subst hn
      exact wrote_end hbW hg hcs htk hnc hcm hgb hr hM
  have HR := Lib.hid hrow
  have HN := Lib.hid hn
  have HC := Lib.hid hcopy
  have HG := fun hk => Lib.hid (grow_any T b row V cv n xs w _ hm1 hlt hb1 ho1 h1 hk hlim)
  have hV := own_slice ho
  obtain ⟨V', cv', e, hnc, hcm⟩ := hV
  injection e with e1 _ e2
  subst e1 e2
  unfold maxLen at hcm
  clear hcopy hrow hn ho ho1 hb hm1 hne hy
  rcases hroom with hlt2 | ⟨hle, _, ⟨g, rfl⟩, hroom⟩
  · have HG2 := HG hlt2
    clear HG
    go_enter Tryd.func55, Tryd.ntmps55
    go_wp2_with fail
    refine (reslice_full T b V xs.length cv n 0 _ hb1 hnc hlt2 hcm).mono ?_
    rintro e w2 ⟨rfl, rfl⟩
    go_wp2_with fail
    refine HG2.out.mono ?_
    rintro e W ⟨rfl, hr⟩
    obtain ⟨g, cap, d0, hcn, hnc2, hcm2, W', hrun, hw⟩ := HC.out W hr
    have HW := Lib.hid hw
    clear hw hr
    go_wp2_with fail
    go_ret2
    exact ⟨rfl, HW.out⟩
  · clear HG
    go_enter Tryd.func55, Tryd.ntmps55
    go_wp2_with fail
    refine (reslice_room T b (some ⟨g, 0, none⟩) xs.length cv n 0 _ hb1 (fun e => by cases e) (fun ad e => ⟨g, by injection e with e; exact e.symm⟩) hle hcm).mono ?_
    rintro e W ⟨rfl, hW⟩
    rw [← hW] at hroom
    clear hW
    obtain ⟨g, cap, d0, hcn, hnc2, hcm2, W', hrun, hw⟩ := HC.out W hroom
    have HW := Lib.hid hw
    clear hw hroom
    go_wp2_with fail
    go_ret2
    exact ⟨rfl, HW.out⟩
end Go.Proofs.YtcklbhplhpohpaaDoor
