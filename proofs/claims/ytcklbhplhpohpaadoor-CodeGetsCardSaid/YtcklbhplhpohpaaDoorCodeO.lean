/- The reader's Raw. -/
import Derived.Test.YtcklbhplhpohpaaDoorCodeN
namespace Go.Proofs.YtcklbhplhpohpaaDoor
open Go.RowKit

theorem three_new (w : World) (t1 t2 t3 : TypeId) (v1 v2 v3 : Value) : Blk (((w.alloc (.cells #[v1] t1)).alloc (.cells #[v2] t2)).alloc (.cells #[v3] t3)) w.heap.size t1 #[v1] ∧ Blk (((w.alloc (.cells #[v1] t1)).alloc (.cells #[v2] t2)).alloc (.cells #[v3] t3)) (w.heap.size + 1) t2 #[v2] ∧
    Blk (((w.alloc (.cells #[v1] t1)).alloc (.cells #[v2] t2)).alloc (.cells #[v3] t3)) (w.heap.size + 1 + 1) t3 #[v3] ∧ Below w.heap.size w (((w.alloc (.cells #[v1] t1)).alloc (.cells #[v2] t2)).alloc (.cells #[v3] t3)) := by
  obtain ⟨h1, h2, h3⟩ := two_new w t1 t2 v1 v2
  refine ⟨h1.alloc _, h2.alloc _, ?_, h3.alloc (by simp; omega) _⟩
  have := Blk.new ((w.alloc (.cells #[v1] t1)).alloc (.cells #[v2] t2)) t3 #[v3]
  rw [alloc_size, alloc_size] at this
  exact this

set_option maxHeartbeats 400000 in
theorem raw_ok (r : Nat) (A : Option Addr) (c : Nat) (l : List UInt8) (p n : Nat) (w : World) (h : RdB w r A c l p false) (hlt : p + n ≤ l.length) (hn : n ≤ 140737488355328) :
    Calls Tryd.prog 38 #[.pointer (some ⟨r, 0, none⟩), .int .i64 (n : Int)] w fun e w' => (∃ A' c', e = .returned (.slice A' n c') ∧ Bytes w' A' ((l.drop p).take n)) ∧ RdB w' r A c l (p + n) false ∧ w.grownBy w' (some r) := by
  have hmf : ∀ (fn : Fn) (first cap : Array Value) (w : World), (Instr.makeFunc fn first cap).run Tryd.prog w = .ok (.func fn first cap) w := fun _ _ _ _ => rfl
  obtain ⟨ha, hm, hb, hbel⟩ := three_new w 41 3 27 (.pointer (some ⟨r, 0, none⟩)) (.int .i64 (n : Int)) (.slice none 0 0)
  have hs : (((w.alloc (.cells #[.pointer (some ⟨r, 0, none⟩)] 41)).alloc (.cells #[.int .i64 (n : Int)] 3)).alloc (.cells #[.slice none 0 0] 27)).heap.size = w.heap.size + 1 + 1 + 1 := by simp
  have HG := Lib.hid (part_good 56 #[.pointer (some ⟨w.heap.size, 0, none⟩), .pointer (some ⟨w.heap.size + 1, 0, none⟩), .pointer (some ⟨w.heap.size + 1 + 1, 0, none⟩)] (fun _ _ => rfl) r A c l p _ (h.below hbel)
    (fun w' => RdB w' r A c l (p + n) false ∧ (∃ A' c', Blk w' (w.heap.size + 1 + 1) 27 #[.slice A' n c'] ∧ w'.ownsRow (w.heap.size + 1 + 1 + 1) 5 1 (.slice A' n c') n (((l.drop p).take n).map bv)) ∧ w.grownBy w' (some r)) fun W hW => by
      have hrl := h.lt
      have hWs := hW.size
      refine (raw_way r w.heap.size (w.heap.size + 1) (w.heap.size + 1 + 1) A c l p n false W ((h.below hbel).below hW) _ (ha.below hW (by omega)) (hm.below hW (by omega)) (hb.below hW (by omega)) (by omega) (fun ad e => by have := h.al ad e; omega) hlt hn).mono ?_
      rintro e w' ⟨rfl, h1, ⟨A', c', h2, h2'⟩, h3⟩
      exact ⟨rfl, h1, ⟨A', c', h2, base_le h2' (by omega)⟩, (h3.after (hbel.trans (hW.mono (by omega))) (Nat.le_refl _)).grown (by omega)⟩)
  have HL := Lib.hid h.lt
  have HA := Lib.hid h.al
  clear ha hm hb hbel hs
  go_enter Tryd.func38, Tryd.ntmps38
  go_wp2_with fail
  refine HG.out.mono ?_
  rintro e w3 ⟨rfl, hR, ⟨A', c', hb3, hown⟩, hg⟩
  have b0 := hb3.cell 0
  have bf := hb3.free 0
  simp only [List.getElem?_toArray, List.getElem?_cons_zero] at b0
  go_wp2_with fail
  have hb4 := (hb3.put0 (.slice A' n c')).cell 0
  simp only [List.getElem?_toArray, List.getElem?_cons_zero] at hb4
  have h1 := HL.out
  refine bodyPost_ret (v := .slice A' n c') (by simp [results, Tryd.results38, go_sem, hb4]) rfl ?_
  have hk := World.ownsRow.kept hown (only_set (only_refl w3 (some (w.heap.size + 1 + 1))) 0 (.slice A' n c')) (by
    cases A' with
    | none => exact .inl rfl
    | some ad =>
      have := (row_at_head hown ad rfl).2.2.1
      refine .inr ?_
      simp only [Value.ownBlock, ne_eq, Option.some.injEq]
      omega)
  exact ⟨⟨A', c', rfl, own_bytes hk⟩, hR.far (by omega) (fun ad e => by have := HA.out ad e; omega) 0 _, only_far hg (by omega) 0 _⟩

set_option maxHeartbeats 400000 in
theorem raw_bad (r : Nat) (A : Option Addr) (c : Nat) (l : List UInt8) (p : Nat) (n : Int) (w : World) (h : RdB w r A c l p false) (hlt : n < 0 ∨ (l.length : Int) - p < n) :
    Calls Tryd.prog 38 #[.pointer (some ⟨r, 0, none⟩), .int .i64 n] w fun e w' => e = .returned (.slice none 0 0) ∧ RdB w' r A c l p true ∧ w.grownBy w' (some r) := by
  have hmf : ∀ (fn : Fn) (first cap : Array Value) (w : World), (Instr.makeFunc fn first cap).run Tryd.prog w = .ok (.func fn first cap) w := fun _ _ _ _ => rfl
  obtain ⟨ha, hm, hb, hbel⟩ := three_new w 41 3 27 (.pointer (some ⟨r, 0, none⟩)) (.int .i64 n) (.slice none 0 0)
  have hs : (((w.alloc (.cells #[.pointer (some ⟨r, 0, none⟩)] 41)).alloc (.cells #[.int .i64 n] 3)).alloc (.cells #[.slice none 0 0] 27)).heap.size = w.heap.size + 1 + 1 + 1 := by simp
  have HG := Lib.hid (part_bad 56 #[.pointer (some ⟨w.heap.size, 0, none⟩), .pointer (some ⟨w.heap.size + 1, 0, none⟩), .pointer (some ⟨w.heap.size + 1 + 1, 0, none⟩)] (fun _ _ => rfl) r A c l p _ (h.below hbel)
    (fun w' => Blk w' (w.heap.size + 1 + 1) 27 #[.slice none 0 0] ∧ w.grownBy w' (some r)) fun W hW => by
      have hrl := h.lt
      have hWs := hW.size
      refine (raw_stop r w.heap.size (w.heap.size + 1) _ A c l p n false W ((h.below hbel).below hW) (ha.below hW (by omega)) (hm.below hW (by omega)) hlt).mono ?_
      rintro e w' ⟨rfl, h1, h2⟩
      exact ⟨rfl, ⟨_, h1⟩, fun k hk hkW => h2.block k hkW (by simp; omega), (hb.below hW (by omega)).grown h2 (by simp; omega), only_below (hbel.trans (hW.mono (by omega))) (Nat.le_refl _) h2⟩)
  have HL := Lib.hid h.lt
  have HA := Lib.hid h.al
  clear ha hm hb hbel hs hlt
  go_enter Tryd.func38, Tryd.ntmps38
  go_wp2_with fail
  refine HG.out.mono ?_
  rintro e w3 ⟨rfl, hR, w2, ⟨hb2, hg2⟩, hw3⟩
  have h1 := HL.out
  have hb3 : Blk w3 (w.heap.size + 1 + 1) 27 #[.slice none 0 0] := by rw [hw3]; exact (hb2.far (by simp; omega) _).far (by simp; omega) _
  have hg : w.grownBy w3 (some r) := by rw [hw3]; exact only_set (only_set hg2 1 _) 2 _
  have b0 := hb3.cell 0
  have bf := hb3.free 0
  simp only [List.getElem?_toArray, List.getElem?_cons_zero] at b0
  clear hw3 hb2 hg2 h1
  go_wp2_with fail
  have hb4 := (hb3.put0 (.slice none 0 0)).cell 0
  simp only [List.getElem?_toArray, List.getElem?_cons_zero] at hb4
  have h1 := HL.out
  refine bodyPost_ret (v := .slice none 0 0) (by simp [results, Tryd.results38, go_sem, hb4]) rfl ?_
  exact ⟨rfl, hR.far (by omega) (fun ad e => by have := HA.out ad e; omega) 0 _, only_far hg (by omega) 0 _⟩
end Go.Proofs.YtcklbhplhpohpaaDoor
