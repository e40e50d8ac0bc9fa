/- Rows of replies; the document's Cursor. -/
import Derived.Test.YtpjmolnkmlpfeaaGreatDoorJQ
import Derived.Test.YtpjmolnkmlpfeaaGreatDoorJuLk
namespace Go.Proofs.YtpjmolnkmlpfeaaGreatDoor
set_option linter.unusedVariables false
set_option linter.unusedSimpArgs false
set_option maxRecDepth 100000
open Go.RowKit

/-- A row of replies of one's own. -/
def OwR (B : Nat) (w : World) (v : Value) (L : List ReV) : Prop := w.ownsRow B 32 9 v L.length (L.flatMap reL)
theorem reply_ty : SliceTy Tryz.prog 56 32 9 88 := SliceTy.mk Tryz.underlying56 (z := .agg (reL zReV).toArray) (by kernel_rfl) rfl
theorem flatR_len (L : List ReV) : (L.flatMap reL).length = L.length * 9 := by
  induction L with
  | nil => rfl
  | cons x L ih => rw [List.flatMap_cons, List.length_append, ih, reL_len, List.length_cons]; omega
theorem owr_new {B : Nat} (W : World) (L : List ReV) (hB : B ≤ W.heap.size) (hn : L.length ≤ 1000000) : OwR B (W.alloc (.cells (L.flatMap reL).toArray 32)) (.slice (some ⟨W.heap.size, 0, none⟩) L.length L.length) L := by
  refine ⟨flatR_len L, .inr ⟨W.heap.size, L.length, (L.flatMap reL).toArray, rfl, hB, heap_alloc_new W _, Nat.le_refl _, by unfold maxLen; omega, ?_, ?_⟩⟩
  · rw [List.size_toArray, flatR_len]
  · rw [← flatR_len, List.take_length]
theorem setL_one {xs : List Value} {o : Nat} {u : Value} (h : o < xs.length) : setL xs o [u] = xs.set o u := by
  unfold setL
  rw [List.set_eq_take_append_cons_drop, if_pos h, List.append_assoc]
  rfl
theorem reL_one {L : List ReV} (h : ∀ x ∈ L, x.v.oneCell' = true) : ∀ u ∈ L.flatMap reL, u.oneCell' = true := by
  intro u hu
  obtain ⟨x, hx, hu⟩ := List.mem_flatMap.1 hu
  exact repL_one (R := x.r) (h x hx) u hu
/-- One cell of it is written. -/
theorem row_set {w : World} {B g n c : Nat} {L : List ReV} (h : OwR B w (.slice (some ⟨g, 0, none⟩) n c) L) (hn : n = L.length) {i j o : Nat} (hi : i < L.length) (hj : j < 9) (ho : o = i * 9 + j) (u : Value) (y : ReV) (hy : (reL L[i]).set j u = reL y) :
    w.cell? ⟨g, o, none⟩ = (reL L[i])[j]? ∧ w.frozen? ⟨g, o, none⟩ = false ∧ OwR B (w.setCell ⟨g, o, none⟩ u) (.slice (some ⟨g, 0, none⟩) n c) (L.set i y) ∧ Mod (fun b => b = g) w (w.setCell ⟨g, o, none⟩ u) := by
  subst ho hn
  have hm : Mod (fun b => b = g) w (w.setCell ⟨g, i * 9 + j, none⟩ u) := Mod.set (S := fun b => b = g) (Mod.refl _ _) (p := ⟨g, i * 9 + j, none⟩) (fun _ => rfl) _
  obtain ⟨b, o, e, hb, hr⟩ := rows_range reL_len (by decide) (Reads.of_own h) hi
  injection e with e
  injection e with e1 e2
  subst e1 e2
  have hcell : w.cell? ⟨g, i * 9 + j, none⟩ = (reL L[i])[j]? := by
    have hl : j < (reL L[i]).length := by rw [reL_len]; exact hj
    rw [List.getElem?_eq_getElem hl]
    have := hr j _ (List.getElem?_eq_getElem hl)
    rw [Nat.zero_add] at this
    exact this
  have key : ∃ cur, Blk w g 32 cur := by
    rcases h.2 with ⟨e, _⟩ | ⟨g2, cap, cur, e, _, hB, _⟩
    · cases e
    · injection e with e
      injection e with e
      injection e with e
      subst e
      exact ⟨cur, hB⟩
  obtain ⟨cur, hB⟩ := key
  refine ⟨hcell, hB.free _, ?_, hm⟩
  have hp := own_puts (vs := [u]) (o := i * 9 + j) h hB (hB.puts [u] (i * 9 + j)) (by simp only [List.length_cons, List.length_nil]; omega)
  have hf := flat_setL reL_len L i j hi [u] y (by simp only [List.length_cons, List.length_nil]; omega) (by rw [← hy]; exact setL_one (by rw [reL_len]; exact hj))
  rw [hf] at hp
  show World.ownsRow _ _ _ _ _ _ _
  rw [List.length_set]
  exact hp
/-- A cursor's place. -/
def curS (M : Mdl) (s : Int) : Nat := if 1 ≤ s ∧ s ≤ 3 then M.cur.getD (s - 1).toNat 0 else 0
set_option maxRecDepth 100000 in
set_option maxHeartbeats 4000000 in
theorem rcursor_any {K : Nat → Prop} {w : World} {vl vc : Value} {M : Mdl} (h : SlU K w vc M.cur) (hv : vl.oneCell' = true) (s : Int) (hs : -9223372036854775808 ≤ s) :
    Calls Tryz.prog 33 #[.agg (mdL M vl vc).toArray, .int .i64 s] w fun e w' => e = .returned (.int .u64 (curS M s : Nat)) ∧ Below w.heap.size w w' := by
  obtain ⟨A, c, rfl, hr, h1, h2, _⟩ := h
  obtain ⟨n, hn⟩ : ∃ n, n = M.cur.length := ⟨_, rfl⟩
  rw [← hn] at hr ⊢
  have hB1 : Blk (w.alloc (.cells (mdL M vl (.slice A n c)).toArray 45)) w.heap.size 45 (mdL M vl (.slice A n c)).toArray := Blk.new _ _ _
  have HT := Lib.hid (below_new w (.cells (mdL M vl (.slice A n c)).toArray 45))
  have c2 := (hB1.cell 2).trans (rfl : _ = some (Value.slice A n c))
  have HR := Lib.hid hr
  have HN := Lib.hid hn
  clear hB1 hr hn
  by_cases hb : 1 ≤ s ∧ s ≤ 3 ∧ s ≤ n
  · obtain ⟨k, hk, hk3⟩ : ∃ k : Nat, s = (k : Int) + 1 ∧ k < 3 := ⟨(s - 1).toNat, by omega, by omega⟩
    subst hk
    have hkn : k < n := by omega
    obtain ⟨b, o, rfl, hbl, hc⟩ := Reads.flat HR.out (by omega) (by decide)
    have hlt : k < M.cur.length := by rw [← HN.out]; exact hkn
    have hg : (M.cur.map u64v)[k]? = some (.int .u64 ((M.cur[k] : Nat) : Int)) := by rw [List.getElem?_map, List.getElem?_eq_getElem hlt]; rfl
    have hcell := (below_new w (.cells (mdL M vl (.slice (some ⟨b, o, none⟩) n c)).toArray 45)).cell (p := ⟨b, o + k, none⟩) hbl |>.trans (hc k _ hg)
    have HP : Hid (curS M ((k : Int) + 1) = M.cur[k]) := by
      show _ = _
      unfold curS
      rw [if_pos (by omega), show ((k : Int) + 1 - 1).toNat = k by omega, List.getD_eq_getElem?_getD, List.getElem?_eq_getElem hlt]
      rfl
    have d1 : decide ((k : Int) + 1 < 1) = false := decide_eq_false (by omega)
    have d2 : decide (3 < (k : Int) + 1) = false := decide_eq_false (by omega)
    have d3 : decide ((n : Int) < (k : Int) + 1) = false := decide_eq_false (by omega)
    have hw : IntKind.i64.wrap ((k : Int) + 1 - 1) = (k : Int) := by rw [IntKind.wrap_i64]; omega
    have hw1 : (k : Int) + 1 - 1 = (k : Int) := by omega
    have hw2 : IntKind.i64.wrap (k : Int) = (k : Int) := by rw [IntKind.wrap_i64]; omega
    have hx0 : (k : Int) < (n : Int) := by omega
    generalize M.cur[k] = x at hcell HP
    clear hb hc hg hs h1 h2
    go_enter Tryz.func33, Tryz.ntmps33
    go_wp2_with fail
    go_ret
    exact ⟨by rw [HP.out]; rfl, HT.out⟩
  · have HP : Hid (curS M s = 0) := by
      show _ = _
      unfold curS
      by_cases h : 1 ≤ s ∧ s ≤ 3
      · rw [if_pos h, List.getD_eq_getElem?_getD, List.getElem?_eq_none (by rw [← HN.out]; omega)]
        rfl
      · rw [if_neg h]
    by_cases h5 : s < 1
    · have d1 : decide (s < 1) = true := decide_eq_true h5
      clear hb hs h1 h2 h5
      go_enter Tryz.func33, Tryz.ntmps33
      go_wp2_with fail
      go_ret
      exact ⟨by rw [HP.out]; rfl, HT.out⟩
    · have d1 : decide (s < 1) = false := decide_eq_false h5
      by_cases h6 : 3 < s
      · have d2 : decide (3 < s) = true := decide_eq_true h6
        clear hb hs h1 h2 h5 h6
        go_enter Tryz.func33, Tryz.ntmps33
        go_wp2_with fail
        go_ret
        exact ⟨by rw [HP.out]; rfl, HT.out⟩
      · have d2 : decide (3 < s) = false := decide_eq_false h6
        have d3 : decide ((n : Int) < s) = true := decide_eq_true (by omega)
        clear hb hs h1 h2 h5 h6
        go_enter Tryz.func33, Tryz.ntmps33
        go_wp2_with fail
        go_ret
        exact ⟨by rw [HP.out]; rfl, HT.out⟩
end Go.Proofs.YtpjmolnkmlpfeaaGreatDoor
