/- A packet, opened as an argument. -/
import Derived.Test.YtdckdjkkaangmaaDoorJF
import Derived.Test.YtdckdjkkaangmaaDoorJG
import Derived.Deep.Slices
import Derived.Deep.Fields
import Derived.SizedLaws
namespace Go.Proofs.YtdckdjkkaangmaaDoor
set_option linter.unusedVariables false
set_option linter.unusedSimpArgs false
set_option maxRecDepth 100000
open Go.ChangeShapes Go.WideShapes Go.ChangeAt Go.RowKit Go.Deep

section
variable {H : Type} {enc : TypeId × Value → H} {P : Program} {W : World} {base : Nat} {spare : Nat → Bool} {held : Bool}
/-- A field of a struct. -/
theorem trod_field {t : TypeId} {fs : Array Field} {fuel : Nat} {cs : List Value} {x : DataW H × List MemPlace} (hs : P.underlying t = some (.struct fs)) (h : DataW.trod enc P W base spare held fuel t cs = some x) (hsz : ∀ y ∈ x.1.weights P t, y ≤ reachBytes) {i : Nat} {f : Field} (hf : fs[i]? = some f) :
    ∃ n y, DataW.trod enc P W base spare held n f.type ((cs.drop f.offset).take (P.cellsOf f.type)) = some y ∧ ∀ z ∈ y.1.weights P f.type, z ≤ reachBytes := by
  obtain ⟨xs, n, _, hx1, _, hl, hx⟩ := DataW.trod_struct hs h
  have hi : i < xs.length := by rw [hl]; exact (Array.getElem?_eq_some_iff.1 hf).1
  exact ⟨n, xs[i], by rw [hx i f hf, List.getElem?_eq_getElem hi], field_weigh hs (d := x.1) (xs := xs) (by rw [hx1]) hsz hf (List.getElem?_eq_getElem hi)⟩
/-- A field of a field of a struct: one cell. -/
theorem trod_cell {t u : TypeId} {fs gs : Array Field} {fuel : Nat} {cs : List Value} {x : DataW H × List MemPlace} (hs : P.underlying t = some (.struct fs)) (h : DataW.trod enc P W base spare held fuel t cs = some x) (hsz : ∀ y ∈ x.1.weights P t, y ≤ reachBytes) {i j : Nat} {f g : Field} (hf : fs[i]? = some f) (hu : P.underlying f.type = some (.struct gs)) (hg : gs[j]? = some g) (h1 : P.cellsOf g.type = 1)
    (hj : g.offset < P.cellsOf f.type) (ht : g.type = u) {o : Nat} (ho : f.offset + g.offset = o) {v : Value} (hv : cs[o]? = some v) : ∃ n y, DataW.trod enc P W base spare held n u [v] = some y ∧ ∀ z ∈ y.1.weights P u, z ≤ reachBytes := by
  obtain ⟨n, y, h2, h2w⟩ := trod_field hs h hsz hf
  obtain ⟨m, z, h3, h3w⟩ := trod_field hu h2 h2w hg
  rw [ht] at h3w
  refine ⟨m, z, ?_, h3w⟩
  rw [h1, ht] at h3
  have e : (((cs.drop f.offset).take (P.cellsOf f.type)).drop g.offset).take 1 = [v] := by
    have h4 : ((cs.drop f.offset).take (P.cellsOf f.type))[g.offset]? = some v := by
      rw [List.getElem?_take, if_pos hj, List.getElem?_drop, ho]
      exact hv
    obtain ⟨h5, h6⟩ := List.getElem?_eq_some_iff.1 h4
    rw [List.drop_eq_getElem_cons h5, h6]
    rfl
  rw [e] at h3
  exact h3
theorem cell_int {u : TypeId} {k : IntKind} {r : Reach} {b0 : Nat} {v : Value} (hu : P.underlying u = some (.int k)) (h : Cell.okWide P W r b0 u v) : ∃ n, v = .int k n ∧ k.has n := by
  simp only [Cell.okWide, hu, Cell.ok] at h
  cases v <;> simp_all
theorem cell_slice {u e : TypeId} {r : Reach} {b0 : Nat} {v : Value} (hu : P.underlying u = some (.slice e)) (h : Cell.okWide P W r b0 u v) : ∃ A n c, v = .slice A n c ∧ ∀ ad, A = some ad → ad.block < W.heap.size := by
  simp only [Cell.okWide, hu, Cell.ok] at h
  cases v with
  | slice A n c =>
    refine ⟨A, n, c, rfl, fun ad e => ?_⟩
    subst e
    obtain ⟨_, _, h3⟩ := h
    obtain ⟨_, _, row, cells, h4, _⟩ := h3
    unfold World.shape? at h4
    cases hb : W.heap[ad.block]? with
    | none => rw [hb] at h4; cases h4
    | some o => exact (Array.getElem?_eq_some_iff.1 hb).1
  | _ => simp_all
/-- Numbers that came in. -/
theorem nums_weigh {t e : TypeId} {fuel : Nat} {cs : List Value} {x : DataW H × List MemPlace} (ht : P.underlying t = some (.slice e)) (he : P.underlying e = some (.int .u64)) (hc : P.cellsOf e = 1) (hB : P.bytesOf e = 8)
    (hf : DataW.trod enc P W base spare held fuel t cs = some x) (hsz : ∀ y ∈ x.1.weights P t, y ≤ reachBytes) :
    ∃ (A : Option Addr) (l : List Nat) (c : Nat), cs = [.slice A l.length c] ∧ Keeps W A l ∧ l.length ≤ c ∧ c ≤ 9223372036854775807 ∧ l.length ≤ 140737488351232 ∧ ∀ y ∈ l, y < 18446744073709551616 := by
  rcases open_ints ht he hc hf with ⟨rfl, rfl⟩ | ⟨a, len0, cap0, zs, rfl, _, hl, hm, hz, rfl, hcell, hwz⟩
  · exact ⟨none, [], 0, rfl, Reads.nil_ _ _ _, Nat.le_refl _, by omega, by simp, fun y h => by cases h⟩
  · have hlz : len0 ≤ zs.length := by split at hz <;> omega
    have hlen : ((zs.take len0).map fun n => n.toNat).length = len0 := by
      rw [List.length_map, List.length_take]
      omega
    have hu64 : ∀ n ∈ zs, 0 ≤ n ∧ n < 18446744073709551616 := fun n hn => by
      have h := hwz n hn
      simp [Lit.wf, IntKind.min, IntKind.max, IntKind.signed, IntKind.bits] at h
      omega
    refine ⟨some a, (zs.take len0).map fun n => n.toNat, cap0, by rw [hlen], ?_, by rw [hlen]; exact hl, by simpa [maxLen] using hm, ?_, fun y hy => ?_⟩
    · refine ⟨by simp, fun hn => ⟨a, rfl, ?_, fun j u hu => ?_⟩⟩
      · rw [hlen] at hn
        have h0 := hcell 0 (by omega)
        have := World.block_lt_of_cell? W _ h0
        rwa [add_block] at this
      · rw [List.getElem?_map, List.getElem?_map] at hu
        cases hj : (zs.take len0)[j]? with
        | none => rw [hj] at hu; cases hu
        | some n =>
          rw [hj] at hu
          simp only [Option.map_some, Option.some.injEq] at hu
          have hjz : zs[j]? = some n := by
            rw [List.getElem?_take] at hj
            split at hj
            · exact hj
            · cases hj
          have hjl := (List.getElem?_eq_some_iff.1 hjz).1
          have h1 := hcell j hjl
          rw [List.getD_eq_getElem?_getD, hjz] at h1
          have hb := hu64 n (List.mem_of_getElem? hjz)
          rw [h1, ← hu]
          unfold u64v
          simp only [Option.getD_some, Option.some.injEq, Value.int.injEq, true_and]
          omega
    · have := hsz (((lits .u64 (zs.take len0) : List (DataW H)).length + (lits .u64 (zs.drop len0) : List (DataW H)).length) * P.bytesOf e) (by
        simp only [DataW.weights, ht]
        exact List.mem_cons_self ..)
      rw [hB] at this
      simp only [lits, List.length_map, List.length_take, reachBytes] at this
      rw [hlen]
      omega
    · obtain ⟨n, hn, rfl⟩ := List.mem_map.1 hy
      have := hu64 n (List.mem_of_mem_take hn)
      omega
end
/-- A packet's cells as they come: its texts and its list are of any length. -/
structure PkA (w : World) (cs : Array Value) (P : Pk) : Prop where
  size : cs.size = 56
  kind : cs[0]? = some (.int .i64 (P.n 0)) ∧ -9223372036854775808 ≤ P.n 0 ∧ P.n 0 < 9223372036854775808
  ints : ∀ o ∈ intOffs, cs[o]? = some (.int .i64 (P.n o)) ∧ -9223372036854775808 ≤ P.n o ∧ P.n o < 9223372036854775808
  nums : ∀ o ∈ numOffs, cs[o]? = some (.int .u64 (P.n o)) ∧ 0 ≤ P.n o ∧ P.n o < 18446744073709551616
  txts : ∀ o ∈ txtOffs, ∃ A c, cs[o]? = some (.slice A (P.t o).length c) ∧ Bytes w A (P.t o) ∧ (P.t o).length ≤ c ∧ c ≤ 9223372036854775807 ∧ (P.t o).length ≤ 140737488355328
  keep : ∃ A c, cs[28]? = some (.slice A P.k.length c) ∧ Keeps w A P.k ∧ P.k.length ≤ c ∧ c ≤ 9223372036854775807 ∧ P.k.length ≤ 140737488355328
  keeps : ∀ x ∈ P.k, x < 18446744073709551616
  kb : ∀ A n c, cs[28]? = some (.slice A n c) → ∀ ad, A = some ad → ad.block < w.heap.size
theorem PkA.pkv {w : World} {cs : Array Value} {P : Pk} (h : PkA w cs P) (hl : (P.t 6).length + (P.t 18).length + (P.t 27).length + (P.t 37).length + (P.t 46).length + (P.t 55).length + 8 * P.k.length ≤ 40000) : PkV w cs P := by
  obtain ⟨p1, p2, p3, p4, p5, ⟨A, c, q1, q2, q3, q4, q5⟩, p7, p8⟩ := h
  refine ⟨p1, p2, p3, p4, fun o ho => ?_, ⟨A, c, q1, q2, q3, q4, by omega⟩, p7, p8⟩
  obtain ⟨A, c, q1, q2, q3, q4, q5⟩ := p5 o ho
  refine ⟨A, c, q1, q2, q3, q4, ?_⟩
  simp only [txtOffs, List.mem_cons, List.not_mem_nil, or_false] at ho
  rcases ho with rfl | rfl | rfl | rfl | rfl | rfl <;> omega
def pkTypes : List TypeId := [3, 3, 3, 24, 3, 24, 22, 3, 3, 24, 3, 24, 24, 3, 24, 24, 3, 24, 22, 3, 24, 3, 24, 24, 24, 24, 3, 22, 33, 3, 24, 3, 3, 24, 24, 24, 24, 22, 3, 24, 24, 3, 3, 3, 24, 24, 22, 3, 24, 24, 40, 24, 3, 3, 24, 22]
theorem pk_types : Tryd.prog.cellTypes Tryd.prog.depth 44 = some pkTypes := by kernel_rfl
theorem ty_int : ∀ o ∈ intOffs, ∃ u, pkTypes[o]? = some u ∧ Tryd.prog.underlying u = some (.int .i64) := by
  intro o ho
  simp only [intOffs, List.mem_cons, List.not_mem_nil, or_false] at ho
  rcases ho with rfl | rfl | rfl | rfl | rfl | rfl | rfl | rfl | rfl | rfl | rfl | rfl | rfl | rfl | rfl | rfl | rfl | rfl | rfl | rfl | rfl | rfl
  · exact ⟨_, rfl, Tryd.underlying3⟩
  · exact ⟨_, rfl, Tryd.underlying3⟩
  · exact ⟨_, rfl, Tryd.underlying3⟩
  · exact ⟨_, rfl, Tryd.underlying3⟩
  · exact ⟨_, rfl, Tryd.underlying3⟩
  · exact ⟨_, rfl, Tryd.underlying3⟩
  · exact ⟨_, rfl, Tryd.underlying3⟩
  · exact ⟨_, rfl, Tryd.underlying3⟩
  · exact ⟨_, rfl, Tryd.underlying3⟩
  · exact ⟨_, rfl, Tryd.underlying3⟩
  · exact ⟨_, rfl, Tryd.underlying3⟩
  · exact ⟨_, rfl, Tryd.underlying3⟩
  · exact ⟨_, rfl, Tryd.underlying3⟩
  · exact ⟨_, rfl, Tryd.underlying3⟩
  · exact ⟨_, rfl, Tryd.underlying3⟩
  · exact ⟨_, rfl, Tryd.underlying3⟩
  · exact ⟨_, rfl, Tryd.underlying3⟩
  · exact ⟨_, rfl, Tryd.underlying3⟩
  · exact ⟨_, rfl, Tryd.underlying3⟩
  · exact ⟨_, rfl, Tryd.underlying40⟩
  · exact ⟨_, rfl, Tryd.underlying3⟩
  · exact ⟨_, rfl, Tryd.underlying3⟩
theorem ty_num : ∀ o ∈ numOffs, ∃ u, pkTypes[o]? = some u ∧ Tryd.prog.underlying u = some (.int .u64) := by
  intro o ho
  simp only [numOffs, List.mem_cons, List.not_mem_nil, or_false] at ho
  rcases ho with rfl | rfl | rfl | rfl | rfl | rfl | rfl | rfl | rfl | rfl | rfl | rfl | rfl | rfl | rfl | rfl | rfl | rfl | rfl | rfl | rfl | rfl | rfl | rfl | rfl | rfl <;> exact ⟨_, rfl, Tryd.underlying24⟩
section
variable {H : Type} {enc : TypeId × Value → H} {W : World} {base : Nat} {spare : Nat → Bool} {held : Bool} {r : Reach} {b0 : Nat} {v : Value} {d : DataW H} {p : List MemPlace}
set_option maxHeartbeats 4000000 in
theorem open_pk (hv : Value.okWide Tryd.prog W r b0 44 v) (h : DataW.Trod enc Tryd.prog W base spare held 44 v d p) (hsz : ∀ y ∈ d.weights Tryd.prog 44, y ≤ reachBytes) : ∃ cs P, v = .agg cs ∧ PkA W cs P := by
  simp only [Value.okWide, Tryd.underlying44] at hv
  obtain ⟨cs, rfl, hcs, ts, hts, _, hall⟩ := hv
  rw [pk_types] at hts
  injection hts with hts
  subst hts
  have hc56 : cs.size = 56 := hcs.trans (by kernel_rfl)
  have hcell : ∀ o, o < 56 → ∃ u w, pkTypes[o]? = some u ∧ cs[o]? = some w ∧ Cell.okWide Tryd.prog W r b0 u w := fun o ho => by
    have hlt : o < cs.size := by omega
    obtain ⟨u, hu, hok⟩ := hall o cs[o] (Array.getElem?_eq_getElem hlt)
    rw [show o % pkTypes.length = o from Nat.mod_eq_of_lt ho] at hu
    exact ⟨u, cs[o], hu, Array.getElem?_eq_getElem hlt, hok⟩
  have hI : ∀ o ∈ intOffs, cs[o]? = some (.int .i64 (cellN cs o)) ∧ -9223372036854775808 ≤ cellN cs o ∧ cellN cs o < 9223372036854775808 := fun o ho => by
    obtain ⟨u, w, h1, h2, h3⟩ := hcell o (offs_lt.1 o ho).2
    obtain ⟨u', h4, h5⟩ := ty_int o ho
    rw [h1] at h4
    injection h4 with h4
    subst h4
    obtain ⟨n, rfl, h6⟩ := cell_int h5 h3
    rw [cellN_of h2, h2]
    exact ⟨rfl, h6.1, by have := h6.2; simp [IntKind.max, IntKind.signed, IntKind.bits] at this; omega⟩
  have hN : ∀ o ∈ numOffs, cs[o]? = some (.int .u64 (cellN cs o)) ∧ 0 ≤ cellN cs o ∧ cellN cs o < 18446744073709551616 := fun o ho => by
    obtain ⟨u, w, h1, h2, h3⟩ := hcell o (offs_lt.2.1 o ho).2
    obtain ⟨u', h4, h5⟩ := ty_num o ho
    rw [h1] at h4
    injection h4 with h4
    subst h4
    obtain ⟨n, rfl, h6⟩ := cell_int h5 h3
    rw [cellN_of h2, h2]
    exact ⟨rfl, h6.1, by have := h6.2; simp [IntKind.max, IntKind.signed, IntKind.bits] at this; omega⟩
  have h0 : cs[0]? = some (.int .i64 (cellN cs 0)) ∧ -9223372036854775808 ≤ cellN cs 0 ∧ cellN cs 0 < 9223372036854775808 := by
    obtain ⟨u, w, h1, h2, h3⟩ := hcell 0 (by decide)
    injection h1 with h1
    subst h1
    obtain ⟨n, rfl, h6⟩ := cell_int Tryd.underlying3 h3
    rw [cellN_of h2, h2]
    exact ⟨rfl, h6.1, by have := h6.2; simp [IntKind.max, IntKind.signed, IntKind.bits] at this; omega⟩
  have hkb : ∀ A n c, cs[28]? = some (.slice A n c) → ∀ ad, A = some ad → ad.block < W.heap.size := fun A n c e => by
    obtain ⟨u, w, h1, h2, h3⟩ := hcell 28 (by decide)
    injection h1 with h1
    subst h1
    rw [e] at h2
    injection h2 with h2
    subst h2
    obtain ⟨A', n', c', e2, h4⟩ := cell_slice Tryd.underlying33 h3
    injection e2 with e2
    subst e2
    exact h4
  obtain ⟨fuel, hf⟩ := h
  have hl : ∀ o, o < 56 → ∃ w, cs.toList[o]? = some w ∧ cs[o]? = some w := fun o ho => by
    obtain ⟨u, w, _, h2, _⟩ := hcell o ho
    exact ⟨w, by rw [← h2]; simp, h2⟩
  obtain ⟨w6, a6, e6⟩ := hl 6 (by decide)
  obtain ⟨n6, y6, t6, g6⟩ := trod_cell (u := 22) Tryd.underlying44 hf hsz (i := 1) (j := 3) rfl Tryd.underlying28 rfl (by kernel_rfl) (of_decide_eq_true (by kernel_rfl)) rfl rfl a6
  obtain ⟨A6, l6, c6, q6, b6, k6, m6, z6⟩ := bytes_weigh Tryd.underlying22 Tryd.underlying5 (by kernel_rfl) (by kernel_rfl) t6 g6
  simp only [List.cons.injEq, and_true] at q6
  subst q6
  obtain ⟨w18, a18, e18⟩ := hl 18 (by decide)
  obtain ⟨n18, y18, t18, g18⟩ := trod_cell (u := 22) Tryd.underlying44 hf hsz (i := 2) (j := 5) rfl Tryd.underlying30 rfl (by kernel_rfl) (of_decide_eq_true (by kernel_rfl)) rfl rfl a18
  obtain ⟨A18, l18, c18, q18, b18, k18, m18, z18⟩ := bytes_weigh Tryd.underlying22 Tryd.underlying5 (by kernel_rfl) (by kernel_rfl) t18 g18
  simp only [List.cons.injEq, and_true] at q18
  subst q18
  obtain ⟨w27, a27, e27⟩ := hl 27 (by decide)
  obtain ⟨n27, y27, t27, g27⟩ := trod_cell (u := 22) Tryd.underlying44 hf hsz (i := 3) (j := 7) rfl Tryd.underlying35 rfl (by kernel_rfl) (of_decide_eq_true (by kernel_rfl)) rfl rfl a27
  obtain ⟨A27, l27, c27, q27, b27, k27, m27, z27⟩ := bytes_weigh Tryd.underlying22 Tryd.underlying5 (by kernel_rfl) (by kernel_rfl) t27 g27
  simp only [List.cons.injEq, and_true] at q27
  subst q27
  obtain ⟨w37, a37, e37⟩ := hl 37 (by decide)
  obtain ⟨n37, y37, t37, g37⟩ := trod_cell (u := 22) Tryd.underlying44 hf hsz (i := 4) (j := 7) rfl Tryd.underlying37 rfl (by kernel_rfl) (of_decide_eq_true (by kernel_rfl)) rfl rfl a37
  obtain ⟨A37, l37, c37, q37, b37, k37, m37, z37⟩ := bytes_weigh Tryd.underlying22 Tryd.underlying5 (by kernel_rfl) (by kernel_rfl) t37 g37
  simp only [List.cons.injEq, and_true] at q37
  subst q37
  obtain ⟨w46, a46, e46⟩ := hl 46 (by decide)
  obtain ⟨n46, y46, t46, g46⟩ := trod_cell (u := 22) Tryd.underlying44 hf hsz (i := 5) (j := 8) rfl Tryd.underlying39 rfl (by kernel_rfl) (of_decide_eq_true (by kernel_rfl)) rfl rfl a46
  obtain ⟨A46, l46, c46, q46, b46, k46, m46, z46⟩ := bytes_weigh Tryd.underlying22 Tryd.underlying5 (by kernel_rfl) (by kernel_rfl) t46 g46
  simp only [List.cons.injEq, and_true] at q46
  subst q46
  obtain ⟨w55, a55, e55⟩ := hl 55 (by decide)
  obtain ⟨n55, y55, t55, g55⟩ := trod_cell (u := 22) Tryd.underlying44 hf hsz (i := 6) (j := 8) rfl Tryd.underlying42 rfl (by kernel_rfl) (of_decide_eq_true (by kernel_rfl)) rfl rfl a55
  obtain ⟨A55, l55, c55, q55, b55, k55, m55, z55⟩ := bytes_weigh Tryd.underlying22 Tryd.underlying5 (by kernel_rfl) (by kernel_rfl) t55 g55
  simp only [List.cons.injEq, and_true] at q55
  subst q55
  obtain ⟨w28, a28, e28⟩ := hl 28 (by decide)
  obtain ⟨n28, y28, t28, g28⟩ := trod_cell (u := 33) Tryd.underlying44 hf hsz (i := 3) (j := 8) rfl Tryd.underlying35 rfl (by kernel_rfl) (of_decide_eq_true (by kernel_rfl)) rfl rfl a28
  obtain ⟨A28, l28, c28, q28, b28, k28, m28, z28, v28⟩ := nums_weigh Tryd.underlying33 Tryd.underlying24 (by kernel_rfl) (by kernel_rfl) t28 g28
  simp only [List.cons.injEq, and_true] at q28
  subst q28
  refine ⟨cs, { n := cellN cs, t := fun o => if o = 6 then l6 else if o = 18 then l18 else if o = 27 then l27 else if o = 37 then l37 else if o = 46 then l46 else if o = 55 then l55 else [], k := l28 }, rfl, hc56, h0, hI, hN, fun o ho => ?_, ⟨A28, c28, e28, b28, k28, m28, Nat.le_trans z28 (by decide)⟩, v28, hkb⟩
  simp only [txtOffs, List.mem_cons, List.not_mem_nil, or_false] at ho
  rcases ho with rfl | rfl | rfl | rfl | rfl | rfl
  · exact ⟨A6, c6, e6, b6, k6, m6, Nat.le_trans z6 (by decide)⟩
  · exact ⟨A18, c18, e18, b18, k18, m18, Nat.le_trans z18 (by decide)⟩
  · exact ⟨A27, c27, e27, b27, k27, m27, Nat.le_trans z27 (by decide)⟩
  · exact ⟨A37, c37, e37, b37, k37, m37, Nat.le_trans z37 (by decide)⟩
  · exact ⟨A46, c46, e46, b46, k46, m46, Nat.le_trans z46 (by decide)⟩
  · exact ⟨A55, c55, e55, b55, k55, m55, Nat.le_trans z55 (by decide)⟩
end
end Go.Proofs.YtdckdjkkaangmaaDoor
