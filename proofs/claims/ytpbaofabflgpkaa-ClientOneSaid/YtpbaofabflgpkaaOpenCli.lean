/- A call, a reply, a row of numbers, a row of events: arguments opened. -/
import Derived.Test.YtpbaofabflgpkaaCliU
import Derived.Test.YtpbaofabflgpkaaJG
namespace Go.Proofs.Ytpbaofabflgpkaa
set_option linter.unusedVariables false
set_option linter.unusedSimpArgs false
open Go.ChangeShapes Go.WideShapes Go.ChangeAt Go.RowKit Go.Deep

section
variable {H : Type} {enc : TypeId × Value → H} {P : Program} {W : World} {base : Nat} {spare : Nat → Bool} {held : Bool}
/-- A field of a struct. -/
theorem trod_field {t : TypeId} {fs : Array Field} {fuel : Nat} {cs : List Value} {x : DataW H × List MemPlace} (hs : P.underlying t = some (.struct fs)) (h : DataW.trod enc P W base spare held fuel t cs = some x) (hsz : ∀ y ∈ x.1.weights P t, y ≤ reachBytes) {i : Nat} {f : Field} (hf : fs[i]? = some f) :
    ∃ n y, DataW.trod enc P W base spare held n f.type ((cs.drop f.offset).take (P.cellsOf f.type)) = some y ∧ ∀ z ∈ y.1.weights P f.type, z ≤ reachBytes := by
  obtain ⟨xs, n, _, hx1, _, hl, hx⟩ := DataW.trod_struct hs h
  have hi : i < xs.length := by rw [hl]; exact (Array.getElem?_eq_some_iff.1 hf).1
  exact ⟨n, xs[i], by rw [hx i f hf, List.getElem?_eq_getElem hi], field_weigh hs (d := x.1) (xs := xs) (by rw [hx1]) hsz hf (List.getElem?_eq_getElem hi)⟩
theorem trod_fieldAt {t u : TypeId} {fs : Array Field} {fuel : Nat} {cs : List Value} {x : DataW H × List MemPlace} (hs : P.underlying t = some (.struct fs)) (h : DataW.trod enc P W base spare held fuel t cs = some x) (hsz : ∀ y ∈ x.1.weights P t, y ≤ reachBytes) {i : Nat} {f : Field} (hf : fs[i]? = some f) {o k : Nat} (ht : f.type = u) (ho : f.offset = o) (hk : P.cellsOf u = k) :
    ∃ n y, DataW.trod enc P W base spare held n u ((cs.drop o).take k) = some y ∧ ∀ z ∈ y.1.weights P u, z ≤ reachBytes := by
  subst ht ho hk
  exact trod_field hs h hsz hf
theorem map_iv (l : List Int) : (l.flatMap fun z : Int => [iv z]) = l.map iv := by
  induction l with
  | nil => rfl
  | cons a l ih => rw [List.flatMap_cons, ih]; rfl
theorem u64N_of {z : Int} (h : (Lit.int .u64 z).wf = true) : ∃ n : Nat, z = (n : Int) ∧ n < 18446744073709551616 := by
  have hb : 0 ≤ z ∧ z ≤ 18446744073709551615 := by
    simp [Lit.wf, IntKind.min, IntKind.max, IntKind.signed, IntKind.bits] at h
    omega
  exact ⟨z.toNat, by omega, by omega⟩
/-- Numbers that came in. -/
theorem open_isz {t e : TypeId} {r : Reach} {b0 : Nat} {v : Value} {d : DataW H} {p : List MemPlace} (ht : P.underlying t = some (.slice e)) (he : P.underlying e = some (.int .i64)) (hc : P.cellsOf e = 1) (hB : P.bytesOf e = 8) (hv : Value.okWide P W r b0 t v) (h : DataW.Trod enc P W base spare held t v d p) (hsz : ∀ y ∈ d.weights P t, y ≤ reachBytes) :
    ∃ (A : Option Addr) (l : List Int) (c : Nat), v = .slice A l.length c ∧ SlI (fun _ => True) W (.slice A l.length c) l ∧ l.length * 8 ≤ 140737488351232 := by
  obtain ⟨A, l, c, rfl, h1, h2, h3, _⟩ := open_rows_sized (K := 1) (fun z : Int => [iv z]) (fun _ => True) (by decide) (fun _ => rfl) ht hc (fun n cs x hx _ => by
    obtain ⟨z, hz, _, _⟩ := DataW.trod_int he hx
    exact ⟨z, hz, trivial⟩) 0 hv h hsz
  rw [map_iv] at h1
  exact ⟨A, l, c, rfl, ⟨A, c, rfl, h1, h2, h3, fun _ _ _ => trivial⟩, slice_weighs ht hB hsz h⟩
end
section
variable {H : Type} {enc : TypeId × Value → H} {W : World} {base : Nat} {spare : Nat → Bool} {held : Bool}
theorem call_trod {fuel : Nat} {cs : List Value} {x : DataW H × List MemPlace} (h : DataW.trod enc Try.prog W base spare held fuel 27 cs = some x) (hsz : ∀ y ∈ x.1.weights Try.prog 27, y ≤ reachBytes) :
    ∃ C v, cs = calL C v ∧ SlB (fun _ => True) W v C.body := by
  have hs := Try.underlying27
  obtain ⟨xs, n, hx, hl, hxl, hf⟩ := struct_cells hs (by kernel_rfl) (by kernel_rfl) h
  match cs, hl, xs, hxl with
  | [c0, c1, c2, c3, c4, c5, c6, c7, c8], _, [y0, y1, y2, y3, y4, y5, y6, y7, y8], _ =>
    obtain ⟨z0, e0, _, w0⟩ := DataW.trod_int (k := .i64) Try.underlying3 (hf 0 _ c0 y0 rfl rfl rfl)
    obtain ⟨z1, e1, _, w1⟩ := DataW.trod_int (k := .u64) Try.underlying22 (hf 1 _ c1 y1 rfl rfl rfl)
    obtain ⟨z2, e2, _, w2⟩ := DataW.trod_int (k := .u64) Try.underlying22 (hf 2 _ c2 y2 rfl rfl rfl)
    obtain ⟨z3, e3, _, w3⟩ := DataW.trod_int (k := .i64) Try.underlying3 (hf 3 _ c3 y3 rfl rfl rfl)
    obtain ⟨z4, e4, _, w4⟩ := DataW.trod_int (k := .i64) Try.underlying3 (hf 4 _ c4 y4 rfl rfl rfl)
    obtain ⟨z5, e5, _, w5⟩ := DataW.trod_int (k := .i64) Try.underlying3 (hf 5 _ c5 y5 rfl rfl rfl)
    obtain ⟨z6, e6, _, w6⟩ := DataW.trod_int (k := .u64) Try.underlying22 (hf 6 _ c6 y6 rfl rfl rfl)
    obtain ⟨z7, e7, _, w7⟩ := DataW.trod_int (k := .u64) Try.underlying22 (hf 7 _ c7 y7 rfl rfl rfl)
    obtain ⟨A, l, c, e8, hB, hlc, hc, _⟩ := bytes_weigh Try.underlying25 Try.underlying5 (by kernel_rfl) (by kernel_rfl) (hf 8 _ c8 y8 rfl rfl rfl) (field_weigh hs hx hsz (i := 8) rfl rfl)
    obtain ⟨x1, rfl, _⟩ := u64N_of w1
    obtain ⟨x2, rfl, _⟩ := u64N_of w2
    obtain ⟨x6, rfl, _⟩ := u64N_of w6
    obtain ⟨x7, rfl, _⟩ := u64N_of w7
    simp only [List.cons.injEq, and_true] at e0 e1 e2 e3 e4 e5 e6 e7 e8
    exact ⟨⟨z0, x1, x2, z3, z4, z5, x6, x7, l⟩, .slice A l.length c, by rw [e0, e1, e2, e3, e4, e5, e6, e7, e8]; rfl, A, c, rfl, hB, hlc, hc, fun _ _ _ => trivial⟩
theorem reply_trod {fuel : Nat} {cs : List Value} {x : DataW H × List MemPlace} (h : DataW.trod enc Try.prog W base spare held fuel 36 cs = some x) (hsz : ∀ y ∈ x.1.weights Try.prog 36, y ≤ reachBytes) :
    ∃ R v, cs = repL R v ∧ SlB (fun _ => True) W v R.body := by
  have hs := Try.underlying36
  obtain ⟨xs, n, hx, hl, hxl, hf⟩ := struct_cells hs (by kernel_rfl) (by kernel_rfl) h
  match cs, hl, xs, hxl with
  | [c0, c1, c2, c3, c4, c5, c6, c7, c8], _, [y0, y1, y2, y3, y4, y5, y6, y7, y8], _ =>
    obtain ⟨z0, e0, _, w0⟩ := DataW.trod_int (k := .i64) Try.underlying3 (hf 0 _ c0 y0 rfl rfl rfl)
    obtain ⟨z1, e1, _, w1⟩ := DataW.trod_int (k := .u64) Try.underlying22 (hf 1 _ c1 y1 rfl rfl rfl)
    obtain ⟨z2, e2, _, w2⟩ := DataW.trod_int (k := .u64) Try.underlying22 (hf 2 _ c2 y2 rfl rfl rfl)
    obtain ⟨z3, e3, _, w3⟩ := DataW.trod_int (k := .i64) Try.underlying34 (hf 3 _ c3 y3 rfl rfl rfl)
    obtain ⟨z4, e4, _, w4⟩ := DataW.trod_int (k := .u64) Try.underlying22 (hf 4 _ c4 y4 rfl rfl rfl)
    obtain ⟨z5, e5, _, w5⟩ := DataW.trod_int (k := .i64) Try.underlying3 (hf 5 _ c5 y5 rfl rfl rfl)
    obtain ⟨z6, e6, _, w6⟩ := DataW.trod_int (k := .i64) Try.underlying3 (hf 6 _ c6 y6 rfl rfl rfl)
    obtain ⟨z7, e7, _, w7⟩ := DataW.trod_int (k := .u64) Try.underlying22 (hf 7 _ c7 y7 rfl rfl rfl)
    obtain ⟨A, l, c, e8, hB, hlc, hc, _⟩ := bytes_weigh Try.underlying25 Try.underlying5 (by kernel_rfl) (by kernel_rfl) (hf 8 _ c8 y8 rfl rfl rfl) (field_weigh hs hx hsz (i := 8) rfl rfl)
    obtain ⟨x1, rfl, _⟩ := u64N_of w1
    obtain ⟨x2, rfl, _⟩ := u64N_of w2
    obtain ⟨x4, rfl, _⟩ := u64N_of w4
    obtain ⟨x7, rfl, _⟩ := u64N_of w7
    simp only [List.cons.injEq, and_true] at e0 e1 e2 e3 e4 e5 e6 e7 e8
    exact ⟨⟨z0, x1, x2, z3, x4, z5, z6, x7, l⟩, .slice A l.length c, by rw [e0, e1, e2, e3, e4, e5, e6, e7, e8]; rfl, A, c, rfl, hB, hlc, hc, fun _ _ _ => trivial⟩
theorem event_trod {fuel : Nat} {cs : List Value} {x : DataW H × List MemPlace} (h : DataW.trod enc Try.prog W base spare held fuel 38 cs = some x) (hsz : ∀ y ∈ x.1.weights Try.prog 38, y ≤ reachBytes) :
    ∃ e : Ev, cs = e.cells ∧ e.ok (fun _ => True) W := by
  have hs := Try.underlying38
  have hlen : cs.length = 20 := by
    obtain ⟨_, _, _, _, hl, _⟩ := DataW.trod_struct hs h
    exact hl.trans (by kernel_rfl)
  obtain ⟨n0, y0, t0, g0⟩ := trod_fieldAt (u := 3) (o := 0) (k := 1) hs h hsz (i := 0) rfl rfl rfl (by kernel_rfl)
  obtain ⟨n1, y1, t1, g1⟩ := trod_fieldAt (u := 27) (o := 1) (k := 9) hs h hsz (i := 1) rfl rfl rfl (by kernel_rfl)
  obtain ⟨n2, y2, t2, g2⟩ := trod_fieldAt (u := 36) (o := 10) (k := 9) hs h hsz (i := 2) rfl rfl rfl (by kernel_rfl)
  obtain ⟨n3, y3, t3, g3⟩ := trod_fieldAt (u := 3) (o := 19) (k := 1) hs h hsz (i := 3) rfl rfl rfl (by kernel_rfl)
  obtain ⟨z0, f0, _, _⟩ := DataW.trod_int (k := .i64) Try.underlying3 t0
  obtain ⟨C, v1, f1, h1⟩ := call_trod t1 g1
  obtain ⟨R, v2, f2, h2⟩ := reply_trod t2 g2
  obtain ⟨z3, f3, _, _⟩ := DataW.trod_int (k := .i64) Try.underlying3 t3
  rw [List.drop_zero] at f0
  refine ⟨⟨z0, C, v1, R, v2, z3⟩, ?_, h1, h2⟩
  have q : cs = cs.take 1 ++ ((cs.drop 1).take 9 ++ ((cs.drop 10).take 9 ++ (cs.drop 19).take 1)) := by
    have a1 : (cs.drop 19).take 1 = cs.drop 19 := List.take_of_length_le (by rw [List.length_drop]; omega)
    have a2 : (cs.drop 10).take 9 ++ cs.drop 19 = cs.drop 10 := by
      rw [show cs.drop 19 = (cs.drop 10).drop 9 from by rw [List.drop_drop]]
      exact List.take_append_drop 9 _
    have a3 : (cs.drop 1).take 9 ++ cs.drop 10 = cs.drop 1 := by
      rw [show cs.drop 10 = (cs.drop 1).drop 9 from by rw [List.drop_drop]]
      exact List.take_append_drop 9 _
    rw [a1, a2, a3]
    exact (List.take_append_drop 1 cs).symm
  rw [q, f0, f1, f2, f3]
  rfl
variable {r : Reach} {b0 : Nat} {v : Value} {d : DataW H} {p : List MemPlace}
theorem open_evs (hv : Value.okWide Try.prog W r b0 24 v) (h : DataW.Trod enc Try.prog W base spare held 24 v d p) (hsz : ∀ y ∈ d.weights Try.prog 24, y ≤ reachBytes) :
    ∃ (A : Option Addr) (l : List Ev) (c : Nat), v = .slice A l.length c ∧ Evs (fun _ => True) W A l := by
  obtain ⟨A, l, c, rfl, h1, h2, h3, h4⟩ := open_rows_sized (K := 20) Ev.cells (Ev.ok (fun _ => True) W) (by decide) Ev.len Try.underlying24 (by kernel_rfl) (fun n cs x hx hw => event_trod hx hw) zEv hv h hsz
  exact ⟨A, l, c, rfl, h1, h4⟩
theorem open_call (hv : Value.okWide Try.prog W r b0 27 v) (h : DataW.Trod enc Try.prog W base spare held 27 v d p) (hsz : ∀ y ∈ d.weights Try.prog 27, y ≤ reachBytes) :
    ∃ C u, v = .agg (calL C u).toArray ∧ SlB (fun _ => True) W u C.body := by
  obtain ⟨cs, rfl, _⟩ := okWide_struct Try.underlying27 hv
  obtain ⟨fuel, hf⟩ := h
  obtain ⟨C, u, h1, h2⟩ := call_trod hf hsz
  refine ⟨C, u, ?_, h2⟩
  have : cs.toList = calL C u := by simpa [Value.cells] using h1
  rw [← Array.toArray_toList (xs := cs), this]
theorem open_reply (hv : Value.okWide Try.prog W r b0 36 v) (h : DataW.Trod enc Try.prog W base spare held 36 v d p) (hsz : ∀ y ∈ d.weights Try.prog 36, y ≤ reachBytes) :
    ∃ R u, v = .agg (repL R u).toArray ∧ SlB (fun _ => True) W u R.body := by
  obtain ⟨cs, rfl, _⟩ := okWide_struct Try.underlying36 hv
  obtain ⟨fuel, hf⟩ := h
  obtain ⟨C, u, h1, h2⟩ := reply_trod hf hsz
  refine ⟨C, u, ?_, h2⟩
  have : cs.toList = repL C u := by simpa [Value.cells] using h1
  rw [← Array.toArray_toList (xs := cs), this]
end
end Go.Proofs.Ytpbaofabflgpkaa
