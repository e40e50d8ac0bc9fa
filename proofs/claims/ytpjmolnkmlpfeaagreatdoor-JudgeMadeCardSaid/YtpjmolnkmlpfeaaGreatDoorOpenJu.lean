/- Calls, replies, notes: arguments opened, with what their numbers may be. -/
import Derived.Test.YtpjmolnkmlpfeaaGreatDoorJG
import Derived.Test.YtpjmolnkmlpfeaaGreatDoorJuLe
namespace Go.Proofs.YtpjmolnkmlpfeaaGreatDoor
set_option linter.unusedVariables false
set_option linter.unusedSimpArgs false
set_option maxRecDepth 100000
open Go.ChangeShapes Go.WideShapes Go.ChangeAt Go.RowKit Go.Deep

section
variable {H : Type} {enc : TypeId × Value → H} {P : Program} {W : World} {base : Nat} {spare : Nat → Bool} {held : Bool}
/-- A field of a struct. -/
theorem trod_field {t : TypeId} {fs : Array Field} {fuel : Nat} {cs : List Value} {x : DataW H × List MemPlace} (hs : P.underlying t = some (.struct fs)) (h : DataW.trod enc P W base spare held fuel t cs = some x) (hsz : ∀ y ∈ x.1.weights P t, y ≤ reachBytes) {i : Nat} {f : Field} (hf : fs[i]? = some f) :
    ∃ n y, DataW.trod enc P W base spare held n f.type ((cs.drop f.offset).take (P.cellsOf f.type)) = some y ∧ ∀ z ∈ y.1.weights P f.type, z ≤ reachBytes := by
  obtain ⟨xs, n, _, hx1, _, hl, hx⟩ := DataW.trod_struct hs h
  have hi : i < xs.length := by rw [hl]; exact (Array.getElem?_eq_some_iff.1 hf).1
  exact ⟨n, xs[i], by rw [hx i f hf, List.getElem?_eq_getElem hi], field_weigh hs (d := x.1) (xs := xs) (by rw [hx1]) hsz hf (List.getElem?_eq_getElem hi)⟩
theorem trod_fieldAt {t u : TypeId} {fs : Array Field} {fuel : Nat} {cs : List Value} {x : DataW H × List MemPlace} (hs : P.underlying t = some (.struct fs)) (h : DataW.trod enc P W base spare held fuel t cs = some x) (hsz : ∀ y ∈ x.1.weights P t, y ≤ reachBytes) {i : Nat} {f : Field} (hf : fs[i]? = some f) {o k : Nat} (ht : f.type = u) (ho : f.offset = o) (hk : P.cellsOf u = k) :
    ∃ n y, DataW.trod enc P W base spare held n u ((cs.drop o).take k) = some y ∧ ∀ z ∈ y.1.weights P u, z ≤ reachBytes := by
  subst ht ho hk
  exact trod_field hs h hsz hf
theorem u64N_of {z : Int} (h : (Lit.int .u64 z).wf = true) : ∃ n : Nat, z = (n : Int) ∧ n < 18446744073709551616 := by
  have hb : 0 ≤ z ∧ z ≤ 18446744073709551615 := by
    simp [Lit.wf, IntKind.min, IntKind.max, IntKind.signed, IntKind.bits] at h
    omega
  exact ⟨z.toNat, by omega, by omega⟩
end
theorem i64_wf {z : Int} (h : (Lit.int .i64 z).wf = true) : -9223372036854775808 ≤ z ∧ z < 9223372036854775808 := by
  simp [Lit.wf, show IntKind.i64.min = -9223372036854775808 from rfl, show IntKind.i64.max = 9223372036854775807 from rfl] at h
  omega
section
variable {H : Type} {enc : TypeId × Value → H} {W : World} {base : Nat} {spare : Nat → Bool} {held : Bool}
theorem call_trodJ {fuel : Nat} {cs : List Value} {x : DataW H × List MemPlace} (h : DataW.trod enc Tryz.prog W base spare held fuel 25 cs = some x) (hsz : ∀ y ∈ x.1.weights Tryz.prog 25, y ≤ reachBytes) :
    ∃ C v, cs = calL C v ∧ SlB (fun _ => True) W v C.body ∧ CalOk C ∧ C.body.length ≤ 140737488351232 := by
  have hs := Tryz.underlying25
  obtain ⟨xs, n, hx, hl, hxl, hf⟩ := struct_cells hs (by kernel_rfl) (by kernel_rfl) h
  match cs, hl, xs, hxl with
  | [c0, c1, c2, c3, c4, c5, c6, c7, c8], _, [y0, y1, y2, y3, y4, y5, y6, y7, y8], _ =>
    obtain ⟨z0, e0, _, w0⟩ := DataW.trod_int (k := .i64) Tryz.underlying3 (hf 0 _ c0 y0 rfl rfl rfl)
    obtain ⟨z1, e1, _, w1⟩ := DataW.trod_int (k := .u64) Tryz.underlying22 (hf 1 _ c1 y1 rfl rfl rfl)
    obtain ⟨z2, e2, _, w2⟩ := DataW.trod_int (k := .u64) Tryz.underlying22 (hf 2 _ c2 y2 rfl rfl rfl)
    obtain ⟨z3, e3, _, w3⟩ := DataW.trod_int (k := .i64) Tryz.underlying3 (hf 3 _ c3 y3 rfl rfl rfl)
    obtain ⟨z4, e4, _, w4⟩ := DataW.trod_int (k := .i64) Tryz.underlying3 (hf 4 _ c4 y4 rfl rfl rfl)
    obtain ⟨z5, e5, _, w5⟩ := DataW.trod_int (k := .i64) Tryz.underlying3 (hf 5 _ c5 y5 rfl rfl rfl)
    obtain ⟨z6, e6, _, w6⟩ := DataW.trod_int (k := .u64) Tryz.underlying22 (hf 6 _ c6 y6 rfl rfl rfl)
    obtain ⟨z7, e7, _, w7⟩ := DataW.trod_int (k := .u64) Tryz.underlying22 (hf 7 _ c7 y7 rfl rfl rfl)
    obtain ⟨A, l, c, e8, hB, hlc, hc, hbl⟩ := bytes_weigh Tryz.underlying23 Tryz.underlying5 (by kernel_rfl) (by kernel_rfl) (hf 8 _ c8 y8 rfl rfl rfl) (field_weigh hs hx hsz (i := 8) rfl rfl)
    obtain ⟨x1, rfl, b1⟩ := u64N_of w1
    obtain ⟨x2, rfl, b2⟩ := u64N_of w2
    obtain ⟨x6, rfl, b6⟩ := u64N_of w6
    obtain ⟨x7, rfl, b7⟩ := u64N_of w7
    simp only [List.cons.injEq, and_true] at e0 e1 e2 e3 e4 e5 e6 e7 e8
    exact ⟨⟨z0, x1, x2, z3, z4, z5, x6, x7, l⟩, .slice A l.length c, by rw [e0, e1, e2, e3, e4, e5, e6, e7, e8]; rfl, ⟨A, c, rfl, hB, hlc, hc, fun _ _ _ => trivial⟩, ⟨⟨(i64_wf w0).1, (i64_wf w0).2, b1, b2⟩, b6, b7⟩, hbl⟩
variable {r : Reach} {b0 : Nat} {v : Value} {d : DataW H} {p : List MemPlace}
end
end Go.Proofs.YtpjmolnkmlpfeaaGreatDoor
