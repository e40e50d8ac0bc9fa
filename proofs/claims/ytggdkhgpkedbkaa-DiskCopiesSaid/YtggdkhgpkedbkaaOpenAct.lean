/- Rows of calls, a call: arguments opened. -/
import Derived.Test.YtggdkhgpkedbkaaActs
import Derived.Test.YtggdkhgpkedbkaaOpenRow
namespace Go.Proofs.Ytggdkhgpkedbkaa
open Go.ChangeShapes Go.WideShapes Go.ChangeAt Go.RowKit Go.Deep
section
variable {H : Type} {enc : TypeId × Value → H} {P : Program} {W W' : World}
theorem act_cells {e e2 : TypeId} {f0 f1 f2 f3 f4 f5 : Field} {base : Nat} {spare : Nat → Bool} {held : Bool} {fuel : Nat} {cs : List Value} {x : DataW H × List MemPlace} (hs : P.underlying e = some (.struct #[f0, f1, f2, f3, f4, f5])) (hone : oneCellFields P #[f0, f1, f2, f3, f4, f5] = true) (hC : P.cellsOf e = 6)
    (k0 : P.underlying f0.type = some (.int .i64)) (k1 : P.underlying f1.type = some .string) (k2 : P.underlying f2.type = some .string) (k3 : P.underlying f3.type = some (.slice e2)) (k4 : P.underlying f4.type = some (.int .i64)) (k5 : P.underlying f5.type = some (.int .i64)) (kb : P.underlying e2 = some (.int .u8)) (hC2 : P.cellsOf e2 = 1) (hB2 : P.bytesOf e2 = 1)
    (h : DataW.trod enc P W base spare held fuel e cs = some x) (hsz : ∀ y ∈ x.1.weights P e, y ≤ reachBytes) : ∃ a : Ac, cs = a.cells ∧ a.ok W := by
  obtain ⟨xs, n, hx, hl, hxl, hf⟩ := struct_cells hs hone hC h
  match cs, hl, xs, hxl with
  | [c0, c1, c2, c3, c4, c5], _, [y0, y1, y2, y3, y4, y5], _ =>
    obtain ⟨z0, e0, _, w0⟩ := DataW.trod_int k0 (hf 0 f0 c0 y0 rfl rfl rfl)
    obtain ⟨z4, e4, _, w4⟩ := DataW.trod_int k4 (hf 4 f4 c4 y4 rfl rfl rfl)
    obtain ⟨z5, e5, _, w5⟩ := DataW.trod_int k5 (hf 5 f5 c5 y5 rfl rfl rfl)
    obtain ⟨s1, e1, b1⟩ := str_weigh k1 (hf 1 f1 c1 y1 rfl rfl rfl) (field_weigh hs hx hsz (i := 1) rfl rfl)
    obtain ⟨s2, e2', b2⟩ := str_weigh k2 (hf 2 f2 c2 y2 rfl rfl rfl) (field_weigh hs hx hsz (i := 2) rfl rfl)
    obtain ⟨A, l, c, e3, hB, hlc, hc, b3⟩ := bytes_weigh k3 kb hC2 hB2 (hf 3 f3 c3 y3 rfl rfl rfl) (field_weigh hs hx hsz (i := 3) rfl rfl)
    obtain ⟨x0, rfl⟩ := i64_of w0
    obtain ⟨x4, rfl⟩ := i64_of w4
    obtain ⟨x5, rfl⟩ := i64_of w5
    simp only [List.cons.injEq, and_true] at e0 e1 e2' e3 e4 e5
    exact ⟨⟨x0, s1, s2, A, l, c, x4, x5⟩, by rw [e0, e1, e2', e3, e4, e5]; rfl, hB, hlc, hc, b1, b2, b3⟩
variable {t e e2 : TypeId} {f0 f1 f2 f3 f4 f5 : Field} {base : Nat} {spare : Nat → Bool} {held : Bool} {r : Reach} {b0 : Nat} {v : Value} {d : DataW H} {p : List MemPlace}
theorem open_acts (ht : P.underlying t = some (.slice e)) (hs : P.underlying e = some (.struct #[f0, f1, f2, f3, f4, f5])) (hone : oneCellFields P #[f0, f1, f2, f3, f4, f5] = true) (hC : P.cellsOf e = 6)
    (k0 : P.underlying f0.type = some (.int .i64)) (k1 : P.underlying f1.type = some .string) (k2 : P.underlying f2.type = some .string) (k3 : P.underlying f3.type = some (.slice e2)) (k4 : P.underlying f4.type = some (.int .i64)) (k5 : P.underlying f5.type = some (.int .i64)) (kb : P.underlying e2 = some (.int .u8)) (hC2 : P.cellsOf e2 = 1) (hB2 : P.bytesOf e2 = 1) (hBe : P.bytesOf e = 80)
    (hv : Value.okWide P W r b0 t v) (h : DataW.Trod enc P W base spare held t v d p) (hsz : ∀ y ∈ d.weights P t, y ≤ reachBytes) :
    ∃ (A : Option Addr) (l : List Ac) (c : Nat), v = .slice A l.length c ∧ Acts W A l ∧ l.length ≤ 9223372036854775806 := by
  obtain ⟨A, l, c, h1, h2, h3, h4, h5⟩ := open_rows_sized (K := 6) Ac.cells (Ac.ok W) (by decide) (fun _ => rfl) ht hC (fun n cs x hx hw => act_cells hs hone hC k0 k1 k2 k3 k4 k5 kb hC2 hB2 hx hw) ⟨0, [], [], none, [], 0, 0, 0⟩ hv h hsz
  subst h1
  refine ⟨A, l, c, rfl, ⟨h2, h5⟩, ?_⟩
  have := slice_weighs ht hBe hsz h
  omega
theorem open_act (hs : P.underlying t = some (.struct #[f0, f1, f2, f3, f4, f5])) (hone : oneCellFields P #[f0, f1, f2, f3, f4, f5] = true) (hC : P.cellsOf t = 6)
    (k0 : P.underlying f0.type = some (.int .i64)) (k1 : P.underlying f1.type = some .string) (k2 : P.underlying f2.type = some .string) (k3 : P.underlying f3.type = some (.slice e2)) (k4 : P.underlying f4.type = some (.int .i64)) (k5 : P.underlying f5.type = some (.int .i64)) (kb : P.underlying e2 = some (.int .u8)) (hC2 : P.cellsOf e2 = 1) (hB2 : P.bytesOf e2 = 1)
    (hv : Value.okWide P W r b0 t v) (h : DataW.Trod enc P W base spare held t v d p) (hsz : ∀ y ∈ d.weights P t, y ≤ reachBytes) : ∃ a : Ac, v = a.val ∧ a.ok W := by
  obtain ⟨cs, rfl, _⟩ := okWide_struct hs hv
  obtain ⟨fuel, hf⟩ := h
  obtain ⟨a, h1, h2⟩ := act_cells hs hone hC k0 k1 k2 k3 k4 k5 kb hC2 hB2 hf hsz
  refine ⟨a, ?_, h2⟩
  have : cs.toList = a.cells := by simpa [Value.cells] using h1
  rw [← Array.toArray_toList (xs := cs), this]
  rfl
end
end Go.Proofs.Ytggdkhgpkedbkaa
