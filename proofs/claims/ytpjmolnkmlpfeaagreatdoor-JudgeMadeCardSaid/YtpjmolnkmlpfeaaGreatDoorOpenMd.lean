/- Rows of acts; models; replies: arguments opened. -/
import Derived.Test.YtpjmolnkmlpfeaaGreatDoorOpenJu
import Derived.Test.YtpjmolnkmlpfeaaGreatDoorJuLk
namespace Go.Proofs.YtpjmolnkmlpfeaaGreatDoor
set_option linter.unusedVariables false
set_option linter.unusedSimpArgs false
set_option maxRecDepth 100000
open Go.ChangeShapes Go.WideShapes Go.ChangeAt Go.RowKit Go.Deep

section
variable {H : Type} {enc : TypeId × Value → H} {P : Program} {W : World}
end
/-- An act that came in. -/
structure AcV where
  d : Int
  i : Int
  c : Cal
  v : Value
def acL (x : AcV) : List Value := .int .i64 x.d :: .int .i64 x.i :: calL x.c x.v
theorem acL_len (x : AcV) : (acL x).length = 11 := rfl
structure AcIn (W : World) (x : AcV) : Prop where
  v : SlB (fun _ => True) W x.v x.c.body
  ok : CalOk x.c
  b : x.c.body.length ≤ 140737488351232
  i : -9223372036854775808 ≤ x.i ∧ x.i < 9223372036854775808
section
variable {H : Type} {enc : TypeId × Value → H} {W : World} {base : Nat} {spare : Nat → Bool} {held : Bool}
theorem act_trodJ {fuel : Nat} {cs : List Value} {x : DataW H × List MemPlace} (h : DataW.trod enc Tryz.prog W base spare held fuel 47 cs = some x) (hsz : ∀ y ∈ x.1.weights Tryz.prog 47, y ≤ reachBytes) :
    ∃ e : AcV, cs = acL e ∧ AcIn W e := by
  have hs := Tryz.underlying47
  have hlen : cs.length = 11 := by
    obtain ⟨_, _, _, _, hl, _⟩ := DataW.trod_struct hs h
    exact hl.trans (by kernel_rfl)
  obtain ⟨n0, y0, t0, g0⟩ := trod_fieldAt (u := 3) (o := 0) (k := 1) hs h hsz (i := 0) rfl rfl rfl (by kernel_rfl)
  obtain ⟨n1, y1, t1, g1⟩ := trod_fieldAt (u := 3) (o := 1) (k := 1) hs h hsz (i := 1) rfl rfl rfl (by kernel_rfl)
  obtain ⟨n2, y2, t2, g2⟩ := trod_fieldAt (u := 25) (o := 2) (k := 9) hs h hsz (i := 2) rfl rfl rfl (by kernel_rfl)
  obtain ⟨z0, f0, _, w0⟩ := DataW.trod_int (k := .i64) Tryz.underlying3 t0
  obtain ⟨z1, f1, _, w1⟩ := DataW.trod_int (k := .i64) Tryz.underlying3 t1
  obtain ⟨C, v1, f2, h1, k1, l1⟩ := call_trodJ t2 g2
  rw [List.drop_zero] at f0
  refine ⟨⟨z0, z1, C, v1⟩, ?_, h1, k1, l1, i64_wf w1⟩
  have q : cs = cs.take 1 ++ ((cs.drop 1).take 1 ++ (cs.drop 2).take 9) := by
    have a1 : (cs.drop 2).take 9 = cs.drop 2 := List.take_of_length_le (by rw [List.length_drop]; omega)
    have a2 : (cs.drop 1).take 1 ++ cs.drop 2 = cs.drop 1 := by
      rw [show cs.drop 2 = (cs.drop 1).drop 1 from by rw [List.drop_drop]]
      exact List.take_append_drop 1 _
    rw [a1, a2]
    exact (List.take_append_drop 1 cs).symm
  rw [q, f0, f1, f2]
  rfl
variable {r : Reach} {b0 : Nat} {v : Value} {d : DataW H} {p : List MemPlace}
theorem open_actsJ (hv : Value.okWide Tryz.prog W r b0 40 v) (h : DataW.Trod enc Tryz.prog W base spare held 40 v d p) (hsz : ∀ y ∈ d.weights Tryz.prog 40, y ≤ reachBytes) :
    ∃ (A : Option Addr) (l : List AcV) (c : Nat), v = .slice A l.length c ∧ Reads W 11 A l.length (l.flatMap acL) ∧ l.length ≤ c ∧ c ≤ 9223372036854775807 ∧ (∀ x ∈ l, AcIn W x) :=
  open_rows_sized (K := 11) acL (AcIn W) (by decide) acL_len Tryz.underlying40 (by kernel_rfl) (fun n cs x hx hw => act_trodJ hx hw) ⟨0, 0, zCal, nilV⟩ hv h hsz
end
end Go.Proofs.YtpjmolnkmlpfeaaGreatDoor
