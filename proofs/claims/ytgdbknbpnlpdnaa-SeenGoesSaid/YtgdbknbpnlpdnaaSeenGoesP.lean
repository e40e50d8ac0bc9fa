/- SeenGoes is proved: for every row, other row, mark, offset and entries the law answers true, and all of them read as they did. -/
import Derived.Test.YtgdbknbpnlpdnaaSeenS
import Derived.Test.YtgdbknbpnlpdnaaOpenMarks
namespace Go.Proofs.Ytgdbknbpnlpdnaa.SeenGoes
open Go.ChangeShapes Go.WideShapes Go.ChangeAt Go.RowKit

set_option maxRecDepth 100000 in
theorem lifted (os : Os) (started : os.Started) (H : Type) (enc : TypeId × Value → H) :
    ReturnsInHanded {} Try.checked os 4 .any (Rows.seenGoesSpec.pre6 enc Try.prog Try.f4 Rows.seenGoesRow.domain false) (Rows.seenGoesSpec.post enc Try.prog Try.f4 false true false false) := by
  refine returnsInHanded_of_change (C := Try.checked) own started (by kernel_rfl) Try.func4
    (ChangeSpec.witness6 (enc := enc) (C := Try.checked) false ⟨#[], #[.slice none 0 0, .slice none 0 0, .agg #[.int .i64 0, .int .u64 0, .int .u64 0], .int .u64 0, .slice none 0 0], []⟩ 8 (by kernel_rfl) (by kernel_rfl) (by kernel_rfl) (by kernel_rfl)) ?_
  intro W base args ds gs before hval0 hW hcnd _
  have hval : ∀ (j : Nat) t v, Try.f4.params[j]? = some t → args[j]? = some v → Value.okWide Try.prog W .any base t v := hval0
  have hW' := hW
  obtain ⟨p, q, hA0, hV, rfl, hfz, hnd⟩ := hW
  have hA : DataW.TrodAll enc Try.prog W 0 (fun _ => true) true Try.f4.params.toList args.toList ds p := hA0
  rw [Try.params4] at hA hval
  obtain ⟨v0, vs0, d0, ds0, p0, q0, hargs, rfl, rfl, h0, r0⟩ := trodAll_cons hA
  obtain ⟨v1, vs1, d1, ds1, p1, q1, rfl, rfl, rfl, h1, r1⟩ := trodAll_cons r0
  obtain ⟨v2, vs2, d2, ds2, p2, q2, rfl, rfl, rfl, h2, r2⟩ := trodAll_cons r1
  obtain ⟨v3, vs3, d3, ds3, p3, q3, rfl, rfl, rfl, h3, r3⟩ := trodAll_cons r2
  obtain ⟨v4, vs4, d4, ds4, p4, q4, rfl, rfl, rfl, h4, r4⟩ := trodAll_cons r3
  obtain ⟨rfl, rfl, rfl⟩ := trodAll_nil r4
  obtain rfl : args = #[v0, v1, v2, v3, v4] := by cases args; simp_all
  obtain ⟨rfl, rfl⟩ := trodVars_none hV
  obtain ⟨A0, l0, c0, rfl, b0, e0, g0⟩ := open_marks Try.underlying25 Try.underlying38 (by kernel_rfl) (by kernel_rfl) Try.underlying3 Try.underlying27 Try.underlying27 (hval 0 25 v0 rfl rfl) h0
  obtain ⟨A1, l1, c1, rfl, b1, e1, g1⟩ := open_marks Try.underlying25 Try.underlying38 (by kernel_rfl) (by kernel_rfl) Try.underlying3 Try.underlying27 Try.underlying27 (hval 1 25 v1 rfl rfl) h1
  obtain ⟨m2, rfl⟩ := open_mark Try.underlying38 (by kernel_rfl) (by kernel_rfl) Try.underlying3 Try.underlying27 Try.underlying27 (hval 2 38 v2 rfl rfl) h2
  obtain ⟨x3, rfl⟩ := open_u64 Try.underlying27 (hval 3 27 v3 rfl rfl) h3
  obtain ⟨A4, l4, c4, rfl, b4, e4, g4, s4⟩ := open_entries Try.underlying22 Try.underlying30 (by kernel_rfl) (by kernel_rfl) Try.underlying3 Try.underlying27 Try.underlying28 (hval 4 22 v4 rfl rfl) h4
  clear hA0 hval0
  refine (walk (w := W) A0 l0 c0 b0 e0 g0 A1 l1 c1 b1 e1 g1 m2 x3 A4 l4 c4 b4 e4 g4 s4).mono fun e W' ⟨he, bel⟩ => ?_
  subst he
  exact ⟨_, rfl, _, _, _, [], _, [], hW', trodAll_mk1 (shut_bool Try.underlying4 _), trodAll_below laidOut _ _ _ _ (by kernel_rfl) hA bel, rfl, bel.frame _, fun h => by cases h⟩

theorem proved : Rows.SeenGoesSaid :=
  OpenClaim.holds_of_wide 4 Try.f4 rfl rfl rfl rfl rfl rfl rfl ⟨rfl, rfl, rfl, rfl, rfl⟩ rfl rfl rfl rfl rfl (by kernel_rfl) Try.func4 (by kernel_rfl)
    (of_decide_eq_true (by kernel_rfl)) (by unfold Func.isWrapper; first | (rw [if_pos (by decide +kernel)]; kernel_rfl) | (rw [if_neg (by decide +kernel)]; exact ⟨rfl, rfl⟩))
    (fun os started H enc _ => lifted os started H enc)
end Go.Proofs.Ytgdbknbpnlpdnaa.SeenGoes
