/- SeenParts is proved: for every row of marks, offset and two rows of entries the law answers true, and all of them read as they did. -/
import Derived.Test.YtgdbknbpnlpdnaaSeenZ
import Derived.Test.YtgdbknbpnlpdnaaOpenMarks
namespace Go.Proofs.Ytgdbknbpnlpdnaa.SeenParts
open Go.ChangeShapes Go.WideShapes Go.ChangeAt Go.RowKit

set_option maxRecDepth 100000 in
theorem lifted (os : Os) (started : os.Started) (H : Type) (enc : TypeId × Value → H) :
    ReturnsInHanded {} Try.checked os 6 .any (Rows.seenPartsSpec.pre6 enc Try.prog Try.f6 Rows.seenPartsRow.domain false) (Rows.seenPartsSpec.post enc Try.prog Try.f6 false true false false) := by
  refine returnsInHanded_of_change (C := Try.checked) own started (by kernel_rfl) Try.func6
    (ChangeSpec.witness6 (enc := enc) (C := Try.checked) false ⟨#[], #[.slice none 0 0, .int .u64 0, .slice none 0 0, .slice none 0 0], []⟩ 8 (by kernel_rfl) (by kernel_rfl) (by kernel_rfl) (by kernel_rfl)) ?_
  intro W base args ds gs before hval0 hW hcnd _
  have hval : ∀ (j : Nat) t v, Try.f6.params[j]? = some t → args[j]? = some v → Value.okWide Try.prog W .any base t v := hval0
  have hW' := hW
  obtain ⟨p, q, hA0, hV, rfl, hfz, hnd⟩ := hW
  have hA : DataW.TrodAll enc Try.prog W 0 (fun _ => true) true Try.f6.params.toList args.toList ds p := hA0
  rw [Try.params6] at hA hval
  obtain ⟨v0, vs0, d0, ds0, p0, q0, hargs, rfl, rfl, h0, r0⟩ := trodAll_cons hA
  obtain ⟨v1, vs1, d1, ds1, p1, q1, rfl, rfl, rfl, h1, r1⟩ := trodAll_cons r0
  obtain ⟨v2, vs2, d2, ds2, p2, q2, rfl, rfl, rfl, h2, r2⟩ := trodAll_cons r1
  obtain ⟨v3, vs3, d3, ds3, p3, q3, rfl, rfl, rfl, h3, r3⟩ := trodAll_cons r2
  obtain ⟨rfl, rfl, rfl⟩ := trodAll_nil r3
  obtain rfl : args = #[v0, v1, v2, v3] := by cases args; simp_all
  obtain ⟨rfl, rfl⟩ := trodVars_none hV
  obtain ⟨A0, l0, c0, rfl, b0, e0, g0⟩ := open_marks Try.underlying25 Try.underlying38 (by kernel_rfl) (by kernel_rfl) Try.underlying3 Try.underlying27 Try.underlying27 (hval 0 25 v0 rfl rfl) h0
  obtain ⟨x1, rfl⟩ := open_u64 Try.underlying27 (hval 1 27 v1 rfl rfl) h1
  obtain ⟨A2, l2, c2, rfl, b2, e2, g2, s2⟩ := open_entries Try.underlying22 Try.underlying30 (by kernel_rfl) (by kernel_rfl) Try.underlying3 Try.underlying27 Try.underlying28 (hval 2 22 v2 rfl rfl) h2
  obtain ⟨A3, l3, c3, rfl, b3, e3, g3, s3⟩ := open_entries Try.underlying22 Try.underlying30 (by kernel_rfl) (by kernel_rfl) Try.underlying3 Try.underlying27 Try.underlying28 (hval 3 22 v3 rfl rfl) h3
  clear hA0 hval0
  refine (walk (w := W) A0 l0 c0 b0 e0 g0 x1 A2 l2 c2 b2 e2 g2 s2 A3 l3 c3 b3 e3 g3 s3).mono fun e W' ⟨he, bel⟩ => ?_
  subst he
  exact ⟨_, rfl, _, _, _, [], _, [], hW', trodAll_mk1 (shut_bool Try.underlying4 _), trodAll_below laidOut _ _ _ _ (by kernel_rfl) hA bel, rfl, bel.frame _, fun h => by cases h⟩

theorem proved : Rows.SeenPartsSaid :=
  OpenClaim.holds_of_wide 6 Try.f6 rfl rfl rfl rfl rfl rfl rfl ⟨rfl, rfl, rfl, rfl, rfl⟩ rfl rfl rfl rfl rfl (by kernel_rfl) Try.func6 (by kernel_rfl)
    (of_decide_eq_true (by kernel_rfl)) (by unfold Func.isWrapper; first | (rw [if_pos (by decide +kernel)]; kernel_rfl) | (rw [if_neg (by decide +kernel)]; exact ⟨rfl, rfl⟩))
    (fun os started H enc _ => lifted os started H enc)
end Go.Proofs.Ytgdbknbpnlpdnaa.SeenParts
