/- JudgeDoes is proved: what any call does to any model, with any reply, and without, and whether the model is the same as another one, are the document's, for all models, calls and replies; the arguments read as they did. (Condition: bytes.ErrTooLarge holds what its initialiser laid, which the card ties to the text.) -/
import Derived.Test.YtpjmolnkmlpfeaaGreatDoorJdZ
import Derived.Test.YtpjmolnkmlpfeaaGreatDoorJBF
import Derived.LaidMore
import Derived.Stop.Joined
import Derived.SevenTiedAt
import Derived.Test.YtpjmolnkmlpfeaaGreatDoorCards
import Derived.Test.YtpjmolnkmlpfeaaGreatDoorTie
namespace Go.Proofs.YtpjmolnkmlpfeaaGreatDoor.JudgeDoes
set_option linter.unusedVariables false
set_option linter.unusedSimpArgs false
set_option maxRecDepth 100000
open Go.ChangeShapes Go.WideShapes Go.ChangeAt Go.RowKit

/-- The heap that the start of the program leaves meets what the row lists. -/
theorem door_met (os : Os) (args : Array Value) : laidMetH Tryz.prog [("bytes.ErrTooLarge", Rows.laid_bytes_ErrTooLarge)] ((World.doorLaid Tryz.prog 400 os).forCall (fun _ _ => 0) ⟨#[], args, []⟩).memory :=
 laidMetH_of_parts3 (fuel := 8) (laidMet_of_run' 8 (by kernel_rfl) (by kernel_rfl)) (by kernel_rfl) (by kernel_rfl)
theorem lifted (os : Os) (started : os.Started) (H : Type) (enc : TypeId × Value → H) :
  ReturnsInHanded {} Tryz.checked os 8 .any (fun w args => (Rows.judgeDoesSpec.pre enc Tryz.prog Tryz.f8 [] false w args ∧ laidMetH Tryz.prog [("bytes.ErrTooLarge", Rows.laid_bytes_ErrTooLarge)] w) ∧ sizedMet enc Tryz.prog Tryz.f8 (OpenSpec.ofChange Rows.judgeDoesSpec) false w args)
   (Rows.judgeDoesSpec.post enc Tryz.prog Tryz.f8 false true false false) := by
 refine returnsInHanded_of_change_and (C := Tryz.checked) (X := fun w _ => laidMetH Tryz.prog [("bytes.ErrTooLarge", Rows.laid_bytes_ErrTooLarge)] w) (fun _ _ _ hh h => h.of_heap hh) own started (by kernel_rfl) Tryz.func8
  (ChangeSpec.witness_shaped (enc := enc) (C := Tryz.checked) (os := os) (X := fun w _ => laidMetH Tryz.prog [("bytes.ErrTooLarge", Rows.laid_bytes_ErrTooLarge)] w) false (World.doorLaid Tryz.prog 400 os) #[.agg (mdL zMdl (.slice none 0 0) (.slice none 0 0)).toArray, .agg (mdL zMdl (.slice none 0 0) (.slice none 0 0)).toArray, .agg (calL zCal (.slice none 0 0)).toArray, .agg (repL zRep (.slice none 0 0)).toArray] 8 rfl (World.shaped_of_RefB (by kernel_rfl) (by kernel_rfl)) (by kernel_rfl) (by kernel_rfl) (by kernel_rfl) (door_met os _)) ?_
 intro W base args ds gs before hval0 hW _ hsz0 hL _
 have hval : ∀ (j : Nat) t v, Tryz.f8.params[j]? = some t → args[j]? = some v → Value.okWide Tryz.prog W .any base t v := hval0
 have hW' := hW
 obtain ⟨p, q, hA0, hV, rfl, hfz, hnd⟩ := hW
 have hA : DataW.TrodAll enc Tryz.prog W 0 (fun _ => true) true Tryz.f8.params.toList args.toList ds p := hA0
 rw [Tryz.params8] at hA hval
 obtain ⟨v0, vs0, d0, ds0, p0, q0, hargs, rfl, rfl, h0, r0⟩ := trodAll_cons hA
 obtain ⟨v1, vs1, d1, ds1, p1, q1, rfl, rfl, rfl, h1, r1⟩ := trodAll_cons r0
 obtain ⟨v2, vs2, d2, ds2, p2, q2, rfl, rfl, rfl, h2, r2⟩ := trodAll_cons r1
 obtain ⟨v3, vs3, d3, ds3, p3, q3, rfl, rfl, rfl, h3, r3⟩ := trodAll_cons r2
 obtain ⟨rfl, rfl, rfl⟩ := trodAll_nil r3
 obtain rfl : args = #[v0, v1, v2, v3] := by cases args; simp_all
 obtain ⟨rfl, rfl⟩ := trodVars_none hV
 obtain ⟨M0, u0, y0, rfl, b0, k0⟩ := open_mdlJ (hval 0 45 v0 rfl rfl) h0 (fun y hy => of_decide_eq_true (List.all_eq_true.1 hsz0 y (DataW.weights_mem_each (j := 0) (t := 45) rfl rfl y hy)))
 obtain ⟨M1, u1, y1, rfl, b1, k1⟩ := open_mdlJ (hval 1 45 v1 rfl rfl) h1 (fun y hy => of_decide_eq_true (List.all_eq_true.1 hsz0 y (DataW.weights_mem_each (j := 1) (t := 45) rfl rfl y hy)))
 obtain ⟨C2, u2, rfl, b2, k2, l2⟩ := open_callJ (hval 2 25 v2 rfl rfl) h2 (fun y hy => of_decide_eq_true (List.all_eq_true.1 hsz0 y (DataW.weights_mem_each (j := 2) (t := 25) rfl rfl y hy)))
 obtain ⟨R3, u3, rfl, b3, k3, l3⟩ := open_replyJ (hval 3 32 v3 rfl rfl) h3 (fun y hy => of_decide_eq_true (List.all_eq_true.1 hsz0 y (DataW.weights_mem_each (j := 3) (t := 32) rfl rfl y hy)))
 clear hA0 hval0
 refine (walk (w := W) M0 u0 y0 b0 k0 M1 u1 y1 b1 k1 C2 u2 b2 k2 R3 u3 b3 k3 l3).mono fun e W' ⟨he, bel⟩ => ?_
 subst he
 exact ⟨_, rfl, _, _, _, [], _, [], hW', trodAll_mk1 (shut_bool Tryz.underlying4 _), trodAll_below laidOut _ _ _ _ (by kernel_rfl) hA bel, rfl, bel.frame _, fun h => by cases h⟩

theorem row_holds : Rows.JudgeDoesSaid :=
 OpenClaim.holds_of_wide 8 Tryz.f8 rfl rfl rfl rfl rfl rfl rfl ⟨rfl, rfl, rfl, rfl, rfl⟩ rfl rfl rfl rfl rfl (by kernel_rfl) Tryz.func8 (by kernel_rfl)
  (of_decide_eq_true (by kernel_rfl)) (by unfold Func.isWrapper; first | (rw [if_pos (by decide +kernel)]; kernel_rfl) | (rw [if_neg (by decide +kernel)]; exact ⟨rfl, rfl⟩))
  (fun os started H enc _ => lifted os started H enc)
theorem proved : Rows.JudgeDoesCardSaid :=
 Claim7.holds_tied_plain_at .later [] [.sentinel] true (true, "b4dd24c7d2ba8d2efe694377ad4b143e1bf99c43f7f4c5af9d9c635b1e598bc1") false
  row_holds (fun _ h => by cases h) (by kernel_rfl) (fun _ h => by cases h) judgeDoes_row_tie rfl ⟨rfl, rfl⟩ (by kernel_rfl) rfl
  (fun f fn hf hfn => by
   obtain rfl : f = 8 := Option.some.inj ((show Tryz.prog.funcNamed "scrivener/scrivenerlaw27.JudgeDoes" = some 8 by kernel_rfl).symm.trans hf) |>.symm
   obtain rfl : fn = Tryz.f8 := (Option.some.inj (Tryz.func8.symm.trans hfn)).symm
   exact ⟨by kernel_rfl, fun j t ht => by
    have hall : (Tryz.f8.params.toList.all fun u => !Tryz.prog.wantsStandIn u) = true := by kernel_rfl
    exact (show Tryz.prog.wantsStandIn t = false by simpa using List.all_eq_true.1 hall t (Array.mem_of_getElem? ht).val)⟩)
  (by kernel_rfl)
end Go.Proofs.YtpjmolnkmlpfeaaGreatDoor.JudgeDoes
