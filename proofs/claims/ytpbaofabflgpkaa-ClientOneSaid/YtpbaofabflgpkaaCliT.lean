/- A client that stands in a variable. -/
import Derived.Test.YtpbaofabflgpkaaCliO
import Derived.Test.YtpbaofabflgpkaaCliR
import Derived.Test.YtpbaofabflgpkaaCliL
import Derived.Test.YtpbaofabflgpkaaCliP
import Derived.Test.YtpbaofabflgpkaaCliJ
namespace Go.Proofs.Ytpbaofabflgpkaa
set_option linter.unusedVariables false
set_option linter.unusedSimpArgs false
open Go.RowKit

/-- The variable in block g holds the client X; what it holds lies in blocks of which K is true. -/
def Cv (K : Nat → Prop) (w : World) (g : Nat) (X : Cli) : Prop := ∃ vb vc, Blk w g 29 (cliL X vb vc).toArray ∧ SlI K w vb X.bs ∧ SlB K w vc X.call.body
/-- A call, a reply in a variable. -/
def Lv (K : Nat → Prop) (w : World) (g : Nat) (C : Cal) : Prop := ∃ v, Blk w g 27 (calL C v).toArray ∧ SlB K w v C.body
def Rv (K : Nat → Prop) (w : World) (g : Nat) (R : Rep) : Prop := ∃ v, Blk w g 36 (repL R v).toArray ∧ SlB K w v R.body
section
variable {K K' S : Nat → Prop} {w w' : World} {g : Nat}
theorem Cv.lt {X : Cli} (h : Cv K w g X) : g < w.heap.size := by obtain ⟨_, _, h, _⟩ := h; exact h.lt
theorem Lv.lt {C : Cal} (h : Lv K w g C) : g < w.heap.size := by obtain ⟨_, h, _⟩ := h; exact h.lt
theorem Rv.lt {R : Rep} (h : Rv K w g R) : g < w.heap.size := by obtain ⟨_, h, _⟩ := h; exact h.lt
theorem Cv.mod {X : Cli} (h : Cv K w g X) (hm : Mod S w w') (hg : ¬ S g) (hK : ∀ b, K b → ¬ S b) : Cv K w' g X := by
  obtain ⟨vb, vc, h1, h2, h3⟩ := h
  exact ⟨vb, vc, h1.mod hm hg, h2.mod hm hK, h3.mod hm hK⟩
theorem Lv.mod {C : Cal} (h : Lv K w g C) (hm : Mod S w w') (hg : ¬ S g) (hK : ∀ b, K b → ¬ S b) : Lv K w' g C := by
  obtain ⟨v, h1, h2⟩ := h
  exact ⟨v, h1.mod hm hg, h2.mod hm hK⟩
theorem Rv.mod {R : Rep} (h : Rv K w g R) (hm : Mod S w w') (hg : ¬ S g) (hK : ∀ b, K b → ¬ S b) : Rv K w' g R := by
  obtain ⟨v, h1, h2⟩ := h
  exact ⟨v, h1.mod hm hg, h2.mod hm hK⟩
theorem Cv.below {X : Cli} (h : Cv K w g X) (hb : Below w.heap.size w w') : Cv K w' g X := by
  obtain ⟨vb, vc, h1, h2, h3⟩ := h
  exact ⟨vb, vc, h1.below hb h1.lt, h2.below hb, h3.below hb⟩
theorem Lv.below {C : Cal} (h : Lv K w g C) (hb : Below w.heap.size w w') : Lv K w' g C := by
  obtain ⟨v, h1, h2⟩ := h
  exact ⟨v, h1.below hb h1.lt, h2.below hb⟩
theorem Rv.below {R : Rep} (h : Rv K w g R) (hb : Below w.heap.size w w') : Rv K w' g R := by
  obtain ⟨v, h1, h2⟩ := h
  exact ⟨v, h1.below hb h1.lt, h2.below hb⟩
theorem Cv.weak {X : Cli} (h : Cv K w g X) (hK : ∀ b, b < w.heap.size → K b → K' b) : Cv K' w g X := by
  obtain ⟨vb, vc, h1, h2, h3⟩ := h
  exact ⟨vb, vc, h1, h2.weak hK, h3.weak hK⟩
theorem Lv.weak {C : Cal} (h : Lv K w g C) (hK : ∀ b, b < w.heap.size → K b → K' b) : Lv K' w g C := by
  obtain ⟨v, h1, h2⟩ := h
  exact ⟨v, h1, h2.weak hK⟩
theorem Rv.weak {R : Rep} (h : Rv K w g R) (hK : ∀ b, b < w.heap.size → K b → K' b) : Rv K' w g R := by
  obtain ⟨v, h1, h2⟩ := h
  exact ⟨v, h1, h2.weak hK⟩
end
theorem SlS.cells {K : Nat → Prop} {w : World} {v : Value} {to : Int} {C : Cal} (h : SlS K w v (some (to, C))) :
    ∃ g c vc, v = .slice (some ⟨g, 0, none⟩) 1 c ∧ 1 ≤ c ∧ c ≤ 9223372036854775807 ∧ g < w.heap.size ∧ K g ∧ SlB K w vc C.body ∧ w.rangeAt g 0 (.int .i64 to :: calL C vc) := by
  obtain ⟨g, c, vc, rfl, h1, h2, h3, h4, h5⟩ := h
  obtain ⟨ad, e, hb, hc⟩ := h3.2 (by decide)
  injection e with e
  subst e
  exact ⟨g, c, vc, rfl, h1, h2, hb, h5, h4, fun j u hu => by
    have := hc j u hu
    rwa [add_flat] at this⟩
theorem SlS.some_at {K : Nat → Prop} {w : World} {g c : Nat} {to : Int} {C : Cal} (h : SlS K w (.slice (some ⟨g, 0, none⟩) 1 c) (some (to, C))) : ∃ vc, SlB K w vc C.body ∧ w.rangeAt g 0 (.int .i64 to :: calL C vc) := by
  obtain ⟨g', c', vc, e, _, _, _, _, h1, h2⟩ := h.cells
  simp only [Value.slice.injEq, Option.some.injEq, Addr.mk.injEq, and_true, true_and] at e
  obtain ⟨rfl, rfl⟩ := e
  exact ⟨vc, h1, h2⟩
/-- The two cells of a call on its way that the examples look at. -/
theorem SlS.look {K : Nat → Prop} {w : World} {g c : Nat} {to : Int} {C : Cal} (h : SlS K w (.slice (some ⟨g, 0, none⟩) 1 c) (some (to, C))) : w.cell? ⟨g, 0, none⟩ = some (.int .i64 to) ∧ w.cell? ⟨g, 3, none⟩ = some (.int .u64 (C.n : Int)) := by
  obtain ⟨vc, _, h⟩ := h.some_at
  refine ⟨(h 0 _ rfl), ?_⟩
  have := h 3 (.int .u64 (C.n : Int)) rfl
  rwa [Nat.zero_add] at this
theorem build_call3 (w : World) : (Instr.build 27 #[(3, .int .i64 1), (4, .int .i64 1), (6, .int .u64 1)]).run Try.prog w = .ok (.agg (calL { zCal with kind := 1, ch := 1, seq := 1 } (.slice none 0 0)).toArray) w := by kernel_rfl
theorem good_new {nid : Int} {inc : Nat} {bs : List Int} (h : newOk nid inc bs) : Good (newX nid inc bs) := ⟨h.2.2.2.1, h.2.2.2.2.1, Nat.zero_le _⟩
/- The chapter's examples. -/
def aC : Cal := { zCal with kind := 1, ch := 1, seq := 1 }
def aD : Cal := { aC with cl := 9, inc := 1, n := 1 }
def aX0 : Cli := { zCli with id := 9, inc := 1, bs := [4, 5] }
def aX1 : Cli := { aX0 with busy := 1, call := aD, n := 1 }
def aX2 : Cli := { aX1 with at_ := 1, since := 1 }
def aX3 : Cli := { aX1 with at_ := 0, since := 1 }
def aX4 : Cli := { aX1 with at_ := 0, since := 4 }
def aX5 : Cli := { aX4 with busy := 0 }
def aR1 : Rep := { zRep with cl := 9, inc := 1, n := 1, res := 1, own := 5 }
def aR2 : Rep := { zRep with cl := 9, inc := 1, n := 1, res := 1 }
def aR3 : Rep := { zRep with cl := 9, inc := 1, n := 1, at_ := 7 }
theorem a_ok : newOk 9 1 [4, 5] := by
  refine ⟨by decide, by decide, by decide, by decide, by decide, by decide, ?_⟩
  have : ([4, 5] : List Int).mergeSort (fun x y => decide (x ≤ y)) = [4, 5] := by simp [List.mergeSort, List.MergeSort.Internal.splitInTwo, List.merge]
  rw [this]
  intro i hi
  obtain rfl : i = 0 := by simp at hi; omega
  rfl
theorem a_new : newX 9 1 [4, 5] = aX0 := rfl
theorem a_start : startX aX0 0 aC = aX1 := rfl
theorem a_startE : startE aX0 aC = 0 := by decide +kernel
theorem a_sent : sentX aX1 = some (4, aD) := rfl
theorem a_take1 : takeX aX1 1 aR1 = { cli := aX2, sent := some (5, aD), rep := none } := by kernel_rfl
theorem a_take2 : takeX aX2 1 aR2 = { cli := aX3, sent := none, rep := none } := by kernel_rfl
theorem a_tick3 : tickX aX3 3 = { cli := aX3, sent := none, rep := none } := by kernel_rfl
theorem a_tick4 : tickX aX3 4 = { cli := aX4, sent := some (4, aD), rep := none } := by kernel_rfl
theorem a_take3 : takeX aX4 5 aR3 = { cli := aX5, sent := none, rep := some aR3 } := by kernel_rfl
theorem a_tick60 : tickX aX5 60 = { cli := aX5, sent := none, rep := none } := by kernel_rfl
theorem a_good (k : Nat) (hk : k < 2) (X : Cli) (h1 : X.at_ = k) (h2 : X.bs = [4, 5]) (h3 : X.n ≤ 1) : Good X := ⟨by rw [h1, h2]; exact hk, by rw [h2]; decide, by omega⟩
end Go.Proofs.Ytpbaofabflgpkaa
