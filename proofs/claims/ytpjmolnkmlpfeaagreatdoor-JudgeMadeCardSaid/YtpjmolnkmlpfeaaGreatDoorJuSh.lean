/- A region's end stated once, where two places were made in it; ranges behind writes. -/
import Derived.Test.YtpjmolnkmlpfeaaGreatDoorJuLf
namespace Go.Proofs.YtpjmolnkmlpfeaaGreatDoor
set_option linter.unusedVariables false
set_option linter.unusedSimpArgs false
set_option maxRecDepth 100000
open Go.RowKit

theorem rg_below {w w' : World} {b o : Nat} {vs : List Value} (h : w.rangeAt b o vs) (hb : Below w.heap.size w w') : w'.rangeAt b o vs := fun j v hv => (hb.cell (p := ⟨b, o + j, none⟩) (World.block_lt_of_cell? w _ (h j v hv))).trans (h j v hv)
theorem rg_mod {T : Nat → Prop} {w w' : World} {b o : Nat} {vs : List Value} (h : w.rangeAt b o vs) (hm : Mod T w w') (hT : ¬ T b) : w'.rangeAt b o vs := fun j v hv => by
  have h1 := h j v hv
  have hb := World.block_lt_of_cell? w _ h1
  have h2 : w'.cell? ⟨b, o + j, none⟩ = w.cell? ⟨b, o + j, none⟩ := by
    simp only [World.cell?]
    rw [hm.block b hb hT]
  rw [h2]
  exact h1
end Go.Proofs.YtpjmolnkmlpfeaaGreatDoor
