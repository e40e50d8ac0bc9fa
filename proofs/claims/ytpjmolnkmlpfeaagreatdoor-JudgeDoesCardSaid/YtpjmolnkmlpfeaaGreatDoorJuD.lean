/- Entries, models, courses in memory. -/
import Derived.Test.YtpjmolnkmlpfeaaGreatDoorJR
import Derived.Test.YtpjmolnkmlpfeaaGreatDoorJC
import Derived.Test.YtpjmolnkmlpfeaaGreatDoorJQ
namespace Go.Proofs.YtpjmolnkmlpfeaaGreatDoor
set_option linter.unusedVariables false
set_option linter.unusedSimpArgs false
set_option maxRecDepth 100000
open Go.RowKit

/-- Rows of structs, item by item. -/
theorem rows_range {α : Type} {f : α → List Value} {size : Nat} (hf : ∀ x, (f x).length = size) (h0 : 0 < size) {w : World} {A : Option Addr} {E : List α} (h : Reads w size A E.length (E.flatMap f)) {k : Nat} (hk : k < E.length) :
  ∃ b o, A = some ⟨b, o, none⟩ ∧ b < w.heap.size ∧ w.rangeAt b (o + k * size) (f E[k]) := by
 obtain ⟨b, o, e, hb, hc⟩ := Reads.flat h (by omega) h0
 refine ⟨b, o, e, hb, fun j u hu => ?_⟩
 have hj : j < size := by
  have := (List.getElem?_eq_some_iff.1 hu).1
  rwa [hf] at this
 have := hc (k * size + j) u ((rows_at hf E k j hk hj).trans hu)
 rwa [← Nat.add_assoc] at this
theorem flat_set {α : Type} {f : α → List Value} {size : Nat} (hf : ∀ x, (f x).length = size) : ∀ (E : List α) (k j : Nat) (hk : k < E.length) (u : Value) (y : α), j < size → (f E[k]).set j u = f y → (E.flatMap f).set (k * size + j) u = (E.set k y).flatMap f
 | x :: E, 0, j, _, u, y, hj, h => by
  rw [Nat.zero_mul, Nat.zero_add, List.flatMap_cons, List.set_append_left _ _ (by rw [hf]; exact hj)]
  simp only [List.getElem_cons_zero] at h
  rw [h]
  rfl
 | x :: E, k + 1, j, hk, u, y, hj, h => by
  have e1 : (k + 1) * size + j = size + (k * size + j) := by rw [Nat.add_mul]; omega
  rw [List.flatMap_cons, e1, List.set_append_right _ _ (by rw [hf]; omega), hf, Nat.add_sub_cancel_left]
  have := flat_set hf E k j (by simpa using hk) u y hj (by simpa using h)
  rw [this]
  rfl
abbrev EnV := Ent × Value
def enL (p : EnV) : List Value := [.int .i64 p.1.prod, .int .u64 (p.1.seq : Int), p.2]
theorem enL_len (p : EnV) : (enL p).length = 3 := rfl
/-- A slice of 64-bit numbers; of entries; a model; a course. -/
def SlU (K : Nat → Prop) (w : World) (v : Value) (xs : List Nat) : Prop := ∃ A c, v = .slice A xs.length c ∧ Reads w 1 A xs.length (xs.map u64v) ∧ xs.length ≤ c ∧ c ≤ 9223372036854775807 ∧ (0 < xs.length → ∀ ad, A = some ad → K ad.block)
def SlE (K : Nat → Prop) (w : World) (v : Value) (es : List Ent) : Prop := ∃ A c, ∃ E : List EnV, v = .slice A E.length c ∧ E.map (·.1) = es ∧ Reads w 3 A E.length (E.flatMap enL) ∧ (∀ p ∈ E, SlB K w p.2 p.1.body) ∧ E.length ≤ c ∧ c ≤ 9223372036854775807 ∧ (0 < E.length → ∀ ad, A = some ad → K ad.block)
def mdL (M : Mdl) (vl vc : Value) : List Value := [vl, .int .u64 (M.trim : Int), vc]
def MdF (K : Nat → Prop) (w : World) (vl vc : Value) (M : Mdl) : Prop := SlE K w vl M.log ∧ SlU K w vc M.cur
def MdV (K : Nat → Prop) (w : World) (v : Value) (M : Mdl) : Prop := ∃ vl vc, v = .agg (mdL M vl vc).toArray ∧ MdF K w vl vc M
def nats (l : List Nat) : List Int := l.map (fun k : Nat => (k : Int))
def crL (c : Crs) (vl vc vd : Value) : List Value := [vl, .int .u64 (c.m.trim : Int), vc, vd]
def CrF (K : Nat → Prop) (w : World) (vl vc vd : Value) (c : Crs) : Prop := MdF K w vl vc c.m ∧ SlI K w vd (nats c.done)
def CrV (K : Nat → Prop) (w : World) (v : Value) (c : Crs) : Prop := ∃ vl vc vd, v = .agg (crL c vl vc vd).toArray ∧ CrF K w vl vc vd c
section
variable {K K' S : Nat → Prop} {w w' : World} {v vl vc vd : Value}
theorem SlU.below {l : List Nat} (h : SlU K w v l) (hb : Below w.heap.size w w') : SlU K w' v l := by
 obtain ⟨A, c, e, h1, h2⟩ := h
 exact ⟨A, c, e, Reads.below h1 hb, h2⟩
theorem SlU.mod {l : List Nat} (h : SlU K w v l) (hm : Mod S w w') (hK : ∀ b, K b → ¬ S b) : SlU K w' v l := by
 obtain ⟨A, c, e, h1, h2, h3, h4⟩ := h
 exact ⟨A, c, e, reads_mod h1 hm fun h0 ad ea => hK _ (h4 h0 ad ea), h2, h3, h4⟩
theorem reads_lt {size n : Nat} {A : Option Addr} {xs : List Value} (h : Reads w size A n xs) (h0 : 0 < n) {ad : Addr} (ea : A = some ad) : ad.block < w.heap.size := by
 obtain ⟨ad', e', hb, _⟩ := h.2 h0
 rw [ea] at e'
 injection e' with e'
 rw [e']
 exact hb
theorem SlU.weak {l : List Nat} (h : SlU K w v l) (hK : ∀ b, b < w.heap.size → K b → K' b) : SlU K' w v l := by
 obtain ⟨A, c, e, h1, h2, h3, h4⟩ := h
 exact ⟨A, c, e, h1, h2, h3, fun h0 ad ea => hK _ (reads_lt h1 h0 ea) (h4 h0 ad ea)⟩
theorem SlE.below {l : List Ent} (h : SlE K w v l) (hb : Below w.heap.size w w') : SlE K w' v l := by
 obtain ⟨A, c, E, e, h0, h1, h2, h3⟩ := h
 exact ⟨A, c, E, e, h0, Reads.below h1 hb, fun p hp => (h2 p hp).below hb, h3⟩
theorem SlE.mod {l : List Ent} (h : SlE K w v l) (hm : Mod S w w') (hK : ∀ b, K b → ¬ S b) : SlE K w' v l := by
 obtain ⟨A, c, E, e, h0, h1, h2, h3, h4, h5⟩ := h
 exact ⟨A, c, E, e, h0, reads_mod h1 hm fun h0 ad ea => hK _ (h5 h0 ad ea), fun p hp => (h2 p hp).mod hm hK, h3, h4, h5⟩
theorem SlE.weak {l : List Ent} (h : SlE K w v l) (hK : ∀ b, b < w.heap.size → K b → K' b) : SlE K' w v l := by
 obtain ⟨A, c, E, e, h0, h1, h2, h3, h4, h5⟩ := h
 exact ⟨A, c, E, e, h0, h1, fun p hp => (h2 p hp).weak hK, h3, h4, fun h0 ad ea => hK _ (reads_lt h1 h0 ea) (h5 h0 ad ea)⟩
theorem MdF.below {M : Mdl} (h : MdF K w vl vc M) (hb : Below w.heap.size w w') : MdF K w' vl vc M := ⟨h.1.below hb, h.2.below hb⟩
theorem MdF.mod {M : Mdl} (h : MdF K w vl vc M) (hm : Mod S w w') (hK : ∀ b, K b → ¬ S b) : MdF K w' vl vc M := ⟨h.1.mod hm hK, h.2.mod hm hK⟩
theorem MdF.weak {M : Mdl} (h : MdF K w vl vc M) (hK : ∀ b, b < w.heap.size → K b → K' b) : MdF K' w vl vc M := ⟨h.1.weak hK, h.2.weak hK⟩
theorem MdV.below {M : Mdl} (h : MdV K w v M) (hb : Below w.heap.size w w') : MdV K w' v M := by
 obtain ⟨vl, vc, e, h⟩ := h
 exact ⟨vl, vc, e, h.below hb⟩
theorem MdV.mod {M : Mdl} (h : MdV K w v M) (hm : Mod S w w') (hK : ∀ b, K b → ¬ S b) : MdV K w' v M := by
 obtain ⟨vl, vc, e, h⟩ := h
 exact ⟨vl, vc, e, h.mod hm hK⟩
theorem MdV.weak {M : Mdl} (h : MdV K w v M) (hK : ∀ b, b < w.heap.size → K b → K' b) : MdV K' w v M := by
 obtain ⟨vl, vc, e, h⟩ := h
 exact ⟨vl, vc, e, h.weak hK⟩
theorem CrF.below {c : Crs} (h : CrF K w vl vc vd c) (hb : Below w.heap.size w w') : CrF K w' vl vc vd c := ⟨h.1.below hb, h.2.below hb⟩
theorem CrF.mod {c : Crs} (h : CrF K w vl vc vd c) (hm : Mod S w w') (hK : ∀ b, K b → ¬ S b) : CrF K w' vl vc vd c := ⟨h.1.mod hm hK, h.2.mod hm hK⟩
theorem CrF.weak {c : Crs} (h : CrF K w vl vc vd c) (hK : ∀ b, b < w.heap.size → K b → K' b) : CrF K' w vl vc vd c := ⟨h.1.weak hK, h.2.weak hK⟩
theorem CrV.below {c : Crs} (h : CrV K w v c) (hb : Below w.heap.size w w') : CrV K w' v c := by
 obtain ⟨vl, vc, vd, e, h⟩ := h
 exact ⟨vl, vc, vd, e, h.below hb⟩
theorem CrV.mod {c : Crs} (h : CrV K w v c) (hm : Mod S w w') (hK : ∀ b, K b → ¬ S b) : CrV K w' v c := by
 obtain ⟨vl, vc, vd, e, h⟩ := h
 exact ⟨vl, vc, vd, e, h.mod hm hK⟩
theorem CrV.weak {c : Crs} (h : CrV K w v c) (hK : ∀ b, b < w.heap.size → K b → K' b) : CrV K' w v c := by
 obtain ⟨vl, vc, vd, e, h⟩ := h
 exact ⟨vl, vc, vd, e, h.weak hK⟩
theorem SlU.one {l : List Nat} (h : SlU K w v l) : v.oneCell' = true := by obtain ⟨A, c, rfl, _⟩ := h; rfl
theorem SlE.one {l : List Ent} (h : SlE K w v l) : v.oneCell' = true := by obtain ⟨A, c, E, rfl, _⟩ := h; rfl
theorem SlU.nil (K : Nat → Prop) (w : World) : SlU K w (.slice none 0 0) [] := ⟨none, 0, rfl, Reads.nil_ _ _ _, Nat.le_refl _, by decide, fun h => absurd h (by decide)⟩
theorem SlE.nil (K : Nat → Prop) (w : World) : SlE K w (.slice none 0 0) [] := ⟨none, 0, [], rfl, rfl, Reads.nil_ _ _ _, fun _ h => (by cases h), Nat.le_refl _, by decide, fun h => absurd h (by decide)⟩
end
theorem entry_ty : SliceTy Tryz.prog 42 73 3 40 := SliceTy.mk Tryz.underlying42 (z := .agg #[.int .i64 0, .int .u64 0, .slice none 0 0]) (by kernel_rfl) rfl
theorem model_ty : SliceTy Tryz.prog 57 45 3 56 := SliceTy.mk Tryz.underlying57 (z := .agg #[.slice none 0 0, .int .u64 0, .slice none 0 0]) (by kernel_rfl) rfl
theorem course_ty : SliceTy Tryz.prog 100 99 4 80 := SliceTy.mk Tryz.underlying100 (z := .agg #[.slice none 0 0, .int .u64 0, .slice none 0 0, .slice none 0 0]) (by kernel_rfl) rfl
theorem zero_model (w : World) : (zeroValue 45).run Tryz.prog w = .ok (.agg (mdL zMdl (.slice none 0 0) (.slice none 0 0)).toArray) w := (zero_of_info (n := 3) (by kernel_rfl)).1 w
theorem info_model {cs : Array Value} (h : cs.size = 3) : (Tryz.prog.info? 45).map (·.size) = some cs.size := by rw [h]; kernel_rfl
theorem info_course {cs : Array Value} (h : cs.size = 4) : (Tryz.prog.info? 99).map (·.size) = some cs.size := by rw [h]; kernel_rfl
theorem enL_one {E : List EnV} {K : Nat → Prop} {w : World} (h : ∀ p ∈ E, SlB K w p.2 p.1.body) : ∀ u ∈ E.flatMap enL, u.oneCell' = true := by
 intro u hu
 obtain ⟨p, hp, hu⟩ := List.mem_flatMap.1 hu
 simp only [enL, List.mem_cons, List.not_mem_nil, or_false] at hu
 rcases hu with rfl | rfl | rfl
 ·rfl
 ·rfl
 ·exact (h p hp).one
/-- What slices.Clone of entries answers. -/
def CloneE (base : Nat) (E : List EnV) (e : Ending) (w' : World) : Prop := ∃ v', e = .returned v' ∧ w'.ownsRow base 73 3 v' E.length (E.flatMap enL)
set_option maxHeartbeats 400000 in
theorem eclone_any {w : World} {A : Option Addr} {c : Nat} {E : List EnV} (hA : Reads w 3 A E.length (E.flatMap enL)) (h1 : ∀ u ∈ E.flatMap enL, u.oneCell' = true) (hn : E.length ≤ 1000000000) :
  Calls Tryz.prog 58 #[.slice A E.length c] w fun e w' => CloneE w.heap.size E e w' ∧ Below w.heap.size w w' := by
 have hen := fun (w : World) (a : Option Addr) (n c n' c' : Nat) => Lib.run_eql_slice_nil (P := Tryz.prog) w 42 73 a n c n' c' Tryz.underlying42
 rcases A with _ | ad
 ·obtain rfl : E = [] := by
   rcases Nat.eq_zero_or_pos E.length with h0 | h0
   ·exact List.eq_nil_of_length_eq_zero h0
   ·obtain ⟨_, h, _⟩ := hA.2 h0; cases h
  go_enter Tryz.func58, Tryz.ntmps58
  go_wp2_with fail
  go_ret
  exact ⟨⟨_, rfl, World.ownsRow_nil _ _ _ _⟩, Below.refl _ _⟩
 ·have hown0 : (w.alloc (.cells #[] 73)).ownsRow w.heap.size 73 3 (.slice (some ⟨w.heap.size, 0, none⟩) 0 0) 0 [] := World.ownsRow_made _ _ _ (Nat.le_refl _) (by simp [maxLen]) rfl
  have hA' := Reads.alloc hA (.cells #[] 73)
  generalize hrow : E.flatMap enL = r at hA' h1
  have HR := Lib.hid hrow
  clear hrow hA
  go_enter Tryz.func58, Tryz.ntmps58
  go_wp2_with (first
   | (at_builtin; refine app_list entry_ty rfl (s := .tmp 5) (x := .tmp 6) rfl hown0 rfl hA' rfl h1 (by omega) (by simp) ?_; intro v3 w3 hown3 hg3 _))
  go_ret
  rw [Nat.zero_add, List.nil_append, ← HR.out] at hown3
  exact ⟨⟨_, rfl, hown3⟩, (below_new _ _).grown hg3 (by simp) (own_ge hown0)⟩
end Go.Proofs.YtpjmolnkmlpfeaaGreatDoor
