/- Joined texts: JuF, JuWa, JuG, JuH. -/
import Derived.Test.YtpjmolnkmlpfeaaGreatDoorJuE
import Derived.Test.YtpjmolnkmlpfeaaGreatDoorJuD
import Derived.Laws.CopyOwn
/- Whether a publish is fresh; where a cursor is; a model in memory of its own. -/
set_option linter.unusedVariables false
set_option linter.unusedSimpArgs false
namespace Go.Proofs.YtpjmolnkmlpfeaaGreatDoor
set_option maxRecDepth 100000
open Go.RowKit

set_option maxHeartbeats 4000000 in
theorem fresh_any {K K' : Nat → Prop} {w : World} {vl vc v : Value} {M : Mdl} {C : Cal} (h : MdF K w vl vc M) (hv : SlB K' w v C.body) (hn : M.log.length ≤ 100000) :
  Calls Tryz.prog 50 #[.agg (mdL M vl vc).toArray, .agg (calL C v).toArray] w fun e w' => e = .returned (.bool (freshM M C)) ∧ Below w.heap.size w w' := by
 obtain ⟨h1, A2, c2, rfl, _⟩ := h
 obtain ⟨Db, cb, rfl, _⟩ := hv
 generalize M.cur.length = n2
 generalize C.body.length = nb
 have HE := Lib.hid h1
 obtain ⟨A, c, E, rfl, hE, hr, hall, _⟩ := h1
 have hl : M.log.length = E.length := by rw [← hE, List.length_map]
 obtain ⟨vL, hvL⟩ : ∃ vL, vL = Value.slice A E.length c := ⟨_, rfl⟩
 have hB1 : Blk ((w.alloc (.cells (mdL M (.slice A E.length c) (.slice A2 n2 c2)).toArray 45)).alloc (.cells (calL C (.slice Db nb cb)).toArray 25)) w.heap.size 45 (mdL M (.slice A E.length c) (.slice A2 n2 c2)).toArray := (Blk.new _ _ _).alloc _
 have hB2 : Blk ((w.alloc (.cells (mdL M (.slice A E.length c) (.slice A2 n2 c2)).toArray 45)).alloc (.cells (calL C (.slice Db nb cb)).toArray 25)) (w.heap.size + 1) 25 (calL C (.slice Db nb cb)).toArray := by
  have := Blk.new (w.alloc (.cells (mdL M (.slice A E.length c) (.slice A2 n2 c2)).toArray 45)) 25 (calL C (.slice Db nb cb)).toArray
  rwa [alloc_size] at this
 have hT : Below w.heap.size w ((w.alloc (.cells (mdL M (.slice A E.length c) (.slice A2 n2 c2)).toArray 45)).alloc (.cells (calL C (.slice Db nb cb)).toArray 25)) := ((Below.refl _ _).alloc (Nat.le_refl _) _).alloc (by simp) _
 have c0 := (hB1.cell 0).trans (rfl : _ = some (Value.slice A E.length c))
 have c1 := (hB1.cell 1).trans (rfl : _ = some (Value.int .u64 (M.trim : Int)))
 have c2' := (hB1.cell 2).trans (rfl : _ = some (Value.slice A2 n2 c2))
 have d0 := (hB2.cell 0).trans (rfl : _ = some (Value.int .i64 C.cl))
 have hE2 := HE.out.below hT
 have hlast := last_any (vc := .slice A2 n2 c2) hE2 C.cl hn
 have HB1 := Lib.hid hB1
 have HB2 := Lib.hid hB2
 have HT := Lib.hid hT
 have HR := Lib.hid hr
 have HEQ := Lib.hid hE
 clear hB1 hB2 hT hE2 hr hall hE HE
 go_enter Tryz.func50, Tryz.ntmps50
 go_wp2_with fail
 refine hlast.mono ?_
 rintro e w3 ⟨rfl, hb3⟩
 have HT3 := Lib.hid (below_call HT.out HT.out.size hb3)
 have HB13 := Bb HB1 hb3
 have HB23 := Bb HB2 hb3
 have e0 := (HB13.out.cell 0).trans (rfl : _ = some (Value.slice A E.length c))
 have e6 := (HB23.out.cell 6).trans (rfl : _ = some (Value.int .u64 (C.seq : Int)))
 clear hlast hb3 c0 c1 c2' d0
 cases hj : lastOf M C.cl with
 | none =>
  have n0 : lastI none = -1 := rfl
  rw [n0]
  have HF : Hid (freshM M C = true) := by show _ = _; unfold freshM; rw [hj]
  clear hj
  go_wp2_with fail
  refine PF.b (by kernel_rfl) (fun _ _ _ _ _ h => h) ?_
  refine PF.t 0 (by kernel_rfl) rfl (by go_simp; try rfl) ?_
  try simp only [pz]
  refine PF.t 1 (by kernel_rfl) rfl (by go_simp; try rfl) ?_
  try simp only [pz]
  refine PF.t 2 (by kernel_rfl) rfl (by go_simp; try rfl) ?_
  try simp only [pz]
  refine PF.s 3 (by kernel_rfl) rfl ?_
  refine PF.s 4 (by kernel_rfl) rfl ?_
  refine PF.s 5 (by kernel_rfl) rfl ?_
  refine PF.s 6 (by kernel_rfl) rfl ?_
  refine PF.s 7 (by kernel_rfl) rfl ?_
  refine PF.s 8 (by kernel_rfl) rfl ?_
  refine PF.s 9 (by kernel_rfl) rfl ?_
  refine PF.s 10 (by kernel_rfl) rfl ?_
  refine PF.s 11 (by kernel_rfl) rfl ?_
  try simp only [pz]
  refine PF.t 12 (by kernel_rfl) rfl (by go_simp; try rfl) ?_
  try simp only [pz]
  refine PF.t 13 (by kernel_rfl) rfl (by go_simp; try rfl) ?_
  try simp only [pz]
  refine PF.d (by kernel_rfl) ?_
  go_wp2_with fail
  go_ret
  exact ⟨by rw [HF.out]; rfl, HT3.out.drew⟩
 | some j =>
  have hjl := lastOf_lt hj
  rw [hl] at hjl
  have hrr := HR.out.below (HT3.out.mono (Nat.le_refl _))
  obtain ⟨b, o, rfl, hbl, dz, d1, dz'⟩ := en_cells hrr hjl
  have hgj := map_getD HEQ.out hjl
  generalize hy : E[j].1 = y at d1 hgj
  have q0 : decide ((j : Int) < 0) = false := decide_eq_false (by omega)
  have n0 : lastI (some j) = (j : Int) := rfl
  rw [n0]
  have HF : Hid (freshM M C = decide (y.seq < C.seq)) := by show _ = _; unfold freshM; rw [hj]; simp only [hgj]
  clear dz dz' hy hj hrr hgj
  by_cases hs : y.seq < C.seq
  ·have s0 : decide (y.seq < C.seq) = true := decide_eq_true hs
   have s1 : decide ((y.seq : Int) < (C.seq : Int)) = true := decide_eq_true (by omega)
   clear hs
   go_wp2_with fail
   refine PF.b (by kernel_rfl) (fun _ _ _ _ _ h => h) ?_
   refine PF.t 0 (by kernel_rfl) rfl (by go_simp; try rfl) ?_
   try simp only [pz]
   refine PF.t 1 (by kernel_rfl) rfl (by go_simp; try rfl) ?_
   try simp only [pz]
   refine PF.t 2 (by kernel_rfl) rfl (by go_simp; try rfl) ?_
   try simp only [pz]
   refine PF.t 3 (by kernel_rfl) rfl (by go_simp; try rfl) ?_
   try simp only [pz]
   refine PF.m 4 (w.heap.size) (by kernel_rfl) rfl (fun hcu => by go_simp; try rfl) ?_
   try simp only [pz]
   refine PF.t 5 (by kernel_rfl) rfl (by go_simp; try rfl) ?_
   try simp only [pz]
   refine PF.t 6 (by kernel_rfl) rfl (by go_simp; try rfl) ?_
   try simp only [pz]
   refine PF.t 7 (by kernel_rfl) rfl (by go_simp; try rfl) ?_
   try simp only [pz]
   refine PF.m 8 (b) (by kernel_rfl) rfl (fun hcu => by go_simp; try rfl) ?_
   try simp only [pz]
   refine PF.t 9 (by kernel_rfl) rfl (by go_simp; try rfl) ?_
   try simp only [pz]
   refine PF.m 10 ((w.heap.size+1)) (by kernel_rfl) rfl (fun hcu => by go_simp; try rfl) ?_
   try simp only [pz]
   refine PF.t 11 (by kernel_rfl) rfl (by go_simp; try rfl) ?_
   try simp only [pz]
   refine PF.t 12 (by kernel_rfl) rfl (by go_simp; try rfl) ?_
   try simp only [pz]
   refine PF.t 13 (by kernel_rfl) rfl (by go_simp; try rfl) ?_
   try simp only [pz]
   refine PF.d (by kernel_rfl) ?_
   go_wp2_with fail
   go_ret
   exact ⟨by rw [HF.out, s0]; rfl, HT3.out.drew⟩
  ·have s0 : decide (y.seq < C.seq) = false := decide_eq_false hs
   have s1 : decide ((y.seq : Int) < (C.seq : Int)) = false := decide_eq_false (by omega)
   clear hs
   go_wp2_with fail
   refine PF.b (by kernel_rfl) (fun _ _ _ _ _ h => h) ?_
   refine PF.t 0 (by kernel_rfl) rfl (by go_simp; try rfl) ?_
   try simp only [pz]
   refine PF.t 1 (by kernel_rfl) rfl (by go_simp; try rfl) ?_
   try simp only [pz]
   refine PF.t 2 (by kernel_rfl) rfl (by go_simp; try rfl) ?_
   try simp only [pz]
   refine PF.t 3 (by kernel_rfl) rfl (by go_simp; try rfl) ?_
   try simp only [pz]
   refine PF.m 4 (w.heap.size) (by kernel_rfl) rfl (fun hcu => by go_simp; try rfl) ?_
   try simp only [pz]
   refine PF.t 5 (by kernel_rfl) rfl (by go_simp; try rfl) ?_
   try simp only [pz]
   refine PF.t 6 (by kernel_rfl) rfl (by go_simp; try rfl) ?_
   try simp only [pz]
   refine PF.t 7 (by kernel_rfl) rfl (by go_simp; try rfl) ?_
   try simp only [pz]
   refine PF.m 8 (b) (by kernel_rfl) rfl (fun hcu => by go_simp; try rfl) ?_
   try simp only [pz]
   refine PF.t 9 (by kernel_rfl) rfl (by go_simp; try rfl) ?_
   try simp only [pz]
   refine PF.m 10 ((w.heap.size+1)) (by kernel_rfl) rfl (fun hcu => by go_simp; try rfl) ?_
   try simp only [pz]
   refine PF.t 11 (by kernel_rfl) rfl (by go_simp; try rfl) ?_
   try simp only [pz]
   refine PF.t 12 (by kernel_rfl) rfl (by go_simp; try rfl) ?_
   try simp only [pz]
   refine PF.t 13 (by kernel_rfl) rfl (by go_simp; try rfl) ?_
   try simp only [pz]
   refine PF.d (by kernel_rfl) ?_
   go_wp2_with fail
   go_ret
   exact ⟨by rw [HF.out, s0]; rfl, HT3.out.drew⟩
def curV (C : Cal) (g : Nat) : Value := if subOk C then .pointer (some ⟨g, (C.sub - 1).toNat, none⟩) else .pointer none
set_option maxHeartbeats 4000000 in
theorem cursor_any {K : Nat → Prop} {w : World} {vl v : Value} {M : Mdl} {C : Cal} {g : Nat} (hv1 : vl.oneCell' = true) (hv : SlB K w v C.body) :
  Calls Tryz.prog 38 #[.agg (mdL M vl (.slice (some ⟨g, 0, none⟩) 3 3)).toArray, .agg (calL C v).toArray] w fun e w' => e = .returned (curV C g) ∧ Below w.heap.size w w' := by
 obtain ⟨Db, cb, rfl, _⟩ := hv
 generalize C.body.length = nb
 have hB1 : Blk ((w.alloc (.cells (mdL M vl (.slice (some ⟨g, 0, none⟩) 3 3)).toArray 45)).alloc (.cells (calL C (.slice Db nb cb)).toArray 25)) w.heap.size 45 (mdL M vl (.slice (some ⟨g, 0, none⟩) 3 3)).toArray := (Blk.new _ _ _).alloc _
 have hB2 : Blk ((w.alloc (.cells (mdL M vl (.slice (some ⟨g, 0, none⟩) 3 3)).toArray 45)).alloc (.cells (calL C (.slice Db nb cb)).toArray 25)) (w.heap.size + 1) 25 (calL C (.slice Db nb cb)).toArray := by
  have := Blk.new (w.alloc (.cells (mdL M vl (.slice (some ⟨g, 0, none⟩) 3 3)).toArray 45)) 25 (calL C (.slice Db nb cb)).toArray
  rwa [alloc_size] at this
 have hT : Below w.heap.size w ((w.alloc (.cells (mdL M vl (.slice (some ⟨g, 0, none⟩) 3 3)).toArray 45)).alloc (.cells (calL C (.slice Db nb cb)).toArray 25)) := ((Below.refl _ _).alloc (Nat.le_refl _) _).alloc (by simp) _
 have c2' := (hB1.cell 2).trans (rfl : _ = some (Value.slice (some ⟨g, 0, none⟩) 3 3))
 have d5 := (hB2.cell 5).trans (rfl : _ = some (Value.int .i64 C.sub))
 have HT := Lib.hid hT
 clear hB1 hB2 hT
 by_cases h1 : C.sub < 1
 ·have s0 : decide (C.sub < 1) = true := decide_eq_true h1
  have HR : Hid (curV C g = .pointer none) := by
   show _ = _
   unfold curV subOk
   rw [if_neg (by simp; omega)]
  clear h1
  go_enter Tryz.func38, Tryz.ntmps38
  go_wp2_with fail
  go_ret
  exact ⟨by rw [HR.out]; rfl, HT.out⟩
 ·by_cases h2 : 3 < C.sub
  ·have s0 : decide (C.sub < 1) = false := decide_eq_false h1
   have s1 : decide (3 < C.sub) = true := decide_eq_true h2
   have HR : Hid (curV C g = .pointer none) := by
    show _ = _
    unfold curV subOk
    rw [if_neg (by simp; omega)]
   clear h1 h2
   go_enter Tryz.func38, Tryz.ntmps38
   go_wp2_with fail
   go_ret
   exact ⟨by rw [HR.out]; rfl, HT.out⟩
  ·obtain ⟨k, hk, hk2⟩ : ∃ k : Nat, C.sub = (k : Int) + 1 ∧ k < 3 := ⟨(C.sub - 1).toNat, by omega, by omega⟩
   have s0 : decide ((k : Int) + 1 < 1) = false := decide_eq_false (by omega)
   have s1 : decide ((3 : Int) < (k : Int) + 1) = false := decide_eq_false (by omega)
   have s2 : IntKind.i64.wrap ((k : Int) + 1 - 1) = (k : Int) := by rw [IntKind.wrap_i64]; omega
   have HR : Hid (curV C g = .pointer (some ⟨g, k, none⟩)) := by
    show _ = _
    unfold curV subOk
    rw [if_pos (by simp; omega), show (C.sub - 1).toNat = k by omega]
   rw [hk] at d5
   clear h1 h2
   go_enter Tryz.func38, Tryz.ntmps38
   go_wp2_with fail
   go_ret
   exact ⟨by rw [HR.out]; rfl, HT.out⟩
end Go.Proofs.YtpjmolnkmlpfeaaGreatDoor

/- Slices that may be written over; bytes of one's own. -/
namespace Go.Proofs.YtpjmolnkmlpfeaaGreatDoor
set_option maxRecDepth 100000
open Go.RowKit

/-- A slice that may be written over: bytes; numbers; entries. -/
def ShW (K : Nat → Prop) (w : World) (v : Value) (n size : Nat) (P : Nat → Nat → Nat → Prop) : Prop := ∃ A c, v = .slice A n c ∧ (0 < n → ∃ b o, A = some ⟨b, o, none⟩ ∧ K b ∧ b < w.heap.size ∧ (∀ o', w.frozen? ⟨b, o', none⟩ = false) ∧ ∀ j, j < n → P b (o + j * size) j)
def ShB (K : Nat → Prop) (w : World) (v : Value) (n : Nat) : Prop := ShW K w v n 1 fun b o _ => ∃ x : Int, w.cell? ⟨b, o, none⟩ = some (.int .u8 x)
def ShU (K : Nat → Prop) (w : World) (v : Value) (n : Nat) : Prop := ShW K w v n 1 fun b o _ => ∃ x : Int, w.cell? ⟨b, o, none⟩ = some (.int .u64 x)
def ShE (K : Nat → Prop) (w : World) (v : Value) (vs : List (Value × Nat)) : Prop := ShW K w v vs.length 3 fun b o j => (∃ x : Int, w.cell? ⟨b, o, none⟩ = some (.int .i64 x)) ∧ (∃ x : Int, w.cell? ⟨b, o + 1, none⟩ = some (.int .u64 x)) ∧ ∀ p, vs[j]? = some p → w.cell? ⟨b, o + 2, none⟩ = some p.1 ∧ ShB (fun b' => K b' ∧ b' ≠ b) w p.1 p.2
theorem frozen_below {w w' : World} {b : Nat} (h : Below w.heap.size w w') (hb : b < w.heap.size) {o : Nat} : w'.frozen? ⟨b, o, none⟩ = w.frozen? ⟨b, o, none⟩ := by
 simp only [World.frozen?]
 rw [h.block b hb]
theorem cell_kind {w : World} {p q : Addr} {k : IntKind} {x y : Int} (h : w.cell? p = some (.int k x)) (hq : p = q → ∃ z, w.cell? q = some (.int k z)) : ∃ z, (w.setCell q (.int k y)).cell? p = some (.int k z) := by
 by_cases e : q = p
 ·subst e
  exact ⟨y, World.cell?_setCell_same _ _ _ h⟩
 ·exact ⟨x, by rw [World.cell?_setCell_other _ _ _ _ e]; exact h⟩
theorem cell_far {w : World} {p q : Addr} {v u : Value} (h : w.cell? p = some v) (hb : q.block ≠ p.block) : (w.setCell q u).cell? p = some v := by
 rw [World.cell?_setCell_other _ _ _ _ (fun e => hb (by rw [e]))]; exact h
section
variable {K K' : Nat → Prop} {w : World} {v : Value} {n : Nat}
theorem ShB.weak (h : ShB K w v n) (hK : ∀ b, K b → K' b) : ShB K' w v n := by
 obtain ⟨A, c, e, h⟩ := h
 exact ⟨A, c, e, fun h0 => by obtain ⟨b, o, e, hk, r⟩ := h h0; exact ⟨b, o, e, hK b hk, r⟩⟩
theorem ShB.byte (h : ShB K w v n) (q : Addr) (y : Int) : ShB K (w.setCell q (.int .u8 y)) v n := by
 obtain ⟨A, c, e, h⟩ := h
 refine ⟨A, c, e, fun h0 => ?_⟩
 obtain ⟨b, o, ea, hk, hb, hf, hc⟩ := h h0
 refine ⟨b, o, ea, hk, by simpa [World.setCell] using hb, fun o' => (World.frozen?_setCell _ _ _ _).trans (hf o'), fun j hj => ?_⟩
 obtain ⟨x, hx⟩ := hc j hj
 exact cell_kind hx fun e => e ▸ ⟨x, hx⟩
theorem ShB.far (h : ShB K w v n) {q : Addr} (hq : ¬ K q.block) (u : Value) : ShB K (w.setCell q u) v n := by
 obtain ⟨A, c, e, h⟩ := h
 refine ⟨A, c, e, fun h0 => ?_⟩
 obtain ⟨b, o, ea, hk, hb, hf, hc⟩ := h h0
 refine ⟨b, o, ea, hk, by simpa [World.setCell] using hb, fun o' => (World.frozen?_setCell _ _ _ _).trans (hf o'), fun j hj => ?_⟩
 obtain ⟨x, hx⟩ := hc j hj
 exact ⟨x, cell_far hx fun e => hq (by rw [e]; exact hk)⟩
theorem ShU.set (h : ShU K w v n) (q : Addr) (y : Int) : ShU K (w.setCell q (.int .u64 y)) v n := by
 obtain ⟨A, c, e, h⟩ := h
 refine ⟨A, c, e, fun h0 => ?_⟩
 obtain ⟨b, o, ea, hk, hb, hf, hc⟩ := h h0
 refine ⟨b, o, ea, hk, by simpa [World.setCell] using hb, fun o' => (World.frozen?_setCell _ _ _ _).trans (hf o'), fun j hj => ?_⟩
 obtain ⟨x, hx⟩ := hc j hj
 exact cell_kind hx fun e => e ▸ ⟨x, hx⟩
theorem ShU.far (h : ShU K w v n) {q : Addr} (hq : ¬ K q.block) (u : Value) : ShU K (w.setCell q u) v n := by
 obtain ⟨A, c, e, h⟩ := h
 refine ⟨A, c, e, fun h0 => ?_⟩
 obtain ⟨b, o, ea, hk, hb, hf, hc⟩ := h h0
 refine ⟨b, o, ea, hk, by simpa [World.setCell] using hb, fun o' => (World.frozen?_setCell _ _ _ _).trans (hf o'), fun j hj => ?_⟩
 obtain ⟨x, hx⟩ := hc j hj
 exact ⟨x, cell_far hx fun e => hq (by rw [e]; exact hk)⟩
variable {vs : List (Value × Nat)}
theorem ShE.byte (h : ShE K w v vs) {q : Addr} (hq : ∀ b o c, v = .slice (some ⟨b, o, none⟩) vs.length c → 0 < vs.length → q.block ≠ b) (y : Int) : ShE K (w.setCell q (.int .u8 y)) v vs := by
 obtain ⟨A, c, e, h⟩ := h
 refine ⟨A, c, e, fun h0 => ?_⟩
 obtain ⟨b, o, ea, hk, hb, hf, hc⟩ := h h0
 have hne := hq b o c (by rw [e, ea]) h0
 refine ⟨b, o, ea, hk, by simpa [World.setCell] using hb, fun o' => (World.frozen?_setCell _ _ _ _).trans (hf o'), fun j hj => ?_⟩
 obtain ⟨⟨x, hx⟩, ⟨z, hz⟩, hp⟩ := hc j hj
 exact ⟨⟨x, cell_far hx hne⟩, ⟨z, cell_far hz hne⟩, fun p e => ⟨cell_far (hp p e).1 hne, (hp p e).2.byte q y⟩⟩
theorem ShE.prod (h : ShE K w v vs) {b o c k : Nat} (hv : v = .slice (some ⟨b, o, none⟩) vs.length c) (hk : k < vs.length) (y : Int) : ShE K (w.setCell ⟨b, o + k * 3, none⟩ (.int .i64 y)) v vs := by
 obtain ⟨A, c, e, h⟩ := h
 refine ⟨A, c, e, fun h0 => ?_⟩
 obtain ⟨b', o', ea, hkb, hb, hf, hc⟩ := h h0
 rw [e, ea] at hv
 injection hv with hv
 injection hv with hv
 injection hv with e1 e2
 subst e1 e2
 refine ⟨b', o', ea, hkb, by simpa [World.setCell] using hb, fun o' => (World.frozen?_setCell _ _ _ _).trans (hf o'), fun j hj => ?_⟩
 obtain ⟨⟨x, hx⟩, ⟨z, hz⟩, hp⟩ := hc j hj
 have ho : ∀ i, i < 3 → 0 < i → (⟨b', o' + k * 3, none⟩ : Addr) ≠ ⟨b', o' + j * 3 + i, none⟩ := fun i h1 h2 e => by
  injection e with _ e
  omega
 exact ⟨cell_kind hx fun e => e ▸ ⟨x, hx⟩, ⟨z, by rw [World.cell?_setCell_other _ _ _ _ (ho 1 (by decide) (by decide))]; exact hz⟩, fun p e => ⟨by rw [World.cell?_setCell_other _ _ _ _ (ho 2 (by decide) (by decide))]; exact (hp p e).1, (hp p e).2.far (fun h => h.2 rfl) _⟩⟩
end
theorem ShU.other {K : Nat → Prop} {w : World} {v : Value} {n : Nat} (h : ShU K w v n) {q : Addr} {k : IntKind} {x : Int} (hk : k ≠ .u64) (hq : w.cell? q = some (.int k x)) (y : Value) : ShU K (w.setCell q y) v n := by
 obtain ⟨A, c, e, h⟩ := h
 refine ⟨A, c, e, fun h0 => ?_⟩
 obtain ⟨b, o, ea, hk', hb, hf, hc⟩ := h h0
 refine ⟨b, o, ea, hk', by simpa [World.setCell] using hb, fun o' => (World.frozen?_setCell _ _ _ _).trans (hf o'), fun j hj => ?_⟩
 obtain ⟨z, hz⟩ := hc j hj
 refine ⟨z, ?_⟩
 rw [World.cell?_setCell_other _ _ _ _ fun e => ?_]
 ·exact hz
 ·rw [e, hz] at hq
  injection hq with hq
  injection hq with hq _
  exact hk hq.symm
theorem one_set {w : World} {g : Nat} {t : TypeId} {cs : Array Value} {q : Addr} (h : Blk w g t cs) (hq : q.block ≠ g) (y : Value) : Blk (w.setCell q y) g t cs := h.mod (Mod.set (S := fun b => b = q.block) (Mod.refl _ _) (p := q) (fun _ => rfl) y) fun e => hq e.symm
section
variable {K K' S : Nat → Prop} {w w' : World} {v : Value}
theorem ShW.mono {n size : Nat} {P P' : Nat → Nat → Nat → Prop} (h : ShW K w v n size P) (hs : ∀ b, K b → b < w.heap.size → K' b ∧ b < w'.heap.size ∧ (∀ o, w'.frozen? ⟨b, o, none⟩ = w.frozen? ⟨b, o, none⟩)) (hP : ∀ b o j, K b → b < w.heap.size → j < n → P b o j → P' b o j) : ShW K' w' v n size P' := by
 obtain ⟨A, c, e, h⟩ := h
 refine ⟨A, c, e, fun h0 => ?_⟩
 obtain ⟨b, o, ea, hk, hb, hf, hc⟩ := h h0
 obtain ⟨h1, h2, h3⟩ := hs b hk hb
 exact ⟨b, o, ea, h1, h2, fun o' => (h3 o').trans (hf o'), fun j hj => hP b _ j hk hb hj (hc j hj)⟩
theorem frozen_mod (hm : Mod S w w') {b : Nat} (hb : b < w.heap.size) (hn : ¬ S b) {o : Nat} : w'.frozen? ⟨b, o, none⟩ = w.frozen? ⟨b, o, none⟩ := by
 simp only [World.frozen?]
 rw [hm.block b hb hn]
theorem cell_mod (hm : Mod S w w') {b : Nat} (hb : b < w.heap.size) (hn : ¬ S b) (o : Nat) : w'.cell? ⟨b, o, none⟩ = w.cell? ⟨b, o, none⟩ := by
 simp only [World.cell?]
 rw [hm.block b hb hn]
theorem ShB.mod {n : Nat} (h : ShB K w v n) (hm : Mod S w w') (hK : ∀ b, K b → ¬ S b) : ShB K w' v n :=
 ShW.mono h (fun b hk hb => ⟨hk, Nat.lt_of_lt_of_le hb hm.size, fun o => frozen_mod hm hb (hK b hk)⟩) fun b o _ hk hb _ h => by rw [cell_mod hm hb (hK b hk)]; exact h
theorem ShU.mod {n : Nat} (h : ShU K w v n) (hm : Mod S w w') (hK : ∀ b, K b → ¬ S b) : ShU K w' v n :=
 ShW.mono h (fun b hk hb => ⟨hk, Nat.lt_of_lt_of_le hb hm.size, fun o => frozen_mod hm hb (hK b hk)⟩) fun b o _ hk hb _ h => by rw [cell_mod hm hb (hK b hk)]; exact h
theorem ShE.mod {vs : List (Value × Nat)} (h : ShE K w v vs) (hm : Mod S w w') (hK : ∀ b, K b → ¬ S b) : ShE K w' v vs :=
 ShW.mono h (fun b hk hb => ⟨hk, Nat.lt_of_lt_of_le hb hm.size, fun o => frozen_mod hm hb (hK b hk)⟩) fun b o _ hk hb _ h => by
  rw [cell_mod hm hb (hK b hk), cell_mod hm hb (hK b hk), cell_mod hm hb (hK b hk)]
  exact ⟨h.1, h.2.1, fun p e => ⟨(h.2.2 p e).1, (h.2.2 p e).2.mod hm fun b hb => hK b hb.1⟩⟩
theorem ShB.weakL {n : Nat} (h : ShB K w v n) (hK : ∀ b, b < w.heap.size → K b → K' b) : ShB K' w v n :=
 ShW.mono h (fun b hk hb => ⟨hK b hb hk, hb, fun _ => rfl⟩) fun _ _ _ _ _ _ h => h
theorem ShU.weakL {n : Nat} (h : ShU K w v n) (hK : ∀ b, b < w.heap.size → K b → K' b) : ShU K' w v n :=
 ShW.mono h (fun b hk hb => ⟨hK b hb hk, hb, fun _ => rfl⟩) fun _ _ _ _ _ _ h => h
theorem ShE.weakL {vs : List (Value × Nat)} (h : ShE K w v vs) (hK : ∀ b, b < w.heap.size → K b → K' b) : ShE K' w v vs :=
 ShW.mono h (fun b hk hb => ⟨hK b hb hk, hb, fun _ => rfl⟩) fun _ _ _ _ _ _ h => ⟨h.1, h.2.1, fun p e => ⟨(h.2.2 p e).1, (h.2.2 p e).2.weakL fun b hb h => ⟨hK b hb h.1, h.2⟩⟩⟩
theorem ShE.nil : ShE K w (.slice none 0 0) [] := ⟨none, 0, rfl, fun h => absurd h (by decide)⟩
theorem ShU.nil : ShU K w (.slice none 0 0) 0 := ⟨none, 0, rfl, fun h => absurd h (by decide)⟩
/-- Bytes of one's own: none of them stands still. -/
def SlT (K : Nat → Prop) (w : World) (v : Value) (l : List UInt8) : Prop := ∃ A c, v = .slice A l.length c ∧ Bytes w A l ∧ l.length ≤ c ∧ c ≤ 9223372036854775807 ∧ (0 < l.length → ∀ ad, A = some ad → K ad.block) ∧ ShB K w v l.length
theorem SlT.slb {l : List UInt8} (h : SlT K w v l) : SlB K w v l := by
 obtain ⟨A, c, e, h1, h2, h3, h4, _⟩ := h
 exact ⟨A, c, e, h1, h2, h3, h4⟩
theorem SlT.sh {l : List UInt8} (h : SlT K w v l) : ShB K w v l.length := by
 obtain ⟨A, c, e, _, _, _, _, h⟩ := h
 exact h
theorem SlT.mk' {l : List UInt8} (h : SlB K w v l) (h2 : ShB K w v l.length) : SlT K w v l := by
 obtain ⟨A, c, e, h1, h2', h3, h4⟩ := h
 exact ⟨A, c, e, h1, h2', h3, h4, h2⟩
theorem SlT.mod {l : List UInt8} (h : SlT K w v l) (hm : Mod S w w') (hK : ∀ b, K b → ¬ S b) : SlT K w' v l := .mk' (h.slb.mod hm hK) (h.sh.mod hm hK)
theorem SlT.below {l : List UInt8} (h : SlT K w v l) (hb : Below w.heap.size w w') : SlT K w' v l := .mk' (h.slb.below hb) (h.sh.mod (Mod.below (S := fun _ => False) hb (Nat.le_refl _)) fun _ _ h => h)
theorem SlT.weak {l : List UInt8} (h : SlT K w v l) (hK : ∀ b, b < w.heap.size → K b → K' b) : SlT K' w v l := .mk' (h.slb.weak hK) (h.sh.weakL hK)
theorem SlT.one {l : List UInt8} (h : SlT K w v l) : v.oneCell' = true := h.slb.one
end
/-- What an own row of bytes holds may be written over. -/
theorem own_shb {w : World} {B : Nat} {v : Value} {l : List UInt8} (h : w.ownsRow B 5 1 v l.length (l.map bv)) : ShB (fun b => B ≤ b) w v l.length := by
 rcases h.2 with ⟨e, e2⟩ | ⟨g, c, cur, e, hg, hb, _, _, hs, ht⟩
 ·rw [e]; exact ⟨none, 0, by rw [e2], fun h => by omega⟩
 ·refine ⟨some ⟨g, 0, none⟩, c, e, fun h0 => ⟨g, 0, rfl, hg, (Array.getElem?_eq_some_iff.1 hb).1, fun o => Blk.free (w := w) (t := 5) hb o, fun j hj => ?_⟩⟩
  have hc := Blk.cell (w := w) (t := 5) (cs := cur) hb j
  rw [Nat.zero_add, Nat.mul_one]
  have h2 : (cur.toList.take (l.length * 1))[j]? = (l.map bv)[j]? := by rw [ht]
  rw [Nat.mul_one, List.getElem?_take, if_pos hj, List.getElem?_map, List.getElem?_eq_getElem hj] at h2
  refine ⟨(l[j].toNat : Int), ?_⟩
  rw [hc]
  have h3 : cur.toList[j]? = cur[j]? := by simp
  rw [← h3, h2]
  rfl
set_option maxHeartbeats 400000 in
theorem bcloneT_any {K : Nat → Prop} {w : World} {v : Value} {l : List UInt8} (h : SlB K w v l) (hn : l.length ≤ 140737488355328) :
  Calls Tryz.prog 59 #[v] w fun e w' => (∃ v', e = .returned v' ∧ SlT (fun b => w.heap.size ≤ b) w' v' l) ∧ Below w.heap.size w w' := by
 obtain ⟨A, c, rfl, hA, _⟩ := h
 have hen := fun (w : World) (a : Option Addr) (n c n' c' : Nat) => Lib.run_eql_slice_nil (P := Tryz.prog) w 23 5 a n c n' c' Tryz.underlying23
 rcases A with _ | ad
 ·obtain rfl : l = [] := by
   rcases Nat.eq_zero_or_pos l.length with h0 | h0
   ·exact List.eq_nil_of_length_eq_zero h0
   ·obtain ⟨_, h, _⟩ := hA.2 h0; cases h
  go_enter Tryz.func59, Tryz.ntmps59
  go_wp2_with fail
  go_ret
  exact ⟨⟨_, rfl, .mk' (SlB.nil _ _) ⟨none, 0, rfl, fun h => absurd h (by decide)⟩⟩, Below.refl _ _⟩
 ·have hown0 : (w.alloc (.cells #[] 5)).ownsRow w.heap.size 5 1 (.slice (some ⟨w.heap.size, 0, none⟩) 0 0) 0 [] := World.ownsRow_made _ _ _ (Nat.le_refl _) (by simp [maxLen]) rfl
  have hA' := Reads.alloc hA (.cells #[] 5)
  have h1 := bv_one l
  generalize hrow : l.map bv = r at hA' h1
  have HR := Lib.hid hrow
  clear hrow hA
  go_enter Tryz.func59, Tryz.ntmps59
  go_wp2_with (first
   | (at_builtin; refine app_list bytesK_ty rfl (s := .tmp 5) (x := .tmp 6) rfl hown0 rfl hA' rfl h1 (by omega) (by simp) ?_; intro v3 w3 hown3 hg3 _))
  go_ret
  obtain ⟨A3, c3, rfl, q1, q2⟩ := own_slice hown3
  rw [Nat.zero_add] at hown3 q1 ⊢
  rw [List.nil_append, ← HR.out] at hown3
  exact ⟨⟨_, rfl, .mk' ⟨A3, c3, rfl, own_bytes hown3, q1, by simpa [maxLen] using q2, fun _ ad ea => own_ge hown3 _ (by rw [ea]; rfl)⟩ (own_shb hown3)⟩, (below_new _ _).grown hg3 (by simp) (own_ge hown0)⟩
end Go.Proofs.YtpjmolnkmlpfeaaGreatDoor

/- A model in memory of its own. -/
namespace Go.Proofs.YtpjmolnkmlpfeaaGreatDoor
set_option maxRecDepth 100000
open Go.RowKit

/-- Entries in a row of one's own; a model of one's own. -/
def OwL (N : Nat → Prop) (B : Nat) (w : World) (vl : Value) (es : List Ent) : Prop :=
 ∃ E : List EnV, w.ownsRow B 73 3 vl E.length (E.flatMap enL) ∧ E.map (·.1) = es ∧ ∀ p ∈ E, SlT (fun b => B ≤ b ∧ vl.ownBlock ≠ some b ∧ N b) w p.2 p.1.body
/-- (X: blocks that it has not.) -/
def OwF (X : Nat → Prop) (B : Nat) (w : World) (vl : Value) (g : Nat) (M : Mdl) : Prop := OwL (fun b => b ≠ g ∧ ¬ X b) B w vl M.log ∧ Blk w g 22 (M.cur.map u64v).toArray ∧ M.cur.length = 3 ∧ B ≤ g ∧ vl.ownBlock ≠ some g ∧ ¬ X g ∧ ∀ b, vl.ownBlock = some b → ¬ X b
def OwM (X : Nat → Prop) (B : Nat) (w : World) (v : Value) (M : Mdl) : Prop := ∃ vl g, v = .agg (mdL M vl (.slice (some ⟨g, 0, none⟩) 3 3)).toArray ∧ OwF X B w vl g M
theorem ownBlock_slice {g n c : Nat} {b : Nat} : (Value.slice (some ⟨g, 0, none⟩) n c).ownBlock = some b ↔ g = b := by simp [Value.ownBlock]
theorem own_mod {S : Nat → Prop} {w w' : World} {base : Nat} {e : TypeId} {size n : Nat} {v : Value} {xs : List Value} (h : w.ownsRow base e size v n xs) (hm : Mod S w w') (hS : ∀ b, v.ownBlock = some b → ¬ S b) : w'.ownsRow base e size v n xs := by
 refine ⟨h.1, ?_⟩
 rcases h.2 with h1 | ⟨g, c, cur, rfl, hg, hb, r⟩
 ·exact .inl h1
 ·exact .inr ⟨g, c, cur, rfl, hg, (hm.block g (Array.getElem?_eq_some_iff.1 hb).1 (hS g rfl)).trans hb, r⟩
theorem OwL.sle {N : Nat → Prop} {B : Nat} {w : World} {vl : Value} {es : List Ent} (h : OwL N B w vl es) (hN : ∀ b, vl.ownBlock = some b → N b) : SlE (fun b => B ≤ b ∧ N b) w vl es := by
 obtain ⟨E, h1, h2, h3⟩ := h
 obtain ⟨A, c, rfl, h4, h5⟩ := own_slice h1
 exact ⟨A, c, E, rfl, h2, Reads.of_own h1, fun p hp => (h3 p hp).slb.weak fun b _ h => ⟨h.1, h.2.2⟩, h4, by simpa [maxLen] using h5, fun _ ad ea => ⟨own_ge h1 _ (by rw [ea]; rfl), hN _ (by rw [ea]; rfl)⟩⟩
theorem blk_reads {w : World} {g : Nat} {t : TypeId} {cs : List Value} {n : Nat} (h : Blk w g t cs.toArray) (hn : cs.length = n) : Reads w 1 (some ⟨g, 0, none⟩) n cs :=
 ⟨by rw [hn, Nat.mul_one], fun _ => ⟨_, rfl, h.lt, fun j u hu => by rw [add_flat, h.cell, Nat.zero_add]; simpa using hu⟩⟩
variable {X : Nat → Prop}
theorem OwF.mdf {B : Nat} {w : World} {vl : Value} {g : Nat} {M : Mdl} (h : OwF X B w vl g M) : MdF (fun b => B ≤ b ∧ ¬ X b) w vl (.slice (some ⟨g, 0, none⟩) 3 3) M := by
 obtain ⟨h1, h2, h3, h4, h5, h6, h7⟩ := h
 refine ⟨(h1.sle (fun b hb => ⟨fun e => h5 (e ▸ hb), h7 b hb⟩)).weak fun b _ h => ⟨h.1, h.2.2⟩, some ⟨g, 0, none⟩, 3, by rw [h3], ?_, by omega, by decide, fun _ ad ea => by injection ea with ea; subst ea; exact ⟨h4, h6⟩⟩
 exact blk_reads h2 (by rw [List.length_map])
theorem OwM.mdv {B : Nat} {w : World} {v : Value} {M : Mdl} (h : OwM X B w v M) : MdV (fun b => B ≤ b ∧ ¬ X b) w v M := by
 obtain ⟨vl, g, e, h⟩ := h
 exact ⟨vl, _, e, h.mdf⟩
/-- Entries, numbers that may be written over; a model. -/
def SlEW (K : Nat → Prop) (w : World) (v : Value) (es : List Ent) : Prop := SlE K w v es ∧ ∃ vs, ShE K w v vs
def SlUW (K : Nat → Prop) (w : World) (v : Value) (xs : List Nat) : Prop := SlU K w v xs ∧ ∃ m, ShU K w v m
def MdW (K : Nat → Prop) (w : World) (vl vc : Value) (M : Mdl) : Prop := SlEW K w vl M.log ∧ SlUW K w vc M.cur
def MdVW (K : Nat → Prop) (w : World) (v : Value) (M : Mdl) : Prop := ∃ vl vc, v = .agg (mdL M vl vc).toArray ∧ MdW K w vl vc M
section
variable {K K' S : Nat → Prop} {w w' : World} {vl vc v : Value} {M : Mdl} {es : List Ent} {xs : List Nat}
theorem SlEW.one (h : SlEW K w v es) : v.oneCell' = true := h.1.one
theorem SlUW.one (h : SlUW K w v xs) : v.oneCell' = true := h.1.one
theorem MdW.mdf (h : MdW K w vl vc M) : MdF K w vl vc M := ⟨h.1.1, h.2.1⟩
theorem MdW.mod (h : MdW K w vl vc M) (hm : Mod S w w') (hK : ∀ b, K b → ¬ S b) : MdW K w' vl vc M := by
 obtain ⟨⟨h1, vs, h2⟩, h3, m, h4⟩ := h
 exact ⟨⟨h1.mod hm hK, vs, h2.mod hm hK⟩, h3.mod hm hK, m, h4.mod hm hK⟩
theorem MdW.below (h : MdW K w vl vc M) (hb : Below w.heap.size w w') : MdW K w' vl vc M := h.mod (Mod.below (S := fun _ => False) hb (Nat.le_refl _)) fun _ _ h => h
theorem MdW.weak (h : MdW K w vl vc M) (hK : ∀ b, b < w.heap.size → K b → K' b) : MdW K' w vl vc M := by
 obtain ⟨⟨h1, vs, h2⟩, h3, m, h4⟩ := h
 exact ⟨⟨h1.weak hK, vs, h2.weakL hK⟩, h3.weak hK, m, h4.weakL hK⟩
theorem MdVW.mdv (h : MdVW K w v M) : MdV K w v M := by
 obtain ⟨vl, vc, e, h⟩ := h
 exact ⟨vl, vc, e, h.mdf⟩
theorem zero_mdw (K : Nat → Prop) (w : World) : MdVW K w (.agg (mdL zMdl (.slice none 0 0) (.slice none 0 0)).toArray) zMdl := ⟨_, _, rfl, ⟨SlE.nil _ _, [], ShE.nil⟩, SlU.nil _ _, 0, ShU.nil⟩
end
theorem OwF.mdw {B : Nat} {w : World} {vl : Value} {g : Nat} {M : Mdl} (h : OwF X B w vl g M) : MdW (fun b => B ≤ b ∧ ¬ X b) w vl (.slice (some ⟨g, 0, none⟩) 3 3) M := by
 have hm := h.mdf
 obtain ⟨⟨E, h0, h1, hE⟩, h2, h3, h4, h5, h6, h7⟩ := h
 refine ⟨⟨hm.1, E.map fun p => (p.2, p.1.body.length), ?_⟩, hm.2, 3, ⟨some ⟨g, 0, none⟩, 3, rfl, fun _ => ⟨g, 0, rfl, ⟨h4, h6⟩, h2.lt, fun o => h2.free o, fun j hj => ?_⟩⟩⟩
 ·rcases h0.2 with ⟨e, e2⟩ | ⟨gl, c, cur, e, hg, hb, _, _, hs, ht⟩
  ·rw [e]
   have : E = [] := List.eq_nil_of_length_eq_zero e2
   subst this
   exact ShE.nil
  ·refine ⟨some ⟨gl, 0, none⟩, c, by rw [List.length_map]; exact e, fun h0' => ⟨gl, 0, rfl, ⟨hg, h7 gl (by rw [e]; rfl)⟩, (Array.getElem?_eq_some_iff.1 hb).1, fun o => Blk.free (w := w) (t := 73) hb o, fun j hj => ?_⟩⟩
   rw [List.length_map] at hj
   have hc := fun i => Blk.cell (w := w) (t := 73) (cs := cur) hb i
   have hcell : ∀ i, i < 3 → w.cell? ⟨gl, 0 + j * 3 + i, none⟩ = (enL E[j])[i]? := fun i hi => by
    rw [hc, Nat.zero_add, ← rows_at enL_len E j i hj hi, ← ht, List.getElem?_take, if_pos (by omega)]
    simp
   have q0 := hcell 0 (by decide)
   have q1 := hcell 1 (by decide)
   have q2 := hcell 2 (by decide)
   rw [Nat.add_zero] at q0
   refine ⟨⟨_, q0.trans rfl⟩, ⟨_, q1.trans rfl⟩, fun p hp => ?_⟩
   rw [List.getElem?_map, List.getElem?_eq_getElem hj] at hp
   injection hp with hp
   subst hp
   refine ⟨q2.trans rfl, ((hE _ (List.getElem_mem hj)).sh).weakL fun b _ hb => ⟨⟨hb.1, hb.2.2.2⟩, fun e' => hb.2.1 (by rw [e, e']; rfl)⟩⟩
 ·have hl : M.cur.length = 3 := h3
  have := h2.cell j
  rw [List.getElem?_toArray, List.getElem?_map, List.getElem?_eq_getElem (by omega)] at this
  rw [Nat.zero_add, Nat.mul_one]
  exact ⟨_, this.trans rfl⟩
theorem OwL.below {N : Nat → Prop} {B : Nat} {w w' : World} {vl : Value} {es : List Ent} (h : OwL N B w vl es) (hb : Below w.heap.size w w') : OwL N B w' vl es := by
 obtain ⟨E, h1, h2, h3⟩ := h
 exact ⟨E, own_call h1 hb, h2, fun p hp => (h3 p hp).below hb⟩
theorem OwF.below {B : Nat} {w w' : World} {vl : Value} {g : Nat} {M : Mdl} (h : OwF X B w vl g M) (hb : Below w.heap.size w w') : OwF X B w' vl g M :=
 ⟨h.1.below hb, h.2.1.below hb h.2.1.lt, h.2.2⟩
theorem OwM.below {B : Nat} {w w' : World} {v : Value} {M : Mdl} (h : OwM X B w v M) (hb : Below w.heap.size w w') : OwM X B w' v M := by
 obtain ⟨vl, g, e, h⟩ := h
 exact ⟨vl, g, e, h.below hb⟩
/-- What is not there yet it has not. -/
theorem OwF.add {Y : Nat → Prop} {B : Nat} {w : World} {vl : Value} {g : Nat} {M : Mdl} (h : OwF X B w vl g M) (hY : ∀ b, b < w.heap.size → ¬ Y b) : OwF (fun b => X b ∨ Y b) B w vl g M := by
 obtain ⟨⟨E, e1, e2, e3⟩, h2, h3, h4, h5, h6, h7⟩ := h
 exact ⟨⟨E, e1, e2, fun p hp => (e3 p hp).weak fun b hb h => ⟨h.1, h.2.1, h.2.2.1, fun e => e.elim h.2.2.2 (hY b hb)⟩⟩, h2, h3, h4, h5, fun e => e.elim h6 (hY _ h2.lt), fun b hb e => e.elim (h7 b hb) (hY _ (e1.lt b hb).2)⟩
theorem own3_splice (l : List Nat) : splice [Value.int .u64 0, .int .u64 0, .int .u64 0] 0 ((l.take 3).map u64v) = (own3 l).map u64v := by
 rcases l with _ | ⟨a, _ | ⟨b, _ | ⟨c, l⟩⟩⟩ <;> rfl
theorem make3 (w : World) : (Instr.makeSlice 43 (.int .i64 3) (.int .i64 3)).run Tryz.prog w = .ok (.slice (some ⟨w.heap.size, 0, none⟩) 3 3) (w.alloc (.cells #[.int .u64 0, .int .u64 0, .int .u64 0] 22)) := by kernel_rfl
theorem size_u64 : (Tryz.prog.info? 22).map (·.size) = some 1 := by kernel_rfl
theorem u64_one (l : List Nat) : ∀ v ∈ l.map u64v, v.oneCell' = true := by
 intro v hv
 obtain ⟨x, _, rfl⟩ := List.mem_map.1 hv
 rfl
theorem copy3 {w : World} {A : Option Addr} {n c g : Nat} {xs : List Nat} (hB : Blk w g 22 #[.int .u64 0, .int .u64 0, .int .u64 0]) (hn : n = xs.length) (hr : Reads w 1 A n (xs.map u64v)) :
  ∃ w' q, (Builtin.copy_ #[43, 43] 3 #[.slice (some ⟨g, 0, none⟩) 3 3, .slice A n c]).run Tryz.prog w = .ok q w' ∧ Blk w' g 22 ((own3 xs).map u64v).toArray ∧ Mod (fun b => b = g) w w' := by
 subst hn
 rw [← own3_splice]
 rcases Nat.eq_zero_or_pos xs.length with h0 | h0
 ·obtain rfl := List.eq_nil_of_length_eq_zero h0
  exact ⟨w, _, run_copy_none (P := Tryz.prog) w 43 43 3 22 _ _ 3 3 0 c Tryz.underlying43 size_u64 rfl, hB, Mod.refl _ _⟩
 ·obtain ⟨ad, rfl, _, hc⟩ := hr.2 h0
  have hrun := run_copy_row (P := Tryz.prog) w 43 43 3 22 g 0 3 3 ad xs.length c #[.int .u64 0, .int .u64 0, .int .u64 0] 22 ((xs.take 3).map u64v) Tryz.underlying43 size_u64 hB
   (by simp [Nat.min_comm]) (fun j v hj => hc j v (by
    rw [List.map_take] at hj
    exact (List.getElem?_take_of_lt (by
     have := (List.getElem?_eq_some_iff.1 hj).1
     rw [List.length_take] at this
     omega)).symm.trans hj)) (by simp; omega) (u64_one _)
  refine ⟨_, _, hrun, ?_, Mod.setRow (S := fun b => b = g) (Mod.refl _ _) (fun _ => rfl) _⟩
  have h1 := setRow_heap w g _ (([Value.int .u64 0, .int .u64 0, .int .u64 0].take 0 ++ (xs.take 3).map u64v ++ [Value.int .u64 0, .int .u64 0, .int .u64 0].drop (0 + ((xs.take 3).map u64v).length)).toArray) 22 _ hB
  have e : splice [Value.int .u64 0, .int .u64 0, .int .u64 0] 0 ((xs.take 3).map u64v) = [Value.int .u64 0, .int .u64 0, .int .u64 0].take 0 ++ (xs.take 3).map u64v ++ [Value.int .u64 0, .int .u64 0, .int .u64 0].drop (0 + ((xs.take 3).map u64v).length) := by
   unfold splice
   rw [List.append_assoc]
  rw [e]
  exact h1
theorem drop_step {α : Type} {D : List α} {E : List α} {k : Nat} (hD : D.length = k) (hk : k < E.length) (y : α) : (D ++ E.drop k).set k y = (D ++ [y]) ++ E.drop (k + 1) := by
 rw [List.set_append_right _ _ (by omega), hD, Nat.sub_self, List.drop_eq_getElem_cons hk, List.append_assoc]
 rfl
theorem drop_get {α : Type} {D : List α} {E : List α} {k : Nat} (hD : D.length = k) (hk : k < E.length) (h : k < (D ++ E.drop k).length) : (D ++ E.drop k)[k] = E[k] := by
 rw [List.getElem_append_right (by omega)]
 simp [hD]
set_option maxHeartbeats 8000000 in
theorem mown_any {K : Nat → Prop} {w : World} {vl vc : Value} {M : Mdl} (h : MdF K w vl vc M) (hn : M.log.length ≤ 100000) (hbl : ∀ e ∈ M.log, e.body.length ≤ 1000000) (hXw : ∀ b, X b → b < w.heap.size) :
  Calls Tryz.prog 37 #[.agg (mdL M vl vc).toArray] w fun e w' => (∃ v', e = .returned v' ∧ OwM X w.heap.size w' v' (ownM M)) ∧ Below w.heap.size w w' := by
 have HXW := Lib.hid hXw
 clear hXw
 have hmk := make3
 obtain ⟨⟨A, c, E, rfl, hE, hr, hall, hc1, hc2, _⟩, hU⟩ := h
 have hl : M.log.length = E.length := by rw [← hE, List.length_map]
 have hone := hU.one
 obtain ⟨A2, c2, eC, hr2, hd1, hd2, _⟩ := hU
 subst eC
 rw [hl] at hn
 have HALL := Lib.hid hall
 have HE := Lib.hid hE
 have HBL := Lib.hid hbl
 have HC2 := Lib.hid hc2
 obtain ⟨vC, hvC⟩ : ∃ vC, vC = M.cur.length := ⟨_, rfl⟩
 rw [← hvC] at hr2 hd1
 have hB1 : Blk (w.alloc (.cells (mdL M (.slice A E.length c) (.slice A2 vC c2)).toArray 45)) w.heap.size 45 (mdL M (.slice A E.length c) (.slice A2 vC c2)).toArray := Blk.new _ _ _
 have hb1 := below_new w (.cells (mdL M (.slice A E.length c) (.slice A2 vC c2)).toArray 45)
 rw [← hvC]
 have HVC := Lib.hid hvC
 have HB1 := Lib.hid hB1
 have HT1 := Lib.hid hb1
 have HR := Lib.hid hr
 have HR2 := Lib.hid hr2
 have HD := Lib.hid hd1
 clear hB1 hb1 hall hE hr hr2 hbl hvC hc2 hd1
 go_enter Tryz.func37, Tryz.ntmps37
 go_wp2_with (refine wpList_alloc_blk rfl rfl zero_model ?_; rintro g w2 hg hB2 hb2; refine Hid.out ?_)
 refine Lib.hid ?_
 have HB2 := Bb HB1 hb2
 have HG2 := Lib.hid hB2
 have HT2 := Lib.hid (below_call HT1.out HT1.out.size hb2)
 have HGG : Hid (g = w.heap.size + 1) := by
  show _ = _
  rw [← hg]
  simp
 have c0 : w2.cell? ⟨w.heap.size, 0, none⟩ = some (.slice A E.length c) := (HB2.out.cell 0).trans rfl
 have hcl := eclone_any (w := w2) (c := c) (HR.out.below (HT2.out.mono (Nat.le_refl _))) (enL_one HALL.out) (by omega)
 clear hb2 hg hB2 HB1 HT1
 go_wp2_with fail
 refine hcl.mono ?_
 rintro e w3 ⟨⟨v3, rfl, hown⟩, hb3⟩
 obtain ⟨A3, c3, e3, hc3, hc3'⟩ := own_slice hown
 subst e3
 have hbase := base_le hown (base' := w.heap.size) HT2.out.size
 have hgs := own_ge hown
 have HB3 := Bb HB2 hb3
 have HG3 := Bb HG2 hb3
 have HT3 := Lib.hid (below_call HT2.out HT2.out.size hb3)
 have c0' : w3.cell? ⟨w.heap.size, 0, none⟩ = some (.slice A E.length c) := (HB3.out.cell 0).trans rfl
 have f0' := HB3.out.free 0
 have HNB : Hid (∀ b, (Value.slice A3 E.length c3).ownBlock = some b → g < b) := fun b h => by
  have h1 := hgs b h
  have h2 := HG2.out.lt
  omega
 have HOWN := Lib.hid hbase
 clear hcl hb3 hown c0 HB2 HG2 HT2 hgs hbase
 have hB4 : Blk (w3.setCell ⟨w.heap.size, 0, none⟩ (.slice A3 E.length c3)) w.heap.size 45 (mdL M (.slice A3 E.length c3) (.slice A2 vC c2)).toArray := HB3.out.put 0 (.slice A3 E.length c3)
 have hm4 : Mod (fun b => b = w.heap.size) w3 (w3.setCell ⟨w.heap.size, 0, none⟩ (.slice A3 E.length c3)) := Mod.set (S := fun b => b = w.heap.size) (Mod.refl _ _) (p := ⟨w.heap.size, 0, none⟩) (fun _ => rfl) _
 have c0 := (hB4.cell 0).trans (rfl : _ = some (Value.slice A3 E.length c3))
 have HB4 := Lib.hid hB4
 have HG4 := Lib.hid (HG3.out.mod hm4 fun e => by have := HGG.out; omega)
 have HT4 : Hid (Below w.heap.size w (w3.setCell ⟨w.heap.size, 0, none⟩ (.slice A3 E.length c3))) := HT3.out.trans (hm4.to_below HT3.out.size fun b hb e => by omega)
 have HOWN4 : Hid ((w3.setCell ⟨w.heap.size, 0, none⟩ (.slice A3 E.length c3)).ownsRow w.heap.size 73 3 (.slice A3 E.length c3) E.length (E.flatMap enL)) := by
  refine World.ownsRow.kept HOWN.out (row := some w.heap.size) ⟨hm4.os, hm4.tape, hm4.output, hm4.size, fun k hk hn => hm4.block k hk fun e => hn (by rw [e])⟩ (.inr fun e => ?_)
  have := HNB.out _ e
  have := HGG.out
  omega
 clear hB4 hm4 HB3 HG3 HT3 HOWN
 go_wp2_with fail
 clear c0 c0' f0'
 go_loopw [13] (fun i wr => ∃ k : Nat, k ≤ E.length ∧ i = .int .i64 k ∧ Below w.heap.size w wr ∧ Blk wr w.heap.size 45 (mdL M (.slice A3 E.length c3) (.slice A2 vC c2)).toArray ∧ Blk wr g 45 (mdL zMdl (.slice none 0 0) (.slice none 0 0)).toArray ∧
   ∃ D : List EnV, D.length = k ∧ D.map (·.1) = (E.take k).map (·.1) ∧ wr.ownsRow w.heap.size 73 3 (.slice A3 E.length c3) E.length ((D ++ E.drop k).flatMap enL) ∧ ∀ p ∈ D, SlT (fun b => g < b ∧ (Value.slice A3 E.length c3).ownBlock ≠ some b) wr p.2 p.1.body) (fun i _ => E.length - (intOf i).toNat)
 case atStart => exact ⟨0, by omega, rfl, HT4.out, HB4.out, HG4.out, [], rfl, rfl, HOWN4.out, fun p hp => by cases hp⟩
 case round =>
  obtain ⟨k, hk, rfl, hb, hB, hG, D, hD, hDm, how, hDb⟩ := hrel
  have HB := Lib.hid hb
  have HBB := Lib.hid hB
  have HBG := Lib.hid hG
  have HDM := Lib.hid hDm
  have HOW := Lib.hid how
  have HDB := Lib.hid hDb
  by_cases hlt : k < E.length
  ·obtain ⟨g3, hA3⟩ : ∃ g3, A3 = some ⟨g3, 0, none⟩ := by
    rcases how.2 with ⟨e, e2⟩ | ⟨g', c', cur, e, _⟩
    ·omega
    ·injection e with e
     exact ⟨g', e⟩
   subst hA3
   have hlen : k < (D ++ E.drop k).length := by rw [List.length_append, List.length_drop, hD]; omega
   have hgt := drop_get hD hlt hlen
   have hcell : ∀ i, i < 3 → wr.cell? ⟨g3, k * 3 + i, none⟩ = (enL E[k])[i]? := fun i hi => by
    rw [how.cellAt _ (by omega), rows_at enL_len (D ++ E.drop k) k i hlen hi, hgt]
   have q0 : wr.cell? ⟨g3, k * 3, none⟩ = some (.int .i64 E[k].1.prod) := hcell 0 (by decide)
   have q1 := (hcell 1 (by decide)).trans (rfl : _ = some (Value.int .u64 (E[k].1.seq : Int)))
   have q2 := (hcell 2 (by decide)).trans (rfl : _ = some E[k].2)
   have hsb := ((HALL.out _ (List.getElem_mem hlt)).below (hb.mono (Nat.le_refl _)))
   have hbl : E[k].1.body.length ≤ 1000000 := HBL.out _ (by rw [← HE.out]; exact List.mem_map.2 ⟨_, List.getElem_mem hlt, rfl⟩)
   obtain ⟨Dk, dk, eD, _⟩ := id hsb
   rw [eD] at q2
   have HSB := Lib.hid hsb
   rw [eD] at HSB
   have HTK : Hid ((E.take (k + 1)).map (·.1) = (E.take k).map (·.1) ++ [E[k].1]) := by
    show _ = _
    rw [List.take_succ_eq_append_getElem hlt, List.map_append]
    rfl
   have HDR : Hid (∀ (u : Value), ((D ++ E.drop k).flatMap enL).set (k * 3 + 2) u = ((D ++ [(E[k].1, u)]) ++ E.drop (k + 1)).flatMap enL) := fun u => by
    rw [flat_set enL_len (D ++ E.drop k) k 2 hlen u (E[k].1, u) (by decide) (by rw [hgt]; rfl), drop_step hD hlt]
   generalize hx : E[k].1 = x at q0 q1 q2 HSB HTK HDR hbl
   clear hx hgt hcell hsb eD hDb hDm hB hG hb hlen
   have hw0 : g3 < wr.heap.size := (how.lt g3 rfl).2
   have hbox : Blk (wr.alloc (.cells #[.int .i64 x.prod, .int .u64 (x.seq : Int), .slice Dk x.body.length dk] 73)) wr.heap.size 73 #[.int .i64 x.prod, .int .u64 (x.seq : Int), .slice Dk x.body.length dk] := Blk.new _ _ _
   have e2 := (hbox.cell 2).trans (rfl : _ = some (Value.slice Dk x.body.length dk))
   have e0 : (wr.alloc (.cells #[.int .i64 x.prod, .int .u64 (x.seq : Int), .slice Dk x.body.length dk] 73)).cell? ⟨w.heap.size, 0, none⟩ = some (.slice (some ⟨g3, 0, none⟩) E.length c3) := ((HBB.out.alloc _).cell 0).trans rfl
   have hwb := below_new wr (.cells #[.int .i64 x.prod, .int .u64 (x.seq : Int), .slice Dk x.body.length dk] 73)
   have HWB := Lib.hid hwb
   have HSB2 := Lib.hid (HSB.out.below hwb)
   have HBLX := Lib.hid hbl
   clear hwb hbox hbl
   go_wp2_with fail
   refine PF.b (by kernel_rfl) (fun _ _ _ _ _ h => h) ?_
   refine PF.t 0 (by kernel_rfl) rfl (by go_simp; try rfl) ?_
   try simp only [pz]
   refine PF.m 1 (w.heap.size) (by kernel_rfl) rfl (fun hcu => by go_simp; try rfl) ?_
   try simp only [pz]
   refine PF.t 2 (by kernel_rfl) rfl (by go_simp; try rfl) ?_
   try simp only [pz]
   refine PF.t 3 (by kernel_rfl) rfl (by go_simp; try rfl) ?_
   try simp only [pz]
   refine PF.m 4 (wr.heap.size) (by kernel_rfl) rfl (fun hcu => by go_simp; try rfl) ?_
   try simp only [pz]
   refine PF.e 5 (by kernel_rfl) rfl fun K hK => ?_
   go_simp
   refine (bcloneT_any (HSB2.out.below ((Below.refl _ _).drew)) (by have := HBLX.out; omega)).mono ?_
   rintro e w5 ⟨⟨v5, rfl, hv5⟩, hb5⟩
   have HT5 := Lib.hid (HWB.out.trans (((Below.refl _ _).drew.trans hb5).mono HWB.out.size))
   obtain ⟨A5, c5, e5, _⟩ := id hv5
   subst e5
   have hq5 := own_call HOW.out HT5.out
   have c9 : w5.cell? ⟨g3, k * 3 + 2, none⟩ = some (.slice Dk x.body.length dk) := (HT5.out.cell (p := ⟨g3, k * 3 + 2, none⟩) hw0).trans q2
   obtain ⟨cur5, _, hg5, _⟩ := own_unfold hq5
   have f9 := Blk.free (w := w5) (t := 73) hg5 (k * 3 + 2)
   have HV5 := Lib.hid hv5
   have HQ5 := Lib.hid hq5
   have HS5 := Lib.hid hb5.block
   rw [show (wr.alloc (.cells #[.int .i64 x.prod, .int .u64 (x.seq : Int), .slice Dk x.body.length dk] 73)).drew.heap.size = wr.heap.size + 1 from alloc_size _ _] at HS5
   clear hv5 hb5 hg5 hq5
   refine hK (by repeat (first | exact PF.n | refine PF.l ?_ | refine PF.o (by decide +kernel) ?_ | refine PF.y (by exact HS5.out _ (by have := HB.out.size; omega)) ?_)) ?_
   clear hK K
   try simp only [pz]
   refine PF.t 6 (by kernel_rfl) rfl (by go_simp; try rfl) ?_
   try simp only [pz]
   refine PF.t 7 (by kernel_rfl) rfl (by go_simp; try rfl) ?_
   try simp only [pz]
   refine PF.e 8 (by kernel_rfl) rfl fun K hK => ?_
   go_simp
   refine hK (by repeat (first | exact PF.n | refine PF.l ?_ | refine PF.o (by decide +kernel) ?_ | refine PF.y (by first | rfl | assumption | go_simp) ?_)) ?_
   clear hK K
   try simp only [pz]
   refine PF.d (by kernel_rfl) ?_
   have HS6 := Lib.hid (HQ5.out.stored (k * 3 + 2) (.slice A5 x.body.length c5))
   have HG3 : Hid (w.heap.size ≤ g3 ∧ g3 ≠ w.heap.size ∧ g3 ≠ g) := by
    have h1 := HNB.out g3 rfl
    have h2 := HGG.out
    show _ ∧ _
    omega
   have hm6 : Mod (fun b => b = g3) w5 (w5.setCell ⟨g3, k * 3 + 2, none⟩ (.slice A5 x.body.length c5)) := Mod.set (S := fun b => b = g3) (Mod.refl _ _) (p := ⟨g3, k * 3 + 2, none⟩) (fun _ => rfl) _
   have HM6 := Lib.hid hm6
   have HLW : Hid (w.heap.size ≤ wr.heap.size) := HB.out.size
   have HWD := Lib.hid hw0
   clear hm6 how hw0 c9 f9 e0 e2
   go_wp2_with fail
   go_roundw
   case rel =>
    have h1 := HG3.out; have h2 := HLW.out; have h3 := HWD.out
    refine ⟨k + 1, by omega, by go_num, (HB.out.trans (HT5.out.mono h2)).trans (HM6.out.to_below (Nat.le_trans h2 HT5.out.size) fun b hb e => by omega), ?_, ?_, D ++ [(x, .slice A5 x.body.length c5)], by simp [hD], ?_, ?_, ?_⟩
    ·exact (HBB.out.below HT5.out HBB.out.lt).mod HM6.out fun e => by omega
    ·exact (HBG.out.below HT5.out HBG.out.lt).mod HM6.out fun e => by omega
    ·rw [List.map_append, HDM.out, HTK.out]; rfl
    ·have := HS6.out.1; rw [HDR.out] at this; exact this
    ·intro p hp
     rcases List.mem_append.1 hp with hp | hp
     ·exact ((HDB.out p hp).below HT5.out).mod HM6.out fun b hb e => hb.2 (by rw [e]; rfl)
     ·simp only [List.mem_singleton] at hp
      subst hp
      refine ((HV5.out.weak (K' := fun b => g < b ∧ (Value.slice (some ⟨g3, 0, none⟩) E.length c3).ownBlock ≠ some b) fun b _ hb => ?_)).mod HM6.out fun b hb e => hb.2 (by rw [e]; rfl)
      have hb : (wr.alloc (.cells #[.int .i64 x.prod, .int .u64 (x.seq : Int), .slice Dk x.body.length dk] 73)).heap.size ≤ b := hb
      rw [alloc_size] at hb
      have h4 := HBG.out.lt
      refine ⟨by omega, fun e => ?_⟩
      have e := ownBlock_slice.1 e
      omega
   case measure => simp [intOf]; omega
  ·obtain rfl : k = E.length := by omega
   rw [List.drop_length, List.append_nil] at HOW
   clear how hDb hDm hB hG hb
   have HDE : Hid (D.map (·.1) = E.map (·.1)) := by rw [HDM.out, List.take_length]; rfl
   have b5 := below_new wr (.cells #[.int .u64 0, .int .u64 0, .int .u64 0] 22)
   have HB5 := Lib.hid b5
   have HU5 : Hid (Blk (wr.alloc (.cells #[.int .u64 0, .int .u64 0, .int .u64 0] 22)) wr.heap.size 22 #[.int .u64 0, .int .u64 0, .int .u64 0]) := Blk.new _ _ _
   have p2 : (wr.alloc (.cells #[.int .u64 0, .int .u64 0, .int .u64 0] 22)).cell? ⟨w.heap.size, 2, none⟩ = some (.slice A2 vC c2) := ((HBB.out.alloc _).cell 2).trans rfl
   have hR2 : Reads (wr.alloc (.cells #[.int .u64 0, .int .u64 0, .int .u64 0] 22)) 1 A2 vC (M.cur.map u64v) := (HR2.out.below (HB.out.mono (Nat.le_refl _))).below (b5.mono (Nat.le_refl _))
   obtain ⟨w7, q7, hrun7, hg7, hm7⟩ := copy3 (c := c2) HU5.out HVC.out hR2
   have HB7 := Lib.hid (HB5.out.trans (hm7.to_below HB5.out.size fun b hb e => by omega))
   have HG7 := Lib.hid hg7
   clear b5 hR2 hm7 hg7
   have HB7B := Lib.hid (HBB.out.below HB7.out HBB.out.lt)
   have HB7G := Lib.hid (HBG.out.below HB7.out HBG.out.lt)
   have f2 := HB7B.out.free 2
   have p2' : w7.cell? ⟨w.heap.size, 2, none⟩ = some (.slice A2 vC c2) := (HB7B.out.cell 2).trans rfl
   have hb8 : Blk (w7.setCell ⟨w.heap.size, 2, none⟩ (.slice (some ⟨wr.heap.size, 0, none⟩) 3 3)) w.heap.size 45 (mdL (ownM M) (.slice A3 E.length c3) (.slice (some ⟨wr.heap.size, 0, none⟩) 3 3)).toArray := HB7B.out.put 2 _
   have hm8 : Mod (fun b => b = w.heap.size) w7 (w7.setCell ⟨w.heap.size, 2, none⟩ (.slice (some ⟨wr.heap.size, 0, none⟩) 3 3)) := Mod.set (S := fun b => b = w.heap.size) (Mod.refl _ _) (p := ⟨w.heap.size, 2, none⟩) (fun _ => rfl) _
   have HG8 := Lib.hid (HB7G.out.mod hm8 fun e => by have := HGG.out; omega)
   have HM8 := Lib.hid hm8
   have HB8 := Lib.hid hb8
   clear hm8 hb8
   go_wp2_with (refine wpList_load_blk rfl (ty := 45) rfl rfl HB8.out Tryz.underlying45 rfl (info_model rfl) ?_; refine Hid.out ?_)
   refine Lib.hid ?_
   have hon : ∀ v ∈ (mdL (ownM M) (.slice A3 E.length c3) (.slice (some ⟨wr.heap.size, 0, none⟩) 3 3)).toArray.toList, v.oneCell' = true := by
    intro v hv
    simp only [mdL, List.toList_toArray, List.mem_cons, List.not_mem_nil, or_false] at hv
    rcases hv with rfl | rfl | rfl <;> rfl
   go_wp2_with (refine wpList_store_blk rfl rfl rfl rfl HG8.out rfl (info_model rfl) hon ?_; rintro w9 hB9 hm9; refine Hid.out ?_)
   refine Lib.hid ?_
   have HB9 := Lib.hid hB9
   have HM9 := Lib.hid hm9
   clear hB9 hm9 hon
   go_wp2_with fail
   refine bodyPost_ret (results_c Tryz.results37 _ HB9.out rfl Tryz.underlying45 rfl (info_model rfl)) rfl ?_
   have hg1 := HGG.out
   have hlw := HB.out.size
   have hlb := HBB.out.lt
   have hlg := HBG.out.lt
   have HX9 : Mod (fun b => b = w.heap.size ∨ b = g) w7 w9 := (HM8.out.mono fun b _ h => .inl h).trans (HM9.out.mono fun b _ h => .inr h)
   have hT9 : Below w.heap.size w w9 := (HB.out.trans (HB7.out.mono hlw)).trans (HX9.to_below (Nat.le_trans hlw HB7.out.size) fun b hb e => by omega)
   refine ⟨⟨_, rfl, _, _, rfl, ⟨D, ?_, HDE.out.trans HE.out, fun p hp => ?_⟩, ?_, rfl, hlw, fun e => ?_, fun e => by have := HXW.out _ e; omega, fun b hb e => by have := HXW.out _ e; have := HNB.out b hb; omega⟩, hT9⟩
   ·have h1 := own_call HOW.out HB7.out
    rw [hD]
    exact own_mod h1 HX9 fun b hb e => by have := HNB.out b hb; omega
   ·have h1 := ((HDB.out p hp).weak (K' := fun b => (w.heap.size ≤ b ∧ (Value.slice A3 E.length c3).ownBlock ≠ some b ∧ b ≠ wr.heap.size) ∧ g < b) fun b hb h => ⟨⟨by omega, h.2, by omega⟩, h.1⟩).below HB7.out
    exact (h1.mod HX9 fun b hb e => by have := hb.2; omega).weak fun b _ h => ⟨h.1.1, h.1.2.1, h.1.2.2, fun e => by have := HXW.out _ e; have := h.2; omega⟩
   ·exact HG7.out.mod HX9 fun e => by omega
   ·have := (HOW.out.lt _ e).2
    omega
end Go.Proofs.YtpjmolnkmlpfeaaGreatDoor

/- A publish's entry is put behind the others. -/
namespace Go.Proofs.YtpjmolnkmlpfeaaGreatDoor
set_option maxRecDepth 100000
open Go.RowKit

theorem reads_blockN (w : World) (t : TypeId) (us : List Value) (n : Nat) (h : us.length = n) : Reads (w.alloc (.cells us.toArray t)) n (some ⟨w.heap.size, 0, none⟩) 1 us := by
 refine ⟨by rw [h]; omega, fun _ => ⟨_, rfl, by simp, fun j u hu => ?_⟩⟩
 rw [add_flat]
 have hb : (w.alloc (.cells us.toArray t)).heap[w.heap.size]? = some (.cells us.toArray t (0, 0)) := heap_alloc_new w _
 rw [cell_of_row _ _ _ _ _ _ hb, Nat.zero_add]
 simpa using hu
theorem mod_below {S : Nat → Prop} {w w' : World} (h : Below w.heap.size w w') : Mod S w w' := Mod.below h (Nat.le_refl _)
theorem mod_grownO {w w' : World} {v : Value} (h : w.grownBy w' v.ownBlock) : Mod (fun b => v.ownBlock = some b) w w' := ⟨h.os, h.tape, h.output, h.size, fun i hi hn => h.block i hi fun e => hn e.symm⟩
theorem mdL_one {M : Mdl} {vl vc : Value} (h1 : vl.oneCell' = true) (h2 : vc.oneCell' = true) : ∀ v ∈ (mdL M vl vc).toArray.toList, v.oneCell' = true := by
 intro v hv
 simp only [mdL, List.toList_toArray, List.mem_cons, List.not_mem_nil, or_false] at hv
 rcases hv with rfl | rfl | rfl
 ·exact h1
 ·rfl
 ·exact h2
theorem OwF.mod {X S : Nat → Prop} {B : Nat} {w w' : World} {vl : Value} {g : Nat} {M : Mdl} (h : OwF X B w vl g M) (hm : Mod S w w') (hS : ∀ b, B ≤ b → ¬ X b → ¬ S b) : OwF X B w' vl g M := by
 obtain ⟨⟨E, h1, h2, h3⟩, h4, h5, h6, h7, h8, h9⟩ := h
 exact ⟨⟨E, own_mod h1 hm fun b hb => hS b (own_ge h1 b hb) (h9 b hb), h2, fun p hp => (h3 p hp).mod hm fun b hb => hS b hb.1 hb.2.2.2⟩, h4.mod hm (hS g h6 h8), h5, h6, h7, h8, h9⟩
set_option maxHeartbeats 8000000 in
theorem with_any {X K : Nat → Prop} {B g : Nat} {w : World} {vl v : Value} {M : Mdl} {C : Cal} (h : OwF X B w vl g M) (hv : SlB K w v C.body) (hB : B ≤ w.heap.size) (hn : M.log.length ≤ 100000) (hnb : C.body.length ≤ 140737488351232) (hXw : ∀ b, X b → b < w.heap.size) :
  Calls Tryz.prog 51 #[.agg (mdL M vl (.slice (some ⟨g, 0, none⟩) 3 3)).toArray, .agg (calL C v).toArray] w fun e w' => (∃ v', e = .returned v' ∧ OwM X B w' v' (withM M C)) ∧ Mod (fun b => vl.ownBlock = some b) w w' := by
 have HXW := Lib.hid hXw
 clear hXw
 obtain ⟨⟨E, how, hE, hall⟩, hg1, hg2, hg3, hg4, hg5, hg6⟩ := h
 have hl : M.log.length = E.length := by rw [← hE, List.length_map]
 rw [hl] at hn
 have hvl := how.lt
 obtain ⟨A, c, rfl, hc, hc'⟩ := own_slice how
 obtain ⟨Db, cb, eb, hvr⟩ := id hv
 subst eb
 have HW1 : Hid (Blk ((w.alloc (.cells (mdL M (.slice A E.length c) (.slice (some ⟨g, 0, none⟩) 3 3)).toArray 45)).alloc (.cells (calL C (.slice Db C.body.length cb)).toArray 25)) w.heap.size 45 (mdL M (.slice A E.length c) (.slice (some ⟨g, 0, none⟩) 3 3)).toArray) := (Blk.new _ _ _).alloc _
 have hB2 : Blk ((w.alloc (.cells (mdL M (.slice A E.length c) (.slice (some ⟨g, 0, none⟩) 3 3)).toArray 45)).alloc (.cells (calL C (.slice Db C.body.length cb)).toArray 25)) (w.heap.size + 1) 25 (calL C (.slice Db C.body.length cb)).toArray := by
  have := Blk.new (w.alloc (.cells (mdL M (.slice A E.length c) (.slice (some ⟨g, 0, none⟩) 3 3)).toArray 45)) 25 (calL C (.slice Db C.body.length cb)).toArray
  rwa [alloc_size] at this
 have HW2 := Lib.hid hB2
 have hT : Below w.heap.size w ((w.alloc (.cells (mdL M (.slice A E.length c) (.slice (some ⟨g, 0, none⟩) 3 3)).toArray 45)).alloc (.cells (calL C (.slice Db C.body.length cb)).toArray 25)) := ((Below.refl _ _).alloc (Nat.le_refl _) _).alloc (by simp) _
 have HT := Lib.hid hT
 have HSZ : Hid (((w.alloc (.cells (mdL M (.slice A E.length c) (.slice (some ⟨g, 0, none⟩) 3 3)).toArray 45)).alloc (.cells (calL C (.slice Db C.body.length cb)).toArray 25)).heap.size = w.heap.size + 1 + 1) := by show _ = _; simp
 have HOW := Lib.hid how
 have HALL := Lib.hid hall
 have HEQ := Lib.hid hE
 have HV := Lib.hid hv
 have HN := Lib.hid hnb
 have HVL := Lib.hid hvl
 have HGG : Hid (Blk w g 22 (M.cur.map u64v).toArray ∧ M.cur.length = 3 ∧ B ≤ g ∧ (Value.slice A E.length c).ownBlock ≠ some g ∧ ¬ X g ∧ ∀ b, (Value.slice A E.length c).ownBlock = some b → ¬ X b) := ⟨hg1, hg2, hg3, hg4, hg5, hg6⟩
 have HGL : Hid (g < w.heap.size) := hg1.lt
 clear hB2 hT how hall hE hv hnb hvl hvr hg1 hg2 hg3 hg4 hg5 hg6
 go_enter Tryz.func51, Tryz.ntmps51
 go_wp2_with (refine wpList_alloc_blk rfl rfl zero_model ?_; rintro g3 w3 hgz hB3 hb3; refine Hid.out ?_)
 refine Lib.hid ?_
 have HG3 : Hid (g3 = w.heap.size + 1 + 1) := by
  show _ = _
  rw [← hgz]
  exact HSZ.out
 have HT3 := Lib.hid (below_call HT.out HT.out.size hb3)
 have HB13 := Bb HW1 hb3
 have HB23 := Bb HW2 hb3
 have HB33 := Lib.hid hB3
 clear hgz hb3 hB3 HW1 HW2 HT HSZ
 have c0 := (HB13.out.cell 0).trans (rfl : _ = some (Value.slice A E.length c))
 have d0 := (HB23.out.cell 0).trans (rfl : _ = some (Value.int .i64 C.cl))
 have d6 := (HB23.out.cell 6).trans (rfl : _ = some (Value.int .u64 (C.seq : Int)))
 have d8 := (HB23.out.cell 8).trans (rfl : _ = some (Value.slice Db C.body.length cb))
 have HLB : Hid (w.heap.size < w3.heap.size ∧ w.heap.size + 1 < w3.heap.size ∧ g3 < w3.heap.size) := ⟨HB13.out.lt, HB23.out.lt, HB33.out.lt⟩
 go_wp2_with fail
 refine PF.b (by kernel_rfl) (fun _ _ _ _ _ h => h) ?_
 refine PF.t 0 (by kernel_rfl) rfl (by go_simp; try rfl) ?_
 try simp only [pz]
 refine PF.m 1 (w.heap.size) (by kernel_rfl) rfl (fun hcu => by go_simp; try rfl) ?_
 try simp only [pz]
 refine PF.t 2 (by kernel_rfl) rfl (by go_simp; try rfl) ?_
 try simp only [pz]
 refine PF.m 3 ((w.heap.size+1)) (by kernel_rfl) rfl (fun hcu => by go_simp; try rfl) ?_
 try simp only [pz]
 refine PF.t 4 (by kernel_rfl) rfl (by go_simp; try rfl) ?_
 try simp only [pz]
 refine PF.m 5 ((w.heap.size+1)) (by kernel_rfl) rfl (fun hcu => by go_simp; try rfl) ?_
 try simp only [pz]
 refine PF.t 6 (by kernel_rfl) rfl (by go_simp; try rfl) ?_
 try simp only [pz]
 refine PF.m 7 ((w.heap.size+1)) (by kernel_rfl) rfl (fun hcu => by go_simp; try rfl) ?_
 try simp only [pz]
 refine PF.e 8 (by kernel_rfl) rfl fun K hK => ?_
 go_simp
 refine (bcloneT_any ((HV.out.below HT3.out).below ((Below.refl _ _).drew)) (by have := HN.out; omega)).mono ?_
 rintro e w8 ⟨⟨v8, rfl, hv8⟩, hb8⟩
 have HT8 : Hid (Below w3.heap.size w3 w8) := ((Below.refl w3.heap.size w3).drew).trans hb8
 obtain ⟨A8, c8, e8, _⟩ := id hv8
 subst e8
 have HV8 := Lib.hid hv8
 clear hv8 hb8
 refine hK (by repeat (first | exact PF.n | refine PF.l ?_ | refine PF.o (by decide +kernel) ?_ | refine PF.y (by exact HT8.out.block _ (by have := HLB.out; omega)) ?_)) ?_
 clear hK K
 try simp only [pz]
 refine PF.t 9 (by kernel_rfl) rfl (by go_simp; try rfl) ?_
 try simp only [pz]
 refine PF.e 10 (by kernel_rfl) rfl fun K hK => ?_
 go_simp
 refine hK (by repeat (first | exact PF.n | refine PF.l ?_ | refine PF.o (by decide +kernel) ?_ | refine PF.y (by exact ((below_new _ _).block _ (by have := HLB.out; have := HT8.out.size; omega)).trans (HT8.out.block _ (by have := HLB.out; omega))) ?_)) ?_
 clear hK K
 try simp only [pz]
 refine PF.e 11 (by kernel_rfl) rfl fun K hK => ?_
 refine app_wp entry_ty rfl (own_call HOW.out (((HT3.out.trans (HT8.out.mono HT3.out.size)).trans ((below_new w8 (.cells #[.int .i64 C.cl, .int .u64 (C.seq : Int), .slice A8 C.body.length c8] 73)).mono (Nat.le_trans HT3.out.size HT8.out.size))))) rfl (reads_blockN w8 73 [.int .i64 C.cl, .int .u64 (C.seq : Int), .slice A8 C.body.length c8] 3 rfl) rfl (by intro u hu; simp only [List.mem_cons, List.not_mem_nil, or_false] at hu; rcases hu with rfl | rfl | rfl <;> rfl) (by omega) (by have h1 := HT3.out.size; have h2 := HT8.out.size; rw [alloc_size]; omega) ?_
 intro v11 w11 ho11 hg11 hv11
 obtain ⟨A11, c11, e11, _⟩ := own_slice ho11
 subst e11
 have HO11 := Lib.hid ho11
 have HM11 := Lib.hid (mod_grownO hg11)
 have HV11 := Lib.hid hv11
 have HB11 : Hid (Blk w11 w.heap.size 45 (mdL M (.slice A E.length c) (.slice (some ⟨g, 0, none⟩) 3 3)).toArray) := ((HB13.out.below HT8.out HLB.out.1).alloc _).mod HM11.out (fun e => by have := (HVL.out _ e).2; omega)
 have c11' := (HB11.out.cell 0).trans (rfl : _ = some (Value.slice A E.length c))
 have f11 := HB11.out.free 0
 clear ho11 hg11 hv11
 refine hK (by repeat (first | exact PF.n | refine PF.l ?_ | refine PF.o (by decide +kernel) ?_ | refine PF.y (by first | rfl | assumption | go_simp) ?_)) ?_
 clear hK K
 try simp only [pz]
 refine PF.t 12 (by kernel_rfl) rfl (by go_simp; try rfl) ?_
 try simp only [pz]
 refine PF.e 13 (by kernel_rfl) rfl fun K hK => ?_
 go_simp
 refine hK (by repeat (first | exact PF.n | refine PF.l ?_ | refine PF.o (by decide +kernel) ?_ | refine PF.y (by first | rfl | assumption | go_simp) ?_)) ?_
 clear hK K
 try simp only [pz]
 refine PF.d (by kernel_rfl) ?_
 have hb12 : Blk (w11.setCell ⟨w.heap.size, 0, none⟩ (.slice A11 (E.length + 1) c11)) w.heap.size 45 (mdL (withM M C) (.slice A11 (E.length + 1) c11) (.slice (some ⟨g, 0, none⟩) 3 3)).toArray := HB11.out.put 0 _
 have hm12 : Mod (fun b => b = w.heap.size) w11 (w11.setCell ⟨w.heap.size, 0, none⟩ (.slice A11 (E.length + 1) c11)) := Mod.set (S := fun b => b = w.heap.size) (Mod.refl _ _) (p := ⟨w.heap.size, 0, none⟩) (fun _ => rfl) _
 have HG11 : Hid (Blk w11 g3 45 (mdL zMdl (.slice none 0 0) (.slice none 0 0)).toArray) := ((HB33.out.below HT8.out HLB.out.2.2).alloc _).mod HM11.out (fun e => by have := (HVL.out _ e).2; have := HG3.out; omega)
 have HG12 := Lib.hid (HG11.out.mod hm12 fun e => by have := HG3.out; omega)
 have HB12 := Lib.hid hb12
 have HM12 := Lib.hid hm12
 clear hb12 hm12 HG11
 go_wp2_with (refine wpList_load_blk rfl (ty := 45) rfl rfl HB12.out Tryz.underlying45 rfl (info_model rfl) ?_; refine Hid.out ?_)
 refine Lib.hid ?_
 go_wp2_with (refine wpList_store_blk rfl rfl rfl rfl HG12.out rfl (info_model rfl) (mdL_one rfl rfl) ?_; rintro w13 hB13 hm13; refine Hid.out ?_)
 refine Lib.hid ?_
 have HB13 := Lib.hid hB13
 have HM13 := Lib.hid hm13
 clear hB13 hm13
 go_wp2_with fail
 refine bodyPost_ret (results_c Tryz.results51 _ HB13.out rfl Tryz.underlying45 rfl (info_model rfl)) rfl ?_
 have h3 := HT3.out.size
 have h8 := HT8.out.size
 have hg3 := HG3.out
 have hgl := HGL.out
 have hlb := HLB.out
 have HX13 : Mod (fun b => b = w.heap.size ∨ b = g3) w11 w13 := (HM12.out.mono fun b _ h => .inl h).trans (HM13.out.mono fun b _ h => .inr h)
 have h9 : Below w.heap.size w (w8.alloc (.cells #[.int .i64 C.cl, .int .u64 (C.seq : Int), .slice A8 C.body.length c8] 73)) := (HT3.out.trans (HT8.out.mono h3)).trans ((below_new _ _).mono (by omega))
 have hsz9 : (w8.alloc (.cells #[.int .i64 C.cl, .int .u64 (C.seq : Int), .slice A8 C.body.length c8] 73)).heap.size = w8.heap.size + 1 := alloc_size _ _
 have hnew : ∀ b, (Value.slice A11 (E.length + 1) c11).ownBlock = some b → (Value.slice A E.length c).ownBlock = some b ∨ b = w8.heap.size + 1 := fun b hb => by
  rcases HV11.out with e | e
  ·exact .inl (e ▸ hb)
  ·rw [e, hsz9] at hb
   injection hb with hb
   exact .inr hb.symm
 obtain ⟨q1, q2, q3, q4, q5, q6⟩ := HGG.out
 refine ⟨⟨_, rfl, _, g, rfl, ⟨E ++ [(⟨C.cl, C.seq, C.body⟩, .slice A8 C.body.length c8)], ?_, ?_, fun p hp => ?_⟩, ?_, q2, q3, fun e => ?_, q5, fun b hb e => ?_⟩, ?_⟩
 ·have h1 := own_mod HO11.out HX13 fun b hb e => by
   rcases hnew b hb with h | h
   ·have := (HVL.out _ h).2; omega
   ·omega
  rw [List.length_append, List.flatMap_append]
  simpa [enL] using h1
 ·rw [List.map_append, HEQ.out]
  rfl
 ·rcases List.mem_append.1 hp with hp | hp
  ·have h1 := ((HALL.out p hp).weak (K' := fun b => (B ≤ b ∧ (Value.slice A E.length c).ownBlock ≠ some b ∧ b ≠ g ∧ ¬ X b) ∧ b < w.heap.size) fun b hb h => ⟨h, hb⟩).below h9
   have h2 := (h1.mod HM11.out fun b hb e => hb.1.2.1 e).mod HX13 fun b hb e => by have := hb.2; omega
   refine h2.weak fun b _ h => ⟨h.1.1, fun e => ?_, h.1.2.2⟩
   rcases hnew b e with h' | h'
   ·exact h.1.2.1 h'
   ·have := h.2; omega
  ·simp only [List.mem_singleton] at hp
   subst hp
   have h1 := (HV8.out.weak (K' := fun b => w3.heap.size ≤ b ∧ b < w8.heap.size) fun b hb h => ⟨h, hb⟩).below (below_new w8 (.cells #[.int .i64 C.cl, .int .u64 (C.seq : Int), .slice A8 C.body.length c8] 73))
   have h2 := (h1.mod HM11.out fun b hb e => by have := (HVL.out _ e).2; have := hb.1; omega).mod HX13 fun b hb e => by have := hb.1; omega
   refine h2.weak fun b _ h => ⟨by have := h.1; omega, fun e => ?_, by have := h.1; omega, fun e => by have := HXW.out _ e; have := h.1; omega⟩
   rcases hnew b e with h' | h'
   ·have := (HVL.out _ h').2; have := h.1; omega
   ·have := h.2; omega
 ·exact ((q1.below h9 hgl).mod HM11.out fun e => q4 e).mod HX13 fun e => by omega
 ·rcases hnew g e with h | h
  ·exact q4 h
  ·omega
 ·rcases hnew b hb with h | h
  ·exact q6 b h e
  ·have := HXW.out _ e; omega
 ·exact ((mod_below h9).trans HM11.out).join HX13 fun b hb e => by omega
end Go.Proofs.YtpjmolnkmlpfeaaGreatDoor
