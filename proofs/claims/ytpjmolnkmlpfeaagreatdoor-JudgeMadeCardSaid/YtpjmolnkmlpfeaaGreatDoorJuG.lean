/- A model in memory of its own. -/
import Derived.Test.YtpjmolnkmlpfeaaGreatDoorJuF
import Derived.Laws.CopyOwn
namespace Go.Proofs.YtpjmolnkmlpfeaaGreatDoor
set_option linter.unusedVariables false
set_option linter.unusedSimpArgs false
set_option maxRecDepth 100000
open Go.RowKit

/-- Entries in a row of one's own; a model of one's own. -/
def OwL (N : Nat → Prop) (B : Nat) (w : World) (vl : Value) (es : List Ent) : Prop :=
  ∃ E : List EnV, w.ownsRow B 73 3 vl E.length (E.flatMap enL) ∧ E.map (·.1) = es ∧ ∀ p ∈ E, SlB (fun b => B ≤ b ∧ vl.ownBlock ≠ some b ∧ N b) w p.2 p.1.body
/-- (X: blocks that it has not.) -/
def OwF (X : Nat → Prop) (B : Nat) (w : World) (vl : Value) (g : Nat) (M : Mdl) : Prop := OwL (fun b => b ≠ g ∧ ¬ X b) B w vl M.log ∧ Blk w g 22 (M.cur.map u64v).toArray ∧ M.cur.length = 3 ∧ B ≤ g ∧ vl.ownBlock ≠ some g ∧ ¬ X g ∧ ∀ b, vl.ownBlock = some b → ¬ X b
def OwM (X : Nat → Prop) (B : Nat) (w : World) (v : Value) (M : Mdl) : Prop := ∃ vl g, v = .agg (mdL M vl (.slice (some ⟨g, 0, none⟩) 3 3)).toArray ∧ OwF X B w vl g M
theorem ownBlock_slice {g n c : Nat} {b : Nat} : (Value.slice (some ⟨g, 0, none⟩) n c).ownBlock = some b ↔ g = b := by simp [Value.ownBlock]
theorem own_mod {S : Nat → Prop} {w w' : World} {base : Nat} {e : TypeId} {size n : Nat} {v : Value} {xs : List Value} (h : w.ownsRow base e size v n xs) (hm : Mod S w w') (hS : ∀ b, v.ownBlock = some b → ¬ S b) : w'.ownsRow base e size v n xs := by
  refine ⟨h.1, ?_⟩
  rcases h.2 with h1 | ⟨g, c, cur, rfl, hg, hb, r⟩
  · exact .inl h1
  · exact .inr ⟨g, c, cur, rfl, hg, (hm.block g (Array.getElem?_eq_some_iff.1 hb).1 (hS g rfl)).trans hb, r⟩
theorem OwL.sle {N : Nat → Prop} {B : Nat} {w : World} {vl : Value} {es : List Ent} (h : OwL N B w vl es) (hN : ∀ b, vl.ownBlock = some b → N b) : SlE (fun b => B ≤ b ∧ N b) w vl es := by
  obtain ⟨E, h1, h2, h3⟩ := h
  obtain ⟨A, c, rfl, h4, h5⟩ := own_slice h1
  exact ⟨A, c, E, rfl, h2, Reads.of_own h1, fun p hp => (h3 p hp).weak fun b _ h => ⟨h.1, h.2.2⟩, h4, by simpa [maxLen] using h5, fun _ ad ea => ⟨own_ge h1 _ (by rw [ea]; rfl), hN _ (by rw [ea]; rfl)⟩⟩
theorem blk_reads {w : World} {g : Nat} {t : TypeId} {cs : List Value} {n : Nat} (h : Blk w g t cs.toArray) (hn : cs.length = n) : Reads w 1 (some ⟨g, 0, none⟩) n cs :=
  ⟨by rw [hn, Nat.mul_one], fun _ => ⟨_, rfl, h.lt, fun j u hu => by rw [add_flat, h.cell, Nat.zero_add]; simpa using hu⟩⟩
variable {X : Nat → Prop}
theorem OwF.mdf {B : Nat} {w : World} {vl : Value} {g : Nat} {M : Mdl} (h : OwF X B w vl g M) : MdF (fun b => B ≤ b ∧ ¬ X b) w vl (.slice (some ⟨g, 0, none⟩) 3 3) M := by
  obtain ⟨h1, h2, h3, h4, h5, h6, h7⟩ := h
  refine ⟨(h1.sle (fun b hb => ⟨fun e => h5 (e ▸ hb), h7 b hb⟩)).weak fun b _ h => ⟨h.1, h.2.2⟩, some ⟨g, 0, none⟩, 3, by rw [h3], ?_, by omega, by decide, fun _ ad ea => by injection ea with ea; subst ea; exact ⟨h4, h6⟩⟩
  exact blk_reads h2 (by rw [List.length_map])
theorem OwL.below {N : Nat → Prop} {B : Nat} {w w' : World} {vl : Value} {es : List Ent} (h : OwL N B w vl es) (hb : Below w.heap.size w w') : OwL N B w' vl es := by
  obtain ⟨E, h1, h2, h3⟩ := h
  exact ⟨E, own_call h1 hb, h2, fun p hp => (h3 p hp).below hb⟩
theorem OwF.below {B : Nat} {w w' : World} {vl : Value} {g : Nat} {M : Mdl} (h : OwF X B w vl g M) (hb : Below w.heap.size w w') : OwF X B w' vl g M :=
  ⟨h.1.below hb, h.2.1.below hb h.2.1.lt, h.2.2⟩
theorem OwM.below {B : Nat} {w w' : World} {v : Value} {M : Mdl} (h : OwM X B w v M) (hb : Below w.heap.size w w') : OwM X B w' v M := by
  obtain ⟨vl, g, e, h⟩ := h
  exact ⟨vl, g, e, h.below hb⟩
/-- What is not there yet it has not. -/
theorem OwF.add {Y : Nat → Prop} {B : Nat} {w : World} {vl : Value} {g : Nat} {M : Mdl} (h : OwF X B w vl g M) (hY : ∀ b, b < w.heap.size → ¬ Y b) : OwF (fun b => X b ∨ Y b) B w vl g M := by
  obtain ⟨⟨E, e1, e2, e3⟩, h2, h3, h4, h5, h6, h7⟩ := h
  exact ⟨⟨E, e1, e2, fun p hp => (e3 p hp).weak fun b hb h => ⟨h.1, h.2.1, h.2.2.1, fun e => e.elim h.2.2.2 (hY b hb)⟩⟩, h2, h3, h4, h5, fun e => e.elim h6 (hY _ h2.lt), fun b hb e => e.elim (h7 b hb) (hY _ (e1.lt b hb).2)⟩
theorem own3_splice (l : List Nat) : splice [Value.int .u64 0, .int .u64 0, .int .u64 0] 0 ((l.take 3).map u64v) = (own3 l).map u64v := by
  rcases l with _ | ⟨a, _ | ⟨b, _ | ⟨c, l⟩⟩⟩ <;> rfl
theorem make3 (w : World) : (Instr.makeSlice 43 (.int .i64 3) (.int .i64 3)).run Tryz.prog w = .ok (.slice (some ⟨w.heap.size, 0, none⟩) 3 3) (w.alloc (.cells #[.int .u64 0, .int .u64 0, .int .u64 0] 22)) := by kernel_rfl
theorem size_u64 : (Tryz.prog.info? 22).map (·.size) = some 1 := by kernel_rfl
theorem u64_one (l : List Nat) : ∀ v ∈ l.map u64v, v.oneCell' = true := by
  intro v hv
  obtain ⟨x, _, rfl⟩ := List.mem_map.1 hv
  rfl
theorem copy3 {w : World} {A : Option Addr} {n c g : Nat} {xs : List Nat} (hB : Blk w g 22 #[.int .u64 0, .int .u64 0, .int .u64 0]) (hn : n = xs.length) (hr : Reads w 1 A n (xs.map u64v)) :
    ∃ w' q, (Builtin.copy_ #[43, 43] 3 #[.slice (some ⟨g, 0, none⟩) 3 3, .slice A n c]).run Tryz.prog w = .ok q w' ∧ Blk w' g 22 ((own3 xs).map u64v).toArray ∧ Mod (fun b => b = g) w w' := by
  subst hn
  rw [← own3_splice]
  rcases Nat.eq_zero_or_pos xs.length with h0 | h0
  · obtain rfl := List.eq_nil_of_length_eq_zero h0
    exact ⟨w, _, run_copy_none (P := Tryz.prog) w 43 43 3 22 _ _ 3 3 0 c Tryz.underlying43 size_u64 rfl, hB, Mod.refl _ _⟩
  · obtain ⟨ad, rfl, _, hc⟩ := hr.2 h0
    have hrun := run_copy_row (P := Tryz.prog) w 43 43 3 22 g 0 3 3 ad xs.length c #[.int .u64 0, .int .u64 0, .int .u64 0] 22 ((xs.take 3).map u64v) Tryz.underlying43 size_u64 hB
      (by simp [Nat.min_comm]) (fun j v hj => hc j v (by
        rw [List.map_take] at hj
        exact (List.getElem?_take_of_lt (by
          have := (List.getElem?_eq_some_iff.1 hj).1
          rw [List.length_take] at this
          omega)).symm.trans hj)) (by simp; omega) (u64_one _)
    refine ⟨_, _, hrun, ?_, Mod.setRow (S := fun b => b = g) (Mod.refl _ _) (fun _ => rfl) _⟩
    have h1 := setRow_heap w g _ (([Value.int .u64 0, .int .u64 0, .int .u64 0].take 0 ++ (xs.take 3).map u64v ++ [Value.int .u64 0, .int .u64 0, .int .u64 0].drop (0 + ((xs.take 3).map u64v).length)).toArray) 22 _ hB
    have e : splice [Value.int .u64 0, .int .u64 0, .int .u64 0] 0 ((xs.take 3).map u64v) = [Value.int .u64 0, .int .u64 0, .int .u64 0].take 0 ++ (xs.take 3).map u64v ++ [Value.int .u64 0, .int .u64 0, .int .u64 0].drop (0 + ((xs.take 3).map u64v).length) := by
      unfold splice
      rw [List.append_assoc]
    rw [e]
    exact h1
theorem drop_step {α : Type} {D : List α} {E : List α} {k : Nat} (hD : D.length = k) (hk : k < E.length) (y : α) : (D ++ E.drop k).set k y = (D ++ [y]) ++ E.drop (k + 1) := by
  rw [List.set_append_right _ _ (by omega), hD, Nat.sub_self, List.drop_eq_getElem_cons hk, List.append_assoc]
  rfl
theorem drop_get {α : Type} {D : List α} {E : List α} {k : Nat} (hD : D.length = k) (hk : k < E.length) (h : k < (D ++ E.drop k).length) : (D ++ E.drop k)[k] = E[k] := by
  rw [List.getElem_append_right (by omega)]
  simp [hD]
set_option maxRecDepth 100000 in
set_option maxHeartbeats 8000000 in
theorem mown_any {K : Nat → Prop} {w : World} {vl vc : Value} {M : Mdl} (h : MdF K w vl vc M) (hn : M.log.length ≤ 100000) (hbl : ∀ e ∈ M.log, e.body.length ≤ 1000000) (hXw : ∀ b, X b → b < w.heap.size) :
    Calls Tryz.prog 37 #[.agg (mdL M vl vc).toArray] w fun e w' => (∃ v', e = .returned v' ∧ OwM X w.heap.size w' v' (ownM M)) ∧ Below w.heap.size w w' := by
  have HXW := Lib.hid hXw
  clear hXw
  have hmk := make3
  obtain ⟨⟨A, c, E, rfl, hE, hr, hall, hc1, hc2, _⟩, hU⟩ := h
  have hl : M.log.length = E.length := by rw [← hE, List.length_map]
  have hone := hU.one
  obtain ⟨A2, c2, eC, hr2, hd1, hd2, _⟩ := hU
  subst eC
  rw [hl] at hn
  have HALL := Lib.hid hall
  have HE := Lib.hid hE
  have HBL := Lib.hid hbl
  have HC2 := Lib.hid hc2
  obtain ⟨vC, hvC⟩ : ∃ vC, vC = M.cur.length := ⟨_, rfl⟩
  rw [← hvC] at hr2 hd1
  have hB1 : Blk (w.alloc (.cells (mdL M (.slice A E.length c) (.slice A2 vC c2)).toArray 45)) w.heap.size 45 (mdL M (.slice A E.length c) (.slice A2 vC c2)).toArray := Blk.new _ _ _
  have hb1 := below_new w (.cells (mdL M (.slice A E.length c) (.slice A2 vC c2)).toArray 45)
  rw [← hvC]
  have HVC := Lib.hid hvC
  have HB1 := Lib.hid hB1
  have HT1 := Lib.hid hb1
  have HR := Lib.hid hr
  have HR2 := Lib.hid hr2
  have HD := Lib.hid hd1
  clear hB1 hb1 hall hE hr hr2 hbl hvC hc2 hd1
  go_enter Tryz.func37, Tryz.ntmps37
  go_wp2_with (refine wpList_alloc_blk rfl rfl zero_model ?_; rintro g w2 hg hB2 hb2; refine Hid.out ?_)
  refine Lib.hid ?_
  have HB2 := Lib.hid (HB1.out.below hb2 HB1.out.lt)
  have HG2 := Lib.hid hB2
  have HT2 := Lib.hid (below_call HT1.out HT1.out.size hb2)
  have HGG : Hid (g = w.heap.size + 1) := by
    show _ = _
    rw [← hg]
    simp
  have c0 : w2.cell? ⟨w.heap.size, 0, none⟩ = some (.slice A E.length c) := (HB2.out.cell 0).trans rfl
  have hcl := eclone_any (w := w2) (c := c) (HR.out.below (HT2.out.mono (Nat.le_refl _))) (enL_one HALL.out) (by omega)
  clear hb2 hg hB2 HB1 HT1
  go_wp2_with fail
  refine hcl.mono ?_
  rintro e w3 ⟨⟨v3, rfl, hown⟩, hb3⟩
  obtain ⟨A3, c3, e3, hc3, hc3'⟩ := own_slice hown
  subst e3
  have hbase := base_le hown (base' := w.heap.size) HT2.out.size
  have hgs := own_ge hown
  have HB3 := Lib.hid (HB2.out.below hb3 HB2.out.lt)
  have HG3 := Lib.hid (HG2.out.below hb3 HG2.out.lt)
  have HT3 := Lib.hid (below_call HT2.out HT2.out.size hb3)
  have c0' : w3.cell? ⟨w.heap.size, 0, none⟩ = some (.slice A E.length c) := (HB3.out.cell 0).trans rfl
  have f0' := HB3.out.free 0
  have HNB : Hid (∀ b, (Value.slice A3 E.length c3).ownBlock = some b → g < b) := fun b h => by
    have h1 := hgs b h
    have h2 := HG2.out.lt
    omega
  have HOWN := Lib.hid hbase
  clear hcl hb3 hown c0 HB2 HG2 HT2 hgs hbase
  have hB4 : Blk (w3.setCell ⟨w.heap.size, 0, none⟩ (.slice A3 E.length c3)) w.heap.size 45 (mdL M (.slice A3 E.length c3) (.slice A2 vC c2)).toArray := HB3.out.put 0 (.slice A3 E.length c3)
  have hm4 : Mod (fun b => b = w.heap.size) w3 (w3.setCell ⟨w.heap.size, 0, none⟩ (.slice A3 E.length c3)) := Mod.set (S := fun b => b = w.heap.size) (Mod.refl _ _) (p := ⟨w.heap.size, 0, none⟩) (fun _ => rfl) _
  have c0 := (hB4.cell 0).trans (rfl : _ = some (Value.slice A3 E.length c3))
  have HB4 := Lib.hid hB4
  have HG4 := Lib.hid (HG3.out.mod hm4 fun e => by have := HGG.out; omega)
  have HT4 : Hid (Below w.heap.size w (w3.setCell ⟨w.heap.size, 0, none⟩ (.slice A3 E.length c3))) := HT3.out.trans (hm4.to_below HT3.out.size fun b hb e => by omega)
  have HOWN4 : Hid ((w3.setCell ⟨w.heap.size, 0, none⟩ (.slice A3 E.length c3)).ownsRow w.heap.size 73 3 (.slice A3 E.length c3) E.length (E.flatMap enL)) := by
    refine World.ownsRow.kept HOWN.out (row := some w.heap.size) ⟨hm4.os, hm4.tape, hm4.output, hm4.size, fun k hk hn => hm4.block k hk fun e => hn (by rw [e])⟩ (.inr fun e => ?_)
    have := HNB.out _ e
    have := HGG.out
    omega
  clear hB4 hm4 HB3 HG3 HT3 HOWN
  go_wp2_with fail
  clear c0 c0' f0'
  go_loopw [13] (fun i wr => ∃ k : Nat, k ≤ E.length ∧ i = .int .i64 k ∧ Below w.heap.size w wr ∧ Blk wr w.heap.size 45 (mdL M (.slice A3 E.length c3) (.slice A2 vC c2)).toArray ∧ Blk wr g 45 (mdL zMdl (.slice none 0 0) (.slice none 0 0)).toArray ∧
      ∃ D : List EnV, D.length = k ∧ D.map (·.1) = (E.take k).map (·.1) ∧ wr.ownsRow w.heap.size 73 3 (.slice A3 E.length c3) E.length ((D ++ E.drop k).flatMap enL) ∧ ∀ p ∈ D, SlB (fun b => g < b ∧ (Value.slice A3 E.length c3).ownBlock ≠ some b) wr p.2 p.1.body) (fun i _ => E.length - (intOf i).toNat)
  case atStart => exact ⟨0, by omega, rfl, HT4.out, HB4.out, HG4.out, [], rfl, rfl, HOWN4.out, fun p hp => by cases hp⟩
  case round =>
    obtain ⟨k, hk, rfl, hb, hB, hG, D, hD, hDm, how, hDb⟩ := hrel
    have HB := Lib.hid hb
    have HBB := Lib.hid hB
    have HBG := Lib.hid hG
    have HDM := Lib.hid hDm
    have HOW := Lib.hid how
    have HDB := Lib.hid hDb
    by_cases hlt : k < E.length
    · obtain ⟨g3, hA3⟩ : ∃ g3, A3 = some ⟨g3, 0, none⟩ := by
        rcases how.2 with ⟨e, e2⟩ | ⟨g', c', cur, e, _⟩
        · omega
        · injection e with e
          exact ⟨g', e⟩
      subst hA3
      have hlen : k < (D ++ E.drop k).length := by rw [List.length_append, List.length_drop, hD]; omega
      have hgt := drop_get hD hlt hlen
      have hcell : ∀ i, i < 3 → wr.cell? ⟨g3, k * 3 + i, none⟩ = (enL E[k])[i]? := fun i hi => by
        rw [how.cellAt _ (by omega), rows_at enL_len (D ++ E.drop k) k i hlen hi, hgt]
      have q0 : wr.cell? ⟨g3, k * 3, none⟩ = some (.int .i64 E[k].1.prod) := hcell 0 (by decide)
      have q1 := (hcell 1 (by decide)).trans (rfl : _ = some (Value.int .u64 (E[k].1.seq : Int)))
      have q2 := (hcell 2 (by decide)).trans (rfl : _ = some E[k].2)
      have hsb := ((HALL.out _ (List.getElem_mem hlt)).below (hb.mono (Nat.le_refl _)))
      have hbl : E[k].1.body.length ≤ 1000000 := HBL.out _ (by rw [← HE.out]; exact List.mem_map.2 ⟨_, List.getElem_mem hlt, rfl⟩)
      obtain ⟨Dk, dk, eD, _⟩ := id hsb
      rw [eD] at q2
      have HSB := Lib.hid hsb
      rw [eD] at HSB
      have HTK : Hid ((E.take (k + 1)).map (·.1) = (E.take k).map (·.1) ++ [E[k].1]) := by
        show _ = _
        rw [List.take_succ_eq_append_getElem hlt, List.map_append]
        rfl
      have HDR : Hid (∀ (u : Value), ((D ++ E.drop k).flatMap enL).set (k * 3 + 2) u = ((D ++ [(E[k].1, u)]) ++ E.drop (k + 1)).flatMap enL) := fun u => by
        rw [flat_set enL_len (D ++ E.drop k) k 2 hlen u (E[k].1, u) (by decide) (by rw [hgt]; rfl), drop_step hD hlt]
      generalize hx : E[k].1 = x at q0 q1 q2 HSB HTK HDR hbl
      clear hx hgt hcell hsb eD hDb hDm hB hG hb hlen
      have hw0 : g3 < wr.heap.size := (how.lt g3 rfl).2
      have hbox : Blk (wr.alloc (.cells #[.int .i64 x.prod, .int .u64 (x.seq : Int), .slice Dk x.body.length dk] 73)) wr.heap.size 73 #[.int .i64 x.prod, .int .u64 (x.seq : Int), .slice Dk x.body.length dk] := Blk.new _ _ _
      have e2 := (hbox.cell 2).trans (rfl : _ = some (Value.slice Dk x.body.length dk))
      have e0 : (wr.alloc (.cells #[.int .i64 x.prod, .int .u64 (x.seq : Int), .slice Dk x.body.length dk] 73)).cell? ⟨w.heap.size, 0, none⟩ = some (.slice (some ⟨g3, 0, none⟩) E.length c3) := ((HBB.out.alloc _).cell 0).trans rfl
      have hwb := below_new wr (.cells #[.int .i64 x.prod, .int .u64 (x.seq : Int), .slice Dk x.body.length dk] 73)
      have HWB := Lib.hid hwb
      have HSB2 := Lib.hid (HSB.out.below hwb)
      have HBLX := Lib.hid hbl
      clear hwb hbox hbl
      go_wp2_with fail
      refine PF.pf_begin (by kernel_rfl) ?_
      refine PF.pf_take0 0 (by kernel_rfl) rfl (fun _ _ _ _ _ h => h) (by kernel_rfl) (fun u => by go_simp; try rfl) ?_
      try simp only [Act.put, pz0, pz1, pz2]
      refine PF.pf_take1 1 (PF.Same (w.heap.size) _) (by kernel_rfl) rfl (fun _ _ _ _ _ h => h) (by kernel_rfl) (PF.Same.refl _ _) (fun u hu => by have hcu := hu.cell; go_simp; try rfl) ?_
      try simp only [Act.put, pz0, pz1, pz2]
      refine PF.pf_take0 2 (by kernel_rfl) rfl (fun _ _ _ _ _ h => h) (by kernel_rfl) (fun u => by go_simp; try rfl) ?_
      try simp only [Act.put, pz0, pz1, pz2]
      refine PF.pf_take0 3 (by kernel_rfl) rfl (fun _ _ _ _ _ h => h) (by kernel_rfl) (fun u => by go_simp; try rfl) ?_
      try simp only [Act.put, pz0, pz1, pz2]
      refine PF.pf_take1 4 (PF.Same (wr.heap.size) _) (by kernel_rfl) rfl (fun _ _ _ _ _ h => h) (by kernel_rfl) (PF.Same.refl _ _) (fun u hu => by have hcu := hu.cell; go_simp; try rfl) ?_
      try simp only [Act.put, pz0, pz1, pz2]
      refine PF.pf_exec 5 (by kernel_rfl) rfl (by kernel_rfl) (fun K hK => ?_)
      go_simp
      refine (bcloneK_any (HSB2.out.below ((Below.refl _ _).drew)) (by have := HBLX.out; omega)).mono ?_
      rintro e w5 ⟨⟨v5, rfl, hv5⟩, hb5⟩
      have HT5 := Lib.hid (HWB.out.trans (((Below.refl _ _).drew.trans hb5).mono HWB.out.size))
      obtain ⟨A5, c5, e5, _⟩ := id hv5
      subst e5
      have hq5 := own_call HOW.out HT5.out
      have c9 : w5.cell? ⟨g3, k * 3 + 2, none⟩ = some (.slice Dk x.body.length dk) := (HT5.out.cell (p := ⟨g3, k * 3 + 2, none⟩) hw0).trans q2
      obtain ⟨cur5, _, hg5, _⟩ := own_unfold hq5
      have f9 := Blk.free (w := w5) (t := 73) hg5 (k * 3 + 2)
      have HV5 := Lib.hid hv5
      have HQ5 := Lib.hid hq5
      have HS5 := Lib.hid hb5.block
      rw [show (wr.alloc (.cells #[.int .i64 x.prod, .int .u64 (x.seq : Int), .slice Dk x.body.length dk] 73)).drew.heap.size = wr.heap.size + 1 from alloc_size _ _] at HS5
      clear hv5 hb5 hg5 hq5
      refine hK _ _ (by repeat (first | exact PF.owes_nil | refine PF.owes_left ?_ | refine PF.owes_no (by decide +kernel) ?_ | refine PF.owes_yes (by exact HS5.out _ (by have := HB.out.size; omega)) ?_)) ?_
      clear hK K
      try simp only [Act.put, pz0, pz1, pz2]
      refine PF.pf_take0 6 (by kernel_rfl) rfl (fun _ _ _ _ _ h => h) (by kernel_rfl) (fun u => by go_simp; try rfl) ?_
      try simp only [Act.put, pz0, pz1, pz2]
      refine PF.pf_take0 7 (by kernel_rfl) rfl (fun _ _ _ _ _ h => h) (by kernel_rfl) (fun u => by go_simp; try rfl) ?_
      try simp only [Act.put, pz0, pz1, pz2]
      refine PF.pf_exec 8 (by kernel_rfl) rfl (by kernel_rfl) (fun K hK => ?_)
      go_simp
      refine hK _ _ (by repeat (first | exact PF.owes_nil | refine PF.owes_left ?_ | refine PF.owes_no (by decide +kernel) ?_ | refine PF.owes_yes (by first | rfl | assumption | go_simp) ?_)) ?_
      clear hK K
      try simp only [Act.put, pz0, pz1, pz2]
      refine PF.pf_done (by kernel_rfl) ?_
      have HS6 := Lib.hid (HQ5.out.stored (k * 3 + 2) (.slice A5 x.body.length c5))
      have HG3 : Hid (w.heap.size ≤ g3 ∧ g3 ≠ w.heap.size ∧ g3 ≠ g) := by
        have h1 := HNB.out g3 rfl
        have h2 := HGG.out
        show _ ∧ _
        omega
      have hm6 : Mod (fun b => b = g3) w5 (w5.setCell ⟨g3, k * 3 + 2, none⟩ (.slice A5 x.body.length c5)) := Mod.set (S := fun b => b = g3) (Mod.refl _ _) (p := ⟨g3, k * 3 + 2, none⟩) (fun _ => rfl) _
      have HM6 := Lib.hid hm6
      have HLW : Hid (w.heap.size ≤ wr.heap.size) := HB.out.size
      have HWD := Lib.hid hw0
      clear hm6 how hw0 c9 f9 e0 e2
      go_wp2_with fail
      go_roundw
      case rel =>
        have h1 := HG3.out; have h2 := HLW.out; have h3 := HWD.out
        refine ⟨k + 1, by omega, by go_num, (HB.out.trans (HT5.out.mono h2)).trans (HM6.out.to_below (Nat.le_trans h2 HT5.out.size) fun b hb e => by omega), ?_, ?_, D ++ [(x, .slice A5 x.body.length c5)], by simp [hD], ?_, ?_, ?_⟩
        · exact (HBB.out.below HT5.out HBB.out.lt).mod HM6.out fun e => by omega
        · exact (HBG.out.below HT5.out HBG.out.lt).mod HM6.out fun e => by omega
        · rw [List.map_append, HDM.out, HTK.out]; rfl
        · have := HS6.out.1; rw [HDR.out] at this; exact this
        · intro p hp
          rcases List.mem_append.1 hp with hp | hp
          · exact ((HDB.out p hp).below HT5.out).mod HM6.out fun b hb e => hb.2 (by rw [e]; rfl)
          · simp only [List.mem_singleton] at hp
            subst hp
            refine ((HV5.out.weak (K' := fun b => g < b ∧ (Value.slice (some ⟨g3, 0, none⟩) E.length c3).ownBlock ≠ some b) fun b _ hb => ?_)).mod HM6.out fun b hb e => hb.2 (by rw [e]; rfl)
            have hb : (wr.alloc (.cells #[.int .i64 x.prod, .int .u64 (x.seq : Int), .slice Dk x.body.length dk] 73)).heap.size ≤ b := hb
            rw [alloc_size] at hb
            have h4 := HBG.out.lt
            refine ⟨by omega, fun e => ?_⟩
            have e := ownBlock_slice.1 e
            omega
      case measure => simp [intOf]; omega
    · obtain rfl : k = E.length := by omega
      rw [List.drop_length, List.append_nil] at HOW
      clear how hDb hDm hB hG hb
      have HDE : Hid (D.map (·.1) = E.map (·.1)) := by rw [HDM.out, List.take_length]; rfl
      have b5 := below_new wr (.cells #[.int .u64 0, .int .u64 0, .int .u64 0] 22)
      have HB5 := Lib.hid b5
      have HU5 : Hid (Blk (wr.alloc (.cells #[.int .u64 0, .int .u64 0, .int .u64 0] 22)) wr.heap.size 22 #[.int .u64 0, .int .u64 0, .int .u64 0]) := Blk.new _ _ _
      have p2 : (wr.alloc (.cells #[.int .u64 0, .int .u64 0, .int .u64 0] 22)).cell? ⟨w.heap.size, 2, none⟩ = some (.slice A2 vC c2) := ((HBB.out.alloc _).cell 2).trans rfl
      have hR2 : Reads (wr.alloc (.cells #[.int .u64 0, .int .u64 0, .int .u64 0] 22)) 1 A2 vC (M.cur.map u64v) := (HR2.out.below (HB.out.mono (Nat.le_refl _))).below (b5.mono (Nat.le_refl _))
      obtain ⟨w7, q7, hrun7, hg7, hm7⟩ := copy3 (c := c2) HU5.out HVC.out hR2
      have HB7 := Lib.hid (HB5.out.trans (hm7.to_below HB5.out.size fun b hb e => by omega))
      have HG7 := Lib.hid hg7
      clear b5 hR2 hm7 hg7
      have HB7B := Lib.hid (HBB.out.below HB7.out HBB.out.lt)
      have HB7G := Lib.hid (HBG.out.below HB7.out HBG.out.lt)
      have f2 := HB7B.out.free 2
      have p2' : w7.cell? ⟨w.heap.size, 2, none⟩ = some (.slice A2 vC c2) := (HB7B.out.cell 2).trans rfl
      have hb8 : Blk (w7.setCell ⟨w.heap.size, 2, none⟩ (.slice (some ⟨wr.heap.size, 0, none⟩) 3 3)) w.heap.size 45 (mdL (ownM M) (.slice A3 E.length c3) (.slice (some ⟨wr.heap.size, 0, none⟩) 3 3)).toArray := HB7B.out.put 2 _
      have hm8 : Mod (fun b => b = w.heap.size) w7 (w7.setCell ⟨w.heap.size, 2, none⟩ (.slice (some ⟨wr.heap.size, 0, none⟩) 3 3)) := Mod.set (S := fun b => b = w.heap.size) (Mod.refl _ _) (p := ⟨w.heap.size, 2, none⟩) (fun _ => rfl) _
      have HG8 := Lib.hid (HB7G.out.mod hm8 fun e => by have := HGG.out; omega)
      have HM8 := Lib.hid hm8
      have HB8 := Lib.hid hb8
      clear hm8 hb8
      go_wp2_with (refine wpList_load_blk rfl (ty := 45) rfl rfl HB8.out Tryz.underlying45 rfl (info_model rfl) ?_; refine Hid.out ?_)
      refine Lib.hid ?_
      have hon : ∀ v ∈ (mdL (ownM M) (.slice A3 E.length c3) (.slice (some ⟨wr.heap.size, 0, none⟩) 3 3)).toArray.toList, v.oneCell' = true := by
        intro v hv
        simp only [mdL, List.toList_toArray, List.mem_cons, List.not_mem_nil, or_false] at hv
        rcases hv with rfl | rfl | rfl <;> rfl
      go_wp2_with (refine wpList_store_blk rfl rfl rfl rfl HG8.out rfl (info_model rfl) hon ?_; rintro w9 hB9 hm9; refine Hid.out ?_)
      refine Lib.hid ?_
      have HB9 := Lib.hid hB9
      have HM9 := Lib.hid hm9
      clear hB9 hm9 hon
      go_wp2_with fail
      refine bodyPost_ret (results_c Tryz.results37 _ HB9.out rfl Tryz.underlying45 rfl (info_model rfl)) rfl ?_
      have hg1 := HGG.out
      have hlw := HB.out.size
      have hlb := HBB.out.lt
      have hlg := HBG.out.lt
      have HX9 : Mod (fun b => b = w.heap.size ∨ b = g) w7 w9 := (HM8.out.mono fun b _ h => .inl h).trans (HM9.out.mono fun b _ h => .inr h)
      have hT9 : Below w.heap.size w w9 := (HB.out.trans (HB7.out.mono hlw)).trans (HX9.to_below (Nat.le_trans hlw HB7.out.size) fun b hb e => by omega)
      refine ⟨⟨_, rfl, _, _, rfl, ⟨D, ?_, HDE.out.trans HE.out, fun p hp => ?_⟩, ?_, rfl, hlw, fun e => ?_, fun e => by have := HXW.out _ e; omega, fun b hb e => by have := HXW.out _ e; have := HNB.out b hb; omega⟩, hT9⟩
      · have h1 := own_call HOW.out HB7.out
        rw [hD]
        exact own_mod h1 HX9 fun b hb e => by have := HNB.out b hb; omega
      · have h1 := ((HDB.out p hp).weak (K' := fun b => (w.heap.size ≤ b ∧ (Value.slice A3 E.length c3).ownBlock ≠ some b ∧ b ≠ wr.heap.size) ∧ g < b) fun b hb h => ⟨⟨by omega, h.2, by omega⟩, h.1⟩).below HB7.out
        exact (h1.mod HX9 fun b hb e => by have := hb.2; omega).weak fun b _ h => ⟨h.1.1, h.1.2.1, h.1.2.2, fun e => by have := HXW.out _ e; have := h.2; omega⟩
      · exact HG7.out.mod HX9 fun e => by omega
      · have := (HOW.out.lt _ e).2
        omega
end Go.Proofs.YtpjmolnkmlpfeaaGreatDoor
