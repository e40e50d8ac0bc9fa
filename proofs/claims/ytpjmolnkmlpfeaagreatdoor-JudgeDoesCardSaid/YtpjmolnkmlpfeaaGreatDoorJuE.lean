/- A producer's last entry; whether a publish is fresh. -/
import Derived.Test.YtpjmolnkmlpfeaaGreatDoorJuD
namespace Go.Proofs.YtpjmolnkmlpfeaaGreatDoor
set_option linter.unusedVariables false
set_option linter.unusedSimpArgs false
set_option maxRecDepth 100000
open Go.RowKit

def lastI : Option Nat → Int
 | none => -1
 | some k => (k : Int)
theorem lastK_succ (log : List Ent) (p : Int) (k : Nat) : lastK log p (k + 1) = if (log.getD k zEnt).prod = p ∧ laterK log k (lastK log p k) = true then some k else lastK log p k := rfl
theorem map_getD {E : List EnV} {es : List Ent} (h : E.map (·.1) = es) {k : Nat} (hk : k < E.length) : es.getD k zEnt = E[k].1 := by
 rw [← h, List.getD_eq_getElem?_getD, List.getElem?_map, List.getElem?_eq_getElem hk]
 rfl
theorem en_cells {w : World} {A : Option Addr} {E : List EnV} (h : Reads w 3 A E.length (E.flatMap enL)) {k : Nat} (hk : k < E.length) :
  ∃ b o, A = some ⟨b, o, none⟩ ∧ b < w.heap.size ∧ w.cell? ⟨b, o + k * 3, none⟩ = some (.int .i64 E[k].1.prod) ∧ w.cell? ⟨b, o + k * 3 + 1, none⟩ = some (.int .u64 (E[k].1.seq : Int)) ∧ w.cell? ⟨b, o + k * 3 + 2, none⟩ = some E[k].2 := by
 obtain ⟨b, o, e, hb, hr⟩ := rows_range enL_len (by decide) h hk
 exact ⟨b, o, e, hb, hr 0 _ rfl, hr 1 _ rfl, hr 2 _ rfl⟩
set_option maxHeartbeats 4000000 in
theorem last_any {K : Nat → Prop} {w : World} {vl vc : Value} {M : Mdl} (h : SlE K w vl M.log) (p : Int) (hn : M.log.length ≤ 100000) :
  Calls Tryz.prog 60 #[.agg (mdL M vl vc).toArray, .int .i64 p] w fun e w' => e = .returned (.int .i64 (lastI (lastOf M p))) ∧ Below w.heap.size w w' := by
 unfold lastOf
 obtain ⟨A, c, E, rfl, hE, hr, hall, _⟩ := h
 have hl : M.log.length = E.length := by rw [← hE, List.length_map]
 rw [hl] at hn ⊢
 have hB1 : Blk (w.alloc (.cells (mdL M (.slice A E.length c) vc).toArray 45)) w.heap.size 45 (mdL M (.slice A E.length c) vc).toArray := Blk.new _ _ _
 have HB1 := Lib.hid hB1
 have HR := Lib.hid hr
 have HALL := Lib.hid hall
 have HE := Lib.hid hE
 have HL := Lib.hid hl
 have hb1 := below_new w (.cells (mdL M (.slice A E.length c) vc).toArray 45)
 have HT1 := Lib.hid hb1
 have c0 : (w.alloc (.cells (mdL M (.slice A E.length c) vc).toArray 45)).cell? ⟨w.heap.size, 0, none⟩ = some (.slice A E.length c) := (hB1.cell 0).trans rfl
 clear hB1 hr hE hl hb1 hall
 go_enter Tryz.func60, Tryz.ntmps60
 go_wp2_with fail
 go_loopw [5, 11] (fun q i wr => ∃ k : Nat, k ≤ E.length ∧ i = .int .i64 k ∧ q = .int .i64 (lastI (lastK M.log p k)) ∧ Below w.heap.size w wr ∧ Blk wr w.heap.size 45 (mdL M (.slice A E.length c) vc).toArray) (fun _ i _ => E.length - (intOf i).toNat)
 case atStart => exact ⟨0, by omega, rfl, rfl, HT1.out, HB1.out⟩
 case round =>
  obtain ⟨k, hk, rfl, rfl, hb, hB⟩ := hrel
  have HB := Lib.hid hb
  have HBK := Lib.hid hB
  clear c0
  by_cases hlt : k < E.length
  ·have hrr := HR.out.below hb
   obtain ⟨b, o, rfl, hbl, c0, c1, c2⟩ := en_cells hrr hlt
   have hg := map_getD HE.out hlt
   have hst := lastK_succ M.log p k
   rw [hg] at hst
   have HST := Lib.hid hst
   have HG := Lib.hid hg
   obtain ⟨D, d, eD, _⟩ := HALL.out _ (List.getElem_mem hlt)
   rw [eD] at c2
   generalize E[k].1.body.length = nd at c2
   generalize hx : E[k].1 = x at c0 c1 HST HG
   clear hx hst hg hB hb eD
   have hbox : Blk (wr.alloc (.cells #[.int .i64 x.prod, .int .u64 (x.seq : Int), .slice D nd d] 73)) wr.heap.size 73 #[.int .i64 x.prod, .int .u64 (x.seq : Int), .slice D nd d] := Blk.new _ _ _
   have e0 : (wr.alloc (.cells #[.int .i64 x.prod, .int .u64 (x.seq : Int), .slice D nd d] 73)).cell? ⟨wr.heap.size, 0, none⟩ = some (.int .i64 x.prod) := hbox.cell 0
   have e1 : (wr.alloc (.cells #[.int .i64 x.prod, .int .u64 (x.seq : Int), .slice D nd d] 73)).cell? ⟨wr.heap.size, 1, none⟩ = some (.int .u64 (x.seq : Int)) := hbox.cell 1
   have e3 : (wr.alloc (.cells #[.int .i64 x.prod, .int .u64 (x.seq : Int), .slice D nd d] 73)).cell? ⟨w.heap.size, 0, none⟩ = some (.slice (some ⟨b, o, none⟩) E.length c) := ((HBK.out.alloc _).cell 0).trans rfl
   have HB2 := Lib.hid (HB.out.alloc HB.out.size (.cells #[.int .i64 x.prod, .int .u64 (x.seq : Int), .slice D nd d] 73))
   have HBK2 := Lib.hid (HBK.out.alloc (.cells #[.int .i64 x.prod, .int .u64 (x.seq : Int), .slice D nd d] 73))
   clear hbox
   by_cases hp : x.prod = p
   ·have p0 : decide (x.prod = p) = true := decide_eq_true hp
    have p1 : (x.prod == p) = true := beq_iff_eq.2 hp
    have HP := Lib.hid hp
    clear hp
    cases hj : lastK M.log p k with
    | none =>
     have HJ := Lib.hid hj
     clear hj
     have n0 : lastI none = -1 := rfl
     rw [n0]
     go_wp2_with fail
     refine PF.b (by kernel_rfl) (fun _ _ _ _ _ h => h) ?_
     refine PF.t 0 (by kernel_rfl) rfl (by go_simp; try rfl) ?_
     try simp only [pz]
     refine PF.m 1 (wr.heap.size) (by kernel_rfl) rfl (fun hcu => by go_simp; try rfl) ?_
     try simp only [pz]
     refine PF.t 2 (by kernel_rfl) rfl (by go_simp; try rfl) ?_
     try simp only [pz]
     refine PF.t 3 (by kernel_rfl) rfl (by go_simp; try rfl) ?_
     try simp only [pz]
     refine PF.t 4 (by kernel_rfl) rfl (by go_simp; try rfl) ?_
     try simp only [pz]
     refine PF.t 5 (by kernel_rfl) rfl (by go_simp; try rfl) ?_
     try simp only [pz]
     refine PF.t 6 (by kernel_rfl) rfl (by go_simp; try rfl) ?_
     try simp only [pz]
     refine PF.t 7 (by kernel_rfl) rfl (by go_simp; try rfl) ?_
     try simp only [pz]
     refine PF.s 8 (by kernel_rfl) rfl ?_
     refine PF.s 9 (by kernel_rfl) rfl ?_
     refine PF.s 10 (by kernel_rfl) rfl ?_
     refine PF.s 11 (by kernel_rfl) rfl ?_
     refine PF.s 12 (by kernel_rfl) rfl ?_
     refine PF.s 13 (by kernel_rfl) rfl ?_
     refine PF.s 14 (by kernel_rfl) rfl ?_
     refine PF.s 15 (by kernel_rfl) rfl ?_
     refine PF.s 16 (by kernel_rfl) rfl ?_
     try simp only [pz]
     refine PF.t 17 (by kernel_rfl) rfl (by go_simp; try rfl) ?_
     try simp only [pz]
     refine PF.t 18 (by kernel_rfl) rfl (by go_simp; try rfl) ?_
     try simp only [pz]
     refine PF.d (by kernel_rfl) ?_
     go_wp2_with fail
     go_roundw
     case rel => exact ⟨k + 1, by omega, by go_num, by rw [HST.out, HJ.out, if_pos ⟨HP.out, rfl⟩]; rfl, HB2.out.drew, HBK2.out⟩
     case measure => simp [intOf]; omega
    | some j =>
     have hjk := lastK_lt hj
     obtain ⟨b', o', e', hbl', dz, d1, dz'⟩ := en_cells hrr (k := j) (by omega)
     injection e' with e'
     injection e' with e1' e2' e3'
     subst e1' e2'
     clear hbl' dz dz' e3'
     have hgj := map_getD HE.out (k := j) (by omega)
     generalize hy : E[j].1 = y at d1 hgj
     clear hy
     have d2 : (wr.alloc (.cells #[.int .i64 x.prod, .int .u64 (x.seq : Int), .slice D nd d] 73)).cell? ⟨b, o + j * 3 + 1, none⟩ = some (.int .u64 (y.seq : Int)) := ((below_new wr _).cell (p := ⟨b, o + j * 3 + 1, none⟩) hbl).trans d1
     have hlat : laterK M.log k (lastK M.log p k) = decide (y.seq < x.seq) := by rw [hj]; unfold laterK; simp only [hgj, HG.out]
     have n0 : lastI (some j) = (j : Int) := rfl
     have q0 : decide ((j : Int) < 0) = false := decide_eq_false (by omega)
     have HJ := Lib.hid hj
     have HLAT := Lib.hid hlat
     have hjl : j < E.length := by omega
     rw [n0]
     clear d1 hj hlat hgj n0
     by_cases hs : y.seq < x.seq
     ·have s0 : decide (y.seq < x.seq) = true := decide_eq_true hs
      have s1 : decide ((y.seq : Int) < (x.seq : Int)) = true := decide_eq_true (by omega)
      clear hs
      go_wp2_with fail
      refine PF.b (by kernel_rfl) (fun _ _ _ _ _ h => h) ?_
      refine PF.t 0 (by kernel_rfl) rfl (by go_simp; try rfl) ?_
      try simp only [pz]
      refine PF.m 1 (wr.heap.size) (by kernel_rfl) rfl (fun hcu => by go_simp; try rfl) ?_
      try simp only [pz]
      refine PF.t 2 (by kernel_rfl) rfl (by go_simp; try rfl) ?_
      try simp only [pz]
      refine PF.t 3 (by kernel_rfl) rfl (by go_simp; try rfl) ?_
      try simp only [pz]
      refine PF.t 4 (by kernel_rfl) rfl (by go_simp; try rfl) ?_
      try simp only [pz]
      refine PF.t 5 (by kernel_rfl) rfl (by go_simp; try rfl) ?_
      try simp only [pz]
      refine PF.t 6 (by kernel_rfl) rfl (by go_simp; try rfl) ?_
      try simp only [pz]
      refine PF.t 7 (by kernel_rfl) rfl (by go_simp; try rfl) ?_
      try simp only [pz]
      refine PF.t 8 (by kernel_rfl) rfl (by go_simp; try rfl) ?_
      try simp only [pz]
      refine PF.m 9 (wr.heap.size) (by kernel_rfl) rfl (fun hcu => by go_simp; try rfl) ?_
      try simp only [pz]
      refine PF.t 10 (by kernel_rfl) rfl (by go_simp; try rfl) ?_
      try simp only [pz]
      refine PF.m 11 (w.heap.size) (by kernel_rfl) rfl (fun hcu => by go_simp; try rfl) ?_
      try simp only [pz]
      refine PF.t 12 (by kernel_rfl) rfl (by go_simp; try rfl) ?_
      try simp only [pz]
      refine PF.t 13 (by kernel_rfl) rfl (by go_simp; try rfl) ?_
      try simp only [pz]
      refine PF.t 14 (by kernel_rfl) rfl (by go_simp; try rfl) ?_
      try simp only [pz]
      refine PF.m 15 (b) (by kernel_rfl) rfl (fun hcu => by go_simp; try rfl) ?_
      try simp only [pz]
      refine PF.t 16 (by kernel_rfl) rfl (by go_simp; try rfl) ?_
      try simp only [pz]
      refine PF.t 17 (by kernel_rfl) rfl (by go_simp; try rfl) ?_
      try simp only [pz]
      refine PF.t 18 (by kernel_rfl) rfl (by go_simp; try rfl) ?_
      try simp only [pz]
      refine PF.d (by kernel_rfl) ?_
      go_wp2_with fail
      go_roundw
      case rel => exact ⟨k + 1, by omega, by go_num, by rw [HST.out, if_pos ⟨HP.out, HLAT.out.trans s0⟩]; rfl, HB2.out.drew, HBK2.out⟩
      case measure => simp [intOf]; omega
     ·have s0 : decide (y.seq < x.seq) = false := decide_eq_false hs
      have s1 : decide ((y.seq : Int) < (x.seq : Int)) = false := decide_eq_false (by omega)
      clear hs
      go_wp2_with fail
      refine PF.b (by kernel_rfl) (fun _ _ _ _ _ h => h) ?_
      refine PF.t 0 (by kernel_rfl) rfl (by go_simp; try rfl) ?_
      try simp only [pz]
      refine PF.m 1 (wr.heap.size) (by kernel_rfl) rfl (fun hcu => by go_simp; try rfl) ?_
      try simp only [pz]
      refine PF.t 2 (by kernel_rfl) rfl (by go_simp; try rfl) ?_
      try simp only [pz]
      refine PF.t 3 (by kernel_rfl) rfl (by go_simp; try rfl) ?_
      try simp only [pz]
      refine PF.t 4 (by kernel_rfl) rfl (by go_simp; try rfl) ?_
      try simp only [pz]
      refine PF.t 5 (by kernel_rfl) rfl (by go_simp; try rfl) ?_
      try simp only [pz]
      refine PF.t 6 (by kernel_rfl) rfl (by go_simp; try rfl) ?_
      try simp only [pz]
      refine PF.t 7 (by kernel_rfl) rfl (by go_simp; try rfl) ?_
      try simp only [pz]
      refine PF.t 8 (by kernel_rfl) rfl (by go_simp; try rfl) ?_
      try simp only [pz]
      refine PF.m 9 (wr.heap.size) (by kernel_rfl) rfl (fun hcu => by go_simp; try rfl) ?_
      try simp only [pz]
      refine PF.t 10 (by kernel_rfl) rfl (by go_simp; try rfl) ?_
      try simp only [pz]
      refine PF.m 11 (w.heap.size) (by kernel_rfl) rfl (fun hcu => by go_simp; try rfl) ?_
      try simp only [pz]
      refine PF.t 12 (by kernel_rfl) rfl (by go_simp; try rfl) ?_
      try simp only [pz]
      refine PF.t 13 (by kernel_rfl) rfl (by go_simp; try rfl) ?_
      try simp only [pz]
      refine PF.t 14 (by kernel_rfl) rfl (by go_simp; try rfl) ?_
      try simp only [pz]
      refine PF.m 15 (b) (by kernel_rfl) rfl (fun hcu => by go_simp; try rfl) ?_
      try simp only [pz]
      refine PF.t 16 (by kernel_rfl) rfl (by go_simp; try rfl) ?_
      try simp only [pz]
      refine PF.t 17 (by kernel_rfl) rfl (by go_simp; try rfl) ?_
      try simp only [pz]
      refine PF.t 18 (by kernel_rfl) rfl (by go_simp; try rfl) ?_
      try simp only [pz]
      refine PF.d (by kernel_rfl) ?_
      go_wp2_with fail
      go_roundw
      case rel => exact ⟨k + 1, by omega, by go_num, by rw [HST.out, if_neg (fun h => by have := h.2; rw [HLAT.out, s0] at this; cases this), HJ.out]; rfl, HB2.out.drew, HBK2.out⟩
      case measure => simp [intOf]; omega
   ·have p0 : decide (x.prod = p) = false := decide_eq_false hp
    have p1 : (x.prod == p) = false := beq_eq_false_iff_ne.2 hp
    have HP := Lib.hid hp
    clear hp
    generalize hq : lastI (lastK M.log p k) = q
    have HQ := Lib.hid hq
    clear hq
    go_wp2_with fail
    refine PF.b (by kernel_rfl) (fun _ _ _ _ _ h => h) ?_
    refine PF.t 0 (by kernel_rfl) rfl (by go_simp; try rfl) ?_
    try simp only [pz]
    refine PF.m 1 (wr.heap.size) (by kernel_rfl) rfl (fun hcu => by go_simp; try rfl) ?_
    try simp only [pz]
    refine PF.t 2 (by kernel_rfl) rfl (by go_simp; try rfl) ?_
    try simp only [pz]
    refine PF.t 3 (by kernel_rfl) rfl (by go_simp; try rfl) ?_
    try simp only [pz]
    refine PF.t 4 (by kernel_rfl) rfl (by go_simp; try rfl) ?_
    try simp only [pz]
    refine PF.s 5 (by kernel_rfl) rfl ?_
    refine PF.s 6 (by kernel_rfl) rfl ?_
    refine PF.s 7 (by kernel_rfl) rfl ?_
    refine PF.s 8 (by kernel_rfl) rfl ?_
    refine PF.s 9 (by kernel_rfl) rfl ?_
    refine PF.s 10 (by kernel_rfl) rfl ?_
    refine PF.s 11 (by kernel_rfl) rfl ?_
    refine PF.s 12 (by kernel_rfl) rfl ?_
    refine PF.s 13 (by kernel_rfl) rfl ?_
    refine PF.s 14 (by kernel_rfl) rfl ?_
    refine PF.s 15 (by kernel_rfl) rfl ?_
    refine PF.s 16 (by kernel_rfl) rfl ?_
    refine PF.s 17 (by kernel_rfl) rfl ?_
    try simp only [pz]
    refine PF.t 18 (by kernel_rfl) rfl (by go_simp; try rfl) ?_
    try simp only [pz]
    refine PF.d (by kernel_rfl) ?_
    go_wp2_with fail
    go_roundw
    case rel => exact ⟨k + 1, by omega, by go_num, by rw [HST.out, if_neg (fun h => HP.out h.1), HQ.out], HB2.out.drew, HBK2.out⟩
    case measure => simp [intOf]; omega
  ·obtain rfl : k = E.length := by omega
   clear hB hb
   go_wp2_with fail
   go_ret
   exact ⟨rfl, HB.out⟩
end Go.Proofs.YtpjmolnkmlpfeaaGreatDoor
