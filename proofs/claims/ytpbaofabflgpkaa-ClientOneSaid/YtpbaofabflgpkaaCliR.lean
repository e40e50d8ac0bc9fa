/- A client's Same, of a client and one like it. -/
import Derived.Test.YtpbaofabflgpkaaCliK
import Derived.Test.YtpbaofabflgpkaaCliN
namespace Go.Proofs.Ytpbaofabflgpkaa
set_option linter.unusedVariables false
set_option linter.unusedSimpArgs false
open Go.RowKit

section
variable {w : World} {g : Nat} {t : TypeId}
theorem call_cells {C : Cal} {v : Value} (h : Blk w g t (calL C v).toArray) :
    w.cell? ⟨g, 0, none⟩ = some (.int .i64 C.cl) ∧ w.cell? ⟨g, 1, none⟩ = some (.int .u64 (C.inc : Int)) ∧ w.cell? ⟨g, 2, none⟩ = some (.int .u64 (C.n : Int)) ∧ w.cell? ⟨g, 3, none⟩ = some (.int .i64 C.kind) ∧ w.cell? ⟨g, 4, none⟩ = some (.int .i64 C.ch) ∧ w.cell? ⟨g, 5, none⟩ = some (.int .i64 C.sub) ∧ w.cell? ⟨g, 6, none⟩ = some (.int .u64 (C.seq : Int)) ∧ w.cell? ⟨g, 7, none⟩ = some (.int .u64 (C.at_ : Int)) ∧ w.cell? ⟨g, 8, none⟩ = some v :=
  ⟨(h.cell 0).trans rfl, (h.cell 1).trans rfl, (h.cell 2).trans rfl, (h.cell 3).trans rfl, (h.cell 4).trans rfl, (h.cell 5).trans rfl, (h.cell 6).trans rfl, (h.cell 7).trans rfl, (h.cell 8).trans rfl⟩
theorem cli_cells {X : Cli} {vb vc : Value} (h : Blk w g t (cliL X vb vc).toArray) :
    w.cell? ⟨g, 0, none⟩ = some (.int .i64 X.id) ∧ w.cell? ⟨g, 1, none⟩ = some (.int .u64 (X.inc : Int)) ∧ w.cell? ⟨g, 2, none⟩ = some (.int .u64 (X.n : Int)) ∧ w.cell? ⟨g, 3, none⟩ = some vb ∧ w.cell? ⟨g, 4, none⟩ = some (.int .i64 X.busy) ∧ w.cell? ⟨g, 14, none⟩ = some (.int .i64 (X.at_ : Int)) ∧ w.cell? ⟨g, 15, none⟩ = some (.int .u64 (X.born : Int)) ∧ w.cell? ⟨g, 16, none⟩ = some (.int .u64 (X.since : Int)) :=
  ⟨(h.cell 0).trans rfl, (h.cell 1).trans rfl, (h.cell 2).trans rfl, (h.cell 3).trans rfl, (h.cell 4).trans rfl, (h.cell 14).trans rfl, (h.cell 15).trans rfl, (h.cell 16).trans rfl⟩
end
set_option maxHeartbeats 1000000 in
theorem eqbsame_any {K1 K2 : Nat → Prop} {v1 v2 : Value} {l : List UInt8} {w : World} (h1 : SlB K1 w v1 l) (h2 : SlB K2 w v2 l) :
    Calls Try.prog 31 #[v1, v2] w fun e w' => e = .returned (.bool true) ∧ Below w.heap.size w w' := by
  obtain ⟨A, c, rfl, hA, _, _, _⟩ := h1
  obtain ⟨B, d, rfl, hB, hl, hl2, _⟩ := h2
  have hd : ((l.length : Int) != (l.length : Int)) = false := by simp
  go_enter Try.func31, Try.ntmps31
  go_wp2_with fail
  clear hd
  go_loopw [13] (fun i wr => ∃ k q : Nat, k ≤ l.length ∧ i = .int .i64 k ∧ wr = w.drewN q) (fun i _ => l.length - (intOf i).toNat)
  case atStart => exact ⟨0, 0, by omega, rfl, rfl⟩
  case round =>
    obtain ⟨k, q, hk, rfl, rfl⟩ := hrel
    by_cases hlt : k < l.length
    · have hlt3 : (k : Int) < (l.length : Int) := by omega
      obtain ⟨b, o, rfl, hbl, hc⟩ := Bytes.flat hA (by omega)
      obtain ⟨b', o', rfl, hbl', hc'⟩ := Bytes.flat hB (by omega)
      have c0 := hc k hlt
      have d0 := hc' k hlt
      generalize l[k] = x at c0 d0
      clear hc hc'
      go_wp2_with fail
      refine PF.pf_begin (by kernel_rfl) ?_
      refine PF.pf_take0 0 (by kernel_rfl) rfl (fun _ _ _ _ _ h => h) (by kernel_rfl) (fun u => by go_simp; try rfl) ?_
      try simp only [Act.put, pz0, pz1, pz2]
      refine PF.pf_take0 1 (by kernel_rfl) rfl (fun _ _ _ _ _ h => h) (by kernel_rfl) (fun u => by go_simp; try rfl) ?_
      try simp only [Act.put, pz0, pz1, pz2]
      refine PF.pf_take0 2 (by kernel_rfl) rfl (fun _ _ _ _ _ h => h) (by kernel_rfl) (fun u => by go_simp; try rfl) ?_
      try simp only [Act.put, pz0, pz1, pz2]
      refine PF.pf_take1 3 (PF.Same (b) _) (by kernel_rfl) rfl (fun _ _ _ _ _ h => h) (by kernel_rfl) (PF.Same.refl _ _) (fun u hu => by have hcu := hu.cell; go_simp; try rfl) ?_
      try simp only [Act.put, pz0, pz1, pz2]
      refine PF.pf_take0 4 (by kernel_rfl) rfl (fun _ _ _ _ _ h => h) (by kernel_rfl) (fun u => by go_simp; try rfl) ?_
      try simp only [Act.put, pz0, pz1, pz2]
      refine PF.pf_take0 5 (by kernel_rfl) rfl (fun _ _ _ _ _ h => h) (by kernel_rfl) (fun u => by go_simp; try rfl) ?_
      try simp only [Act.put, pz0, pz1, pz2]
      refine PF.pf_take0 6 (by kernel_rfl) rfl (fun _ _ _ _ _ h => h) (by kernel_rfl) (fun u => by go_simp; try rfl) ?_
      try simp only [Act.put, pz0, pz1, pz2]
      refine PF.pf_take1 7 (PF.Same (b') _) (by kernel_rfl) rfl (fun _ _ _ _ _ h => h) (by kernel_rfl) (PF.Same.refl _ _) (fun u hu => by have hcu := hu.cell; go_simp; try rfl) ?_
      try simp only [Act.put, pz0, pz1, pz2]
      refine PF.pf_take0 8 (by kernel_rfl) rfl (fun _ _ _ _ _ h => h) (by kernel_rfl) (fun u => by go_simp; try rfl) ?_
      try simp only [Act.put, pz0, pz1, pz2]
      refine PF.pf_done (by kernel_rfl) ?_
      go_wp2_with fail
      go_roundw
      case rel => exact ⟨k + 1, q + 1, by omega, by go_num, rfl⟩
      case measure => simp [intOf]; omega
    · obtain rfl : k = l.length := by omega
      go_wp2_with fail
      go_ret
      exact ⟨rfl, ⟨rfl, rfl, rfl, Nat.le_refl _, fun _ _ => rfl⟩⟩
set_option maxHeartbeats 1000000 in
theorem eqisame_any {K1 K2 : Nat → Prop} {v1 v2 : Value} {l : List Int} {w : World} (h1 : SlI K1 w v1 l) (h2 : SlI K2 w v2 l) :
    Calls Try.prog 32 #[v1, v2] w fun e w' => e = .returned (.bool true) ∧ Below w.heap.size w w' := by
  obtain ⟨A, c, rfl, hA, _, _, _⟩ := h1
  obtain ⟨B, d, rfl, hB, hl, hl2, _⟩ := h2
  have hd : ((l.length : Int) != (l.length : Int)) = false := by simp
  go_enter Try.func32, Try.ntmps32
  go_wp2_with fail
  clear hd
  go_loopw [13] (fun i wr => ∃ k q : Nat, k ≤ l.length ∧ i = .int .i64 k ∧ wr = w.drewN q) (fun i _ => l.length - (intOf i).toNat)
  case atStart => exact ⟨0, 0, by omega, rfl, rfl⟩
  case round =>
    obtain ⟨k, q, hk, rfl, rfl⟩ := hrel
    by_cases hlt : k < l.length
    · have hlt3 : (k : Int) < (l.length : Int) := by omega
      obtain ⟨b, o, rfl, hbl, hc⟩ := Reads.flat hA (by omega) (by decide)
      obtain ⟨b', o', rfl, hbl', hc'⟩ := Reads.flat hB (by omega) (by decide)
      have c0 := hc k (.int .i64 l[k]) (by rw [List.getElem?_map, List.getElem?_eq_getElem hlt]; rfl)
      have d0 := hc' k (.int .i64 l[k]) (by rw [List.getElem?_map, List.getElem?_eq_getElem hlt]; rfl)
      generalize l[k] = x at c0 d0
      clear hc hc'
      go_wp2_with fail
      refine PF.pf_begin (by kernel_rfl) ?_
      refine PF.pf_take0 0 (by kernel_rfl) rfl (fun _ _ _ _ _ h => h) (by kernel_rfl) (fun u => by go_simp; try rfl) ?_
      try simp only [Act.put, pz0, pz1, pz2]
      refine PF.pf_take0 1 (by kernel_rfl) rfl (fun _ _ _ _ _ h => h) (by kernel_rfl) (fun u => by go_simp; try rfl) ?_
      try simp only [Act.put, pz0, pz1, pz2]
      refine PF.pf_take0 2 (by kernel_rfl) rfl (fun _ _ _ _ _ h => h) (by kernel_rfl) (fun u => by go_simp; try rfl) ?_
      try simp only [Act.put, pz0, pz1, pz2]
      refine PF.pf_take1 3 (PF.Same (b) _) (by kernel_rfl) rfl (fun _ _ _ _ _ h => h) (by kernel_rfl) (PF.Same.refl _ _) (fun u hu => by have hcu := hu.cell; go_simp; try rfl) ?_
      try simp only [Act.put, pz0, pz1, pz2]
      refine PF.pf_take0 4 (by kernel_rfl) rfl (fun _ _ _ _ _ h => h) (by kernel_rfl) (fun u => by go_simp; try rfl) ?_
      try simp only [Act.put, pz0, pz1, pz2]
      refine PF.pf_take0 5 (by kernel_rfl) rfl (fun _ _ _ _ _ h => h) (by kernel_rfl) (fun u => by go_simp; try rfl) ?_
      try simp only [Act.put, pz0, pz1, pz2]
      refine PF.pf_take0 6 (by kernel_rfl) rfl (fun _ _ _ _ _ h => h) (by kernel_rfl) (fun u => by go_simp; try rfl) ?_
      try simp only [Act.put, pz0, pz1, pz2]
      refine PF.pf_take1 7 (PF.Same (b') _) (by kernel_rfl) rfl (fun _ _ _ _ _ h => h) (by kernel_rfl) (PF.Same.refl _ _) (fun u hu => by have hcu := hu.cell; go_simp; try rfl) ?_
      try simp only [Act.put, pz0, pz1, pz2]
      refine PF.pf_take0 8 (by kernel_rfl) rfl (fun _ _ _ _ _ h => h) (by kernel_rfl) (fun u => by go_simp; try rfl) ?_
      try simp only [Act.put, pz0, pz1, pz2]
      refine PF.pf_done (by kernel_rfl) ?_
      go_wp2_with fail
      go_roundw
      case rel => exact ⟨k + 1, q + 1, by omega, by go_num, rfl⟩
      case measure => simp [intOf]; omega
    · obtain rfl : k = l.length := by omega
      go_wp2_with fail
      go_ret
      exact ⟨rfl, ⟨rfl, rfl, rfl, Nat.le_refl _, fun _ _ => rfl⟩⟩
set_option maxRecDepth 100000 in
set_option maxHeartbeats 8000000 in
theorem csame_any {K1 K2 K3 K4 : Nat → Prop} {w : World} {X : Cli} {vb1 vc1 vb2 vc2 : Value} (hb1 : SlI K1 w vb1 X.bs) (hc1 : SlB K2 w vc1 X.call.body) (hb2 : SlI K3 w vb2 X.bs) (hc2 : SlB K4 w vc2 X.call.body) :
    Calls Try.prog 15 #[.agg (cliL X vb1 vc1).toArray, .agg (cliL X vb2 vc2).toArray] w fun e w' => e = .returned (.bool true) ∧ Below w.heap.size w w' := by
  have hA : Blk ((w.alloc (.cells (cliL X vb1 vc1).toArray 29)).alloc (.cells (cliL X vb2 vc2).toArray 29)) w.heap.size 29 (cliL X vb1 vc1).toArray := (Blk.new _ _ _).alloc _
  have hB : Blk ((w.alloc (.cells (cliL X vb1 vc1).toArray 29)).alloc (.cells (cliL X vb2 vc2).toArray 29)) (w.heap.size + 1) 29 (cliL X vb2 vc2).toArray := by simpa using Blk.new (w.alloc (.cells (cliL X vb1 vc1).toArray 29)) 29 (cliL X vb2 vc2).toArray
  have hb : Below w.heap.size w ((w.alloc (.cells (cliL X vb1 vc1).toArray 29)).alloc (.cells (cliL X vb2 vc2).toArray 29)) := (below_new w _).alloc (by simp) _
  have HA := Lib.hid hA
  have HB := Lib.hid hB
  have HT := Lib.hid hb
  have HB1 := Lib.hid hb1
  have HB2 := Lib.hid hb2
  have HC1 := Lib.hid hc1
  have HC2 := Lib.hid hc2
  have HO : Hid (vc1.oneCell' = true ∧ vc2.oneCell' = true) := ⟨hc1.one, hc2.one⟩
  obtain ⟨q1, q2, q3, q4, q5⟩ : ∃ (A1 A2 : Option Addr) (c1 c2 : Nat), True := ⟨none, none, 0, 0, trivial⟩
  clear q1 q2 q3 q4 q5
  clear hA hB hb
  obtain ⟨A1, e1, rfl, _⟩ := hb1
  obtain ⟨A2, e2, rfl, _⟩ := hb2
  obtain ⟨A3, e3, rfl, _⟩ := hc1
  obtain ⟨A4, e4, rfl, _⟩ := hc2
  have HS : Hid (w.heap.size + 1 < ((w.alloc (.cells (cliL X (.slice A1 X.bs.length e1) (.slice A3 X.call.body.length e3)).toArray 29)).alloc (.cells (cliL X (.slice A2 X.bs.length e2) (.slice A4 X.call.body.length e4)).toArray 29)).heap.size) := by show _ < _; simp
  go_enter Try.func15, Try.ntmps15
  go_wp2_with fail
  generalize ((w.alloc (.cells (cliL X (.slice A1 X.bs.length e1) (.slice A3 X.call.body.length e3)).toArray 29)).alloc (.cells (cliL X (.slice A2 X.bs.length e2) (.slice A4 X.call.body.length e4)).toArray 29)) = w1 at *
  refine PF.pf_begin (by kernel_rfl) ?_
  refine PF.pf_take0 0 (by kernel_rfl) rfl (fun _ _ _ _ _ h => h) (by kernel_rfl) (fun u => by go_simp; try rfl) ?_
  try simp only [Act.put, pz0, pz1, pz2]
  refine PF.pf_take1 1 (fun u => Blk u w.heap.size 29 (cliL X (.slice A1 X.bs.length e1) (.slice A3 X.call.body.length e3)).toArray) (by kernel_rfl) rfl (fun _ _ _ _ _ h => h) (by kernel_rfl) (HA.out) (fun u hu => by (exact exec_load_rg rfl rfl (show u.rangeAt w.heap.size 5 (calL X.call (.slice A3 X.call.body.length e3)) from hu.range 5 9) Try.underlying27 rfl (info_call9 rfl))) ?_
  try simp only [Act.put, pz0, pz1, pz2]
  refine PF.pf_take0 2 (by kernel_rfl) rfl (fun _ _ _ _ _ h => h) (by kernel_rfl) (fun u => by go_simp; try rfl) ?_
  try simp only [Act.put, pz0, pz1, pz2]
  refine PF.pf_take1 3 (fun u => Blk u (w.heap.size + 1) 29 (cliL X (.slice A2 X.bs.length e2) (.slice A4 X.call.body.length e4)).toArray) (by kernel_rfl) rfl (fun _ _ _ _ _ h => h) (by kernel_rfl) (HB.out) (fun u hu => by (exact exec_load_rg rfl rfl (show u.rangeAt (w.heap.size + 1) 5 (calL X.call (.slice A4 X.call.body.length e4)) from hu.range 5 9) Try.underlying27 rfl (info_call9 rfl))) ?_
  try simp only [Act.put, pz0, pz1, pz2]
  refine PF.pf_fork [4, 5] (by kernel_rfl) rfl (PF.fork_cons ?_ (PF.fork_cons ?_ PF.fork_nil))
  -- number 4 first
  · refine PF.step_one rfl (by kernel_rfl) (fun K hK => ?_)
    refine wp_alloc_blk rfl zero_call ?_
    rintro p w4 hp hB4 hb4
    have HP := Lib.hid hB4
    have HPB : Hid (w.heap.size + 1 < p) := by { show _ < _; rw [← hp]; exact HS.out }
    have HT := Lib.hid (below_call HT.out.drew HT.out.drew.size hb4)
    have HA := Lib.hid (HA.out.drew.below hb4 HA.out.drew.lt)
    have HB := Lib.hid (HB.out.drew.below hb4 HB.out.drew.lt)
    clear hp hB4 hb4
    refine hK _ _ (by repeat (first | exact PF.owes_nil | refine PF.owes_left ?_ | refine PF.owes_no (by decide +kernel) ?_ | refine PF.owes_yes (by first | exact HA.out | exact HB.out) ?_)) ?_
    clear hK K
    try simp only [Act.put, pz0, pz1, pz2]
    refine PF.pf_exec 5 (by kernel_rfl) rfl (by kernel_rfl) (fun K hK => ?_)
    refine wp_alloc_blk rfl zero_call ?_
    rintro q w5 hq hB5 hb5
    have HQ := Lib.hid hB5
    have HQB : Hid (w.heap.size + 1 < q) := by { show _ < _; rw [← hq]; have := HP.out.lt; have := HPB.out; omega }
    have HNE : Hid (p ≠ q) := by { show _ ≠ _; have := HP.out.lt; omega }
    have HP := Lib.hid (HP.out.below hb5 HP.out.lt)
    have HT := Lib.hid (below_call HT.out HT.out.size hb5)
    have HA := Lib.hid (HA.out.below hb5 HA.out.lt)
    have HB := Lib.hid (HB.out.below hb5 HB.out.lt)
    clear hq hB5 hb5
    refine hK _ _ (by repeat (first | exact PF.owes_nil | refine PF.owes_left ?_ | refine PF.owes_no (by decide +kernel) ?_ | refine PF.owes_yes (by first | exact HA.out | exact HB.out) ?_)) ?_
    clear hK K
    try simp only [Act.put, pz0, pz1, pz2]
    refine PF.pf_exec 6 (by kernel_rfl) rfl (by kernel_rfl) (fun K hK => ?_)
    refine wp_store_blk rfl rfl rfl HP.out rfl (info_call rfl) (calL_one HO.out.1) ?_
    rintro w6 hB6 hm6
    have HP := Lib.hid hB6
    have HQ := Lib.hid (HQ.out.mod hm6 (by have := HNE.out; omega))
    have HA := Lib.hid (HA.out.mod hm6 (by have := HPB.out; omega))
    have HB := Lib.hid (HB.out.mod hm6 (by have := HPB.out; omega))
    have HT := Lib.hid (HT.out.trans (hm6.to_below HT.out.size fun b hb e => by have := HPB.out; omega))
    clear hB6 hm6
    refine hK _ _ (by repeat (first | exact PF.owes_nil | refine PF.owes_left ?_ | refine PF.owes_no (by decide +kernel) ?_ | refine PF.owes_yes (by first | exact HA.out | exact HB.out) ?_)) ?_
    clear hK K
    try simp only [Act.put, pz0, pz1, pz2]
    refine PF.pf_exec 7 (by kernel_rfl) rfl (by kernel_rfl) (fun K hK => ?_)
    refine wp_store_blk rfl rfl rfl HQ.out rfl (info_call rfl) (calL_one HO.out.2) ?_
    rintro w7 hB7 hm7
    have HQ := Lib.hid hB7
    have HP := Lib.hid (HP.out.mod hm7 (by have := HNE.out; omega))
    have HA := Lib.hid (HA.out.mod hm7 (by have := HQB.out; omega))
    have HB := Lib.hid (HB.out.mod hm7 (by have := HQB.out; omega))
    have HT := Lib.hid (HT.out.trans (hm7.to_below HT.out.size fun b hb e => by have := HQB.out; omega))
    clear hB7 hm7
    refine hK _ _ (by repeat (first | exact PF.owes_nil | refine PF.owes_left ?_ | refine PF.owes_no (by decide +kernel) ?_ | refine PF.owes_yes (by first | exact HA.out | exact HB.out) ?_)) ?_
    clear hK K
    try simp only [Act.put, pz0, pz1, pz2]
    refine PF.pf_done (by kernel_rfl) ?_
    obtain ⟨p0, p1, p2, p3, p4, p5, p6, p7, p8⟩ := call_cells HP.out
    obtain ⟨r0, r1, r2, r3, r4, r5, r6, r7, r8⟩ := call_cells HQ.out
    go_wp2_with fail
    clear p0 p1 p2 p3 p4 p5 p6 p7 p8 r0 r1 r2 r3 r4 r5 r6 r7 r8
    refine (eqbsame_any (HC1.out.below HT.out) (HC2.out.below HT.out)).mono ?_
    rintro e w8 ⟨rfl, hb8⟩
    have HT := Lib.hid (below_call HT.out HT.out.size hb8)
    obtain ⟨x0, x1, x2, x3, x4, x5, x6, x7⟩ := cli_cells (HA.out.below hb8 HA.out.lt)
    obtain ⟨y0, y1, y2, y3, y4, y5, y6, y7⟩ := cli_cells (HB.out.below hb8 HB.out.lt)
    have HA := Lib.hid (HA.out.below hb8 HA.out.lt)
    have HB := Lib.hid (HB.out.below hb8 HB.out.lt)
    clear hb8
    go_wp2_with fail
    clear x0 x1 x2 x3 x4 x5 x6 x7 y0 y1 y2 y3 y4 y5 y6 y7
    refine (eqisame_any (HB1.out.below HT.out) (HB2.out.below HT.out)).mono ?_
    rintro e w9 ⟨rfl, hb9⟩
    have HT := Lib.hid (below_call HT.out HT.out.size hb9)
    obtain ⟨x0, x1, x2, x3, x4, x5, x6, x7⟩ := cli_cells (HA.out.below hb9 HA.out.lt)
    obtain ⟨y0, y1, y2, y3, y4, y5, y6, y7⟩ := cli_cells (HB.out.below hb9 HB.out.lt)
    clear hb9
    go_wp2_with fail
    go_ret
    exact ⟨rfl, HT.out⟩
  -- number 5 first
  · refine PF.step_one rfl (by kernel_rfl) (fun K hK => ?_)
    refine wp_alloc_blk rfl zero_call ?_
    rintro q w5 hq hB5 hb5
    have HQ := Lib.hid hB5
    have HQB : Hid (w.heap.size + 1 < q) := by { show _ < _; rw [← hq]; exact HS.out }
    have HT := Lib.hid (below_call HT.out.drew HT.out.drew.size hb5)
    have HA := Lib.hid (HA.out.drew.below hb5 HA.out.drew.lt)
    have HB := Lib.hid (HB.out.drew.below hb5 HB.out.drew.lt)
    clear hq hB5 hb5
    refine hK _ _ (by repeat (first | exact PF.owes_nil | refine PF.owes_left ?_ | refine PF.owes_no (by decide +kernel) ?_ | refine PF.owes_yes (by first | exact HA.out | exact HB.out) ?_)) ?_
    clear hK K
    try simp only [Act.put, pz0, pz1, pz2]
    refine PF.pf_exec 4 (by kernel_rfl) rfl (by kernel_rfl) (fun K hK => ?_)
    refine wp_alloc_blk rfl zero_call ?_
    rintro p w4 hp hB4 hb4
    have HP := Lib.hid hB4
    have HPB : Hid (w.heap.size + 1 < p) := by { show _ < _; rw [← hp]; have := HQ.out.lt; have := HQB.out; omega }
    have HNE : Hid (p ≠ q) := by { show _ ≠ _; have := HQ.out.lt; omega }
    have HQ := Lib.hid (HQ.out.below hb4 HQ.out.lt)
    have HT := Lib.hid (below_call HT.out HT.out.size hb4)
    have HA := Lib.hid (HA.out.below hb4 HA.out.lt)
    have HB := Lib.hid (HB.out.below hb4 HB.out.lt)
    clear hp hB4 hb4
    refine hK _ _ (by repeat (first | exact PF.owes_nil | refine PF.owes_left ?_ | refine PF.owes_no (by decide +kernel) ?_ | refine PF.owes_yes (by first | exact HA.out | exact HB.out) ?_)) ?_
    clear hK K
    try simp only [Act.put, pz0, pz1, pz2]
    refine PF.pf_exec 6 (by kernel_rfl) rfl (by kernel_rfl) (fun K hK => ?_)
    refine wp_store_blk rfl rfl rfl HP.out rfl (info_call rfl) (calL_one HO.out.1) ?_
    rintro w6 hB6 hm6
    have HP := Lib.hid hB6
    have HQ := Lib.hid (HQ.out.mod hm6 (by have := HNE.out; omega))
    have HA := Lib.hid (HA.out.mod hm6 (by have := HPB.out; omega))
    have HB := Lib.hid (HB.out.mod hm6 (by have := HPB.out; omega))
    have HT := Lib.hid (HT.out.trans (hm6.to_below HT.out.size fun b hb e => by have := HPB.out; omega))
    clear hB6 hm6
    refine hK _ _ (by repeat (first | exact PF.owes_nil | refine PF.owes_left ?_ | refine PF.owes_no (by decide +kernel) ?_ | refine PF.owes_yes (by first | exact HA.out | exact HB.out) ?_)) ?_
    clear hK K
    try simp only [Act.put, pz0, pz1, pz2]
    refine PF.pf_exec 7 (by kernel_rfl) rfl (by kernel_rfl) (fun K hK => ?_)
    refine wp_store_blk rfl rfl rfl HQ.out rfl (info_call rfl) (calL_one HO.out.2) ?_
    rintro w7 hB7 hm7
    have HQ := Lib.hid hB7
    have HP := Lib.hid (HP.out.mod hm7 (by have := HNE.out; omega))
    have HA := Lib.hid (HA.out.mod hm7 (by have := HQB.out; omega))
    have HB := Lib.hid (HB.out.mod hm7 (by have := HQB.out; omega))
    have HT := Lib.hid (HT.out.trans (hm7.to_below HT.out.size fun b hb e => by have := HQB.out; omega))
    clear hB7 hm7
    refine hK _ _ (by repeat (first | exact PF.owes_nil | refine PF.owes_left ?_ | refine PF.owes_no (by decide +kernel) ?_ | refine PF.owes_yes (by first | exact HA.out | exact HB.out) ?_)) ?_
    clear hK K
    try simp only [Act.put, pz0, pz1, pz2]
    refine PF.pf_done (by kernel_rfl) ?_
    obtain ⟨p0, p1, p2, p3, p4, p5, p6, p7, p8⟩ := call_cells HP.out
    obtain ⟨r0, r1, r2, r3, r4, r5, r6, r7, r8⟩ := call_cells HQ.out
    go_wp2_with fail
    clear p0 p1 p2 p3 p4 p5 p6 p7 p8 r0 r1 r2 r3 r4 r5 r6 r7 r8
    refine (eqbsame_any (HC1.out.below HT.out) (HC2.out.below HT.out)).mono ?_
    rintro e w8 ⟨rfl, hb8⟩
    have HT := Lib.hid (below_call HT.out HT.out.size hb8)
    obtain ⟨x0, x1, x2, x3, x4, x5, x6, x7⟩ := cli_cells (HA.out.below hb8 HA.out.lt)
    obtain ⟨y0, y1, y2, y3, y4, y5, y6, y7⟩ := cli_cells (HB.out.below hb8 HB.out.lt)
    have HA := Lib.hid (HA.out.below hb8 HA.out.lt)
    have HB := Lib.hid (HB.out.below hb8 HB.out.lt)
    clear hb8
    go_wp2_with fail
    clear x0 x1 x2 x3 x4 x5 x6 x7 y0 y1 y2 y3 y4 y5 y6 y7
    refine (eqisame_any (HB1.out.below HT.out) (HB2.out.below HT.out)).mono ?_
    rintro e w9 ⟨rfl, hb9⟩
    have HT := Lib.hid (below_call HT.out HT.out.size hb9)
    obtain ⟨x0, x1, x2, x3, x4, x5, x6, x7⟩ := cli_cells (HA.out.below hb9 HA.out.lt)
    obtain ⟨y0, y1, y2, y3, y4, y5, y6, y7⟩ := cli_cells (HB.out.below hb9 HB.out.lt)
    clear hb9
    go_wp2_with fail
    go_ret
    exact ⟨rfl, HT.out⟩
end Go.Proofs.Ytpbaofabflgpkaa
