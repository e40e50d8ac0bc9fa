/- A client that is worked on. -/
import Derived.Test.YtpbaofabflgpkaaCliC
namespace Go.Proofs.Ytpbaofabflgpkaa
set_option linter.unusedVariables false
set_option linter.unusedSimpArgs false
open Go.RowKit

/-- A client that is worked on, in block g; what it holds is no older than B. -/
def Wk (B : Nat) (w : World) (g : Nat) (X : Cli) (now : Nat) (S : Option (Int × Cal)) : Prop :=
  B ≤ g ∧ ∃ vb vc sv, Blk w g 66 (wkL X vb vc now sv).toArray ∧ SlI (fun b => B ≤ b ∧ b ≠ g) w vb X.bs ∧ SlB (fun b => B ≤ b ∧ b ≠ g) w vc X.call.body ∧ SlS (fun b => B ≤ b ∧ b ≠ g) w sv S
theorem build_work (X : Cli) (vb vc : Value) (now : Nat) (w : World) : (Instr.build 66 #[(0, .agg (cliL X vb vc).toArray), (1, .int .u64 (now : Int))]).run Try.prog w = .ok (.agg (wkL X vb vc now (.slice none 0 0)).toArray) w := by kernel_rfl
theorem info_call9 {vs : List Value} (h : vs.length = 9) : (Try.prog.info? 27).map (·.size) = some vs.length := by rw [h]; kernel_rfl
theorem calL_oneL {C : Cal} {v : Value} (h : v.oneCell' = true) : ∀ x ∈ calL C v, x.oneCell' = true := fun x hx => calL_one (C := C) h x (by simpa using hx)
theorem put_own (X : Cli) (vb vc vb' v : Value) : putL ((cliL X vb vc).toArray.setIfInBounds 3 vb') 5 (calL X.call v) = (cliL X vb' v).toArray := by
  simp only [cliL, calL, putL, pz0, pz1, pz2]
set_option maxRecDepth 100000 in
set_option maxHeartbeats 8000000 in
theorem with_any {K : Nat → Prop} {w : World} {X : Cli} {vb vc : Value} {now : Nat} (hvb : SlI K w vb X.bs) (hvc : SlB K w vc X.call.body) (hnb : X.bs.length ≤ 1000000) (hnc : X.call.body.length ≤ 1000000) :
    Calls Try.prog 23 #[.agg (cliL X vb vc).toArray, .int .u64 (now : Int)] w fun e w' => (∃ g, e = .returned (.pointer (some ⟨g, 0, none⟩)) ∧ Wk w.heap.size w' g X now none) ∧ Below w.heap.size w w' := by
  have hB1 : Blk (w.alloc (.cells (cliL X vb vc).toArray 29)) w.heap.size 29 (cliL X vb vc).toArray := Blk.new _ _ _
  have hb1 := below_new w (.cells (cliL X vb vc).toArray 29)
  have HB1 := Lib.hid hB1
  have HT1 := Lib.hid hb1
  have HVB := Lib.hid (hvb.below hb1)
  have HVC := Lib.hid (hvc.below hb1)
  have HNN : Hid (X.bs.length ≤ 1000000 ∧ X.call.body.length ≤ 1000000) := ⟨hnb, hnc⟩
  have c3 : (w.alloc (.cells (cliL X vb vc).toArray 29)).cell? ⟨w.heap.size, 3, none⟩ = some vb := (hB1.cell 3).trans rfl
  have HS1 : Hid ((w.alloc (.cells (cliL X vb vc).toArray 29)).heap.size = w.heap.size + 1) := alloc_size _ _
  clear hB1 hb1 hvb hvc hnb hnc
  go_enter Try.func23, Try.ntmps23
  go_wp2_with fail
  refine PF.pf_begin (by kernel_rfl) ?_
  refine PF.pf_take0 0 (by kernel_rfl) rfl (fun _ _ _ _ _ h => h) (by kernel_rfl) (fun u => by go_simp; try rfl) ?_
  try simp only [Act.put, pz0, pz1, pz2]
  refine PF.pf_take1 1 (PF.Same (w.heap.size) _) (by kernel_rfl) rfl (fun _ _ _ _ _ h => h) (by kernel_rfl) (PF.Same.refl _ _) (fun u hu => by have hcu := hu.cell; go_simp; try rfl) ?_
  try simp only [Act.put, pz0, pz1, pz2]
  refine PF.pf_take0 3 (by kernel_rfl) rfl (fun _ _ _ _ _ h => h) (by kernel_rfl) (fun u => by go_simp; try rfl) ?_
  try simp only [Act.put, pz0, pz1, pz2]
  refine PF.pf_take1 4 (fun u => Blk u w.heap.size 29 (cliL X vb vc).toArray) (by kernel_rfl) rfl (fun _ _ _ _ _ h => h) (by kernel_rfl) (HB1.out) (fun u hu => by (exact exec_load_rg rfl rfl (show u.rangeAt w.heap.size 5 (calL X.call vc) from hu.range 5 9) Try.underlying27 rfl (info_call9 rfl))) ?_
  try simp only [Act.put, pz0, pz1, pz2]
  refine PF.pf_exec 2 (by kernel_rfl) rfl (by kernel_rfl) (fun K hK => ?_)
  go_simp
  refine (iclone_any (HVB.out.below ((Below.refl _ _).drew)) HNN.out.1).mono ?_
  rintro e w2 ⟨⟨vb', rfl, hvb⟩, hb2⟩
  have HT2 := Lib.hid (((Below.refl _ _).drew).trans hb2)
  have HB2 := Lib.hid (HB1.out.below HT2.out HB1.out.lt)
  have HVB2 := Lib.hid hvb
  have HVC2 := Lib.hid (HVC.out.below HT2.out)
  obtain ⟨A2, c2, e2, _⟩ := id hvb
  subst e2
  clear hvb hb2 c3
  refine hK _ _ (by repeat (first | exact PF.owes_nil | refine PF.owes_left ?_ | refine PF.owes_no (by decide +kernel) ?_ | refine PF.owes_yes (by exact HB2.out) ?_)) ?_
  clear hK K
  try simp only [Act.put, pz0, pz1, pz2]
  refine PF.pf_take0 6 (by kernel_rfl) rfl (fun _ _ _ _ _ h => h) (by kernel_rfl) (fun u => by go_simp; try rfl) ?_
  try simp only [Act.put, pz0, pz1, pz2]
  refine PF.pf_exec 5 (by kernel_rfl) rfl (by kernel_rfl) (fun K hK => ?_)
  go_simp
  refine (own_any HVC2.out HNN.out.2).mono ?_
  rintro e w5 ⟨⟨vc', rfl, hvc⟩, hb5⟩
  have HT5 := Lib.hid (HT2.out.trans (hb5.mono HT2.out.size))
  have HB5 := Lib.hid (HB2.out.below hb5 HB2.out.lt)
  have HVB5 := Lib.hid (HVB2.out.below hb5)
  have HVC5 := Lib.hid hvc
  have HSZ2 := Lib.hid HT2.out.size
  have hoc := hvc.one
  have c3 : w5.cell? ⟨w.heap.size, 3, none⟩ = some vb := (HB5.out.cell 3).trans rfl
  have f3 := HB5.out.free 3
  clear hvc hb5
  refine hK _ _ (by repeat (first | exact PF.owes_nil | refine PF.owes_left ?_ | refine PF.owes_no (by decide +kernel) ?_ | refine PF.owes_yes (by first | rfl | assumption | go_simp) ?_)) ?_
  clear hK K
  try simp only [Act.put, pz0, pz1, pz2]
  refine PF.pf_exec 7 (by kernel_rfl) rfl (by kernel_rfl) (fun K hK => ?_)
  go_simp
  refine hK _ _ (by repeat (first | exact PF.owes_nil | refine PF.owes_left ?_ | refine PF.owes_no (by decide +kernel) ?_ | refine PF.owes_yes (by first | rfl | assumption | go_simp) ?_)) ?_
  clear hK K
  try simp only [Act.put, pz0, pz1, pz2]
  refine PF.pf_take0 8 (by kernel_rfl) rfl (fun _ _ _ _ _ h => h) (by kernel_rfl) (fun u => by go_simp; try rfl) ?_
  try simp only [Act.put, pz0, pz1, pz2]
  refine PF.pf_exec 9 (by kernel_rfl) rfl (by kernel_rfl) (fun K hK => ?_)
  refine wp_store_rgB rfl rfl rfl (HB5.out.put 3 (.slice A2 X.bs.length c2)) (show 14 ≤ 17 by decide) (info_call9 rfl) (calL_oneL hoc) ?_
  rintro w9 hB9 hm9
  refine hK _ _ (by repeat (first | exact PF.owes_nil | refine PF.owes_left ?_ | refine PF.owes_no (by decide +kernel) ?_ | refine PF.owes_yes (by first | rfl | assumption | go_simp) ?_)) ?_
  clear hK K
  try simp only [Act.put, pz0, pz1, pz2]
  refine PF.pf_done (by kernel_rfl) ?_
  rw [put_own] at hB9
  have HB9 := Lib.hid hB9
  have HT9 : Hid (Below w.heap.size w w9) := by
    have h5 : Below w.heap.size w w5 := HT1.out.trans (HT5.out.mono HT1.out.size)
    have h6 : Mod (fun b => b = w.heap.size) w5 (w5.setCell ⟨w.heap.size, 3, none⟩ (.slice A2 X.bs.length c2)) := Mod.set (S := fun b => b = w.heap.size) (Mod.refl _ _) (p := ⟨w.heap.size, 3, none⟩) (fun _ => rfl) _
    exact h5.trans ((h6.trans hm9).to_below h5.size fun b hb e => by omega)
  have HQ9 : Hid (SlI (fun b => w.heap.size < b) w9 (.slice A2 X.bs.length c2) X.bs ∧ SlB (fun b => w.heap.size < b) w9 vc' X.call.body) := by
    have h6 : Mod (fun b => b = w.heap.size) w5 (w5.setCell ⟨w.heap.size, 3, none⟩ (.slice A2 X.bs.length c2)) := Mod.set (S := fun b => b = w.heap.size) (Mod.refl _ _) (p := ⟨w.heap.size, 3, none⟩) (fun _ => rfl) _
    have h7 := h6.trans hm9
    have hs1 := HS1.out
    have hs2 := HSZ2.out
    refine ⟨(HVB5.out.weak (K' := fun b => w.heap.size < b) fun b _ h => ?_).mod h7 fun b h e => ?_, (HVC5.out.weak (K' := fun b => w.heap.size < b) fun b _ h => ?_).mod h7 fun b h e => ?_⟩
    · have h : (w.alloc (.cells (cliL X vb vc).toArray 29)).heap.size ≤ b := h
      show _ < _
      omega
    · have h : w.heap.size < b := h
      omega
    · have h : w2.heap.size ≤ b := h
      show _ < _
      omega
    · have h : w.heap.size < b := h
      omega
  clear hB9 hm9 c3 f3 HB5 HVB5 HVC5 HT5 HB2 HVB2 HVC2 HT2
  go_wp2_with (refine wpList_load_blk rfl (ty := 29) rfl rfl HB9.out Try.underlying29 rfl (info_client rfl) ?_; refine Hid.out ?_)
  refine Lib.hid ?_
  go_wp2_with (refine wpList_build2 (x := .agg (cliL X (.slice A2 X.bs.length c2) vc').toArray) (y := .int .u64 (now : Int)) (v := .agg (wkL X (.slice A2 X.bs.length c2) vc' now (.slice none 0 0)).toArray) rfl rfl rfl rfl (build_work X (.slice A2 X.bs.length c2) vc' now w9) ?_; refine Hid.out ?_)
  refine Lib.hid ?_
  go_wp2_with fail
  go_ret
  have hb := below_new w9 (.cells (wkL X (.slice A2 X.bs.length c2) vc' now (.slice none 0 0)).toArray 66)
  exact ⟨⟨w9.heap.size, rfl, HT9.out.size, _, _, _, Blk.new _ _ _, (HQ9.out.1.weak fun b hb h => ⟨Nat.le_of_lt h, Nat.ne_of_lt hb⟩).below hb, (HQ9.out.2.weak fun b hb h => ⟨Nat.le_of_lt h, Nat.ne_of_lt hb⟩).below hb, rfl⟩, below_call HT9.out HT9.out.size hb⟩
/-- What a method of the work's does to it. -/
def WkTo (B : Nat) (w : World) (g : Nat) (X : Cli) (now : Nat) (S : Option (Int × Cal)) (e : Ending) (w' : World) : Prop := e = .returned (.tuple #[]) ∧ Wk B w' g X now S ∧ Mod (fun b => b = g) w w'
theorem Wk.put {B : Nat} {w : World} {g : Nat} {X Y : Cli} {now : Nat} {S : Option (Int × Cal)} (h : Wk B w g X now S) {i : Nat} {u : Value} (hs : ∀ vb vc sv, ((wkL X vb vc now sv).toArray.setIfInBounds i u) = (wkL Y vb vc now sv).toArray) (hb : Y.bs = X.bs) (hc : Y.call = X.call) :
    Wk B (w.setCell ⟨g, i, none⟩ u) g Y now S ∧ Mod (fun b => b = g) w (w.setCell ⟨g, i, none⟩ u) := by
  obtain ⟨h1, vb, vc, sv, h2, h3, h4, h5⟩ := h
  have hm : Mod (fun b => b = g) w (w.setCell ⟨g, i, none⟩ u) := Mod.set (S := fun b => b = g) (Mod.refl _ _) (p := ⟨g, i, none⟩) (fun _ => rfl) _
  have h6 := h2.put i u
  rw [hs] at h6
  exact ⟨⟨h1, vb, vc, sv, h6, by rw [hb]; exact h3.mod hm fun b h => h.2, by rw [hc]; exact h4.mod hm fun b h => h.2, h5.mod hm fun b h => h.2⟩, hm⟩
theorem Wk.drew {B : Nat} {w : World} {g : Nat} {X : Cli} {now : Nat} {S : Option (Int × Cal)} (h : Wk B w g X now S) : Wk B w.drew g X now S := h
set_option maxHeartbeats 4000000 in
theorem after_any {B : Nat} {w : World} {g : Nat} {X : Cli} {now then_ : Nat} {S : Option (Int × Cal)} (h : Wk B w g X now S) (hn : now < 18446744073709551616) :
    Calls Try.prog 30 #[.pointer (some ⟨g, 0, none⟩), .int .u64 (then_ : Int)] w fun e w' => e = .returned (.int .u64 ((now - then_ : Nat) : Int)) ∧ w' = w := by
  obtain ⟨_, vb, vc, sv, h2, _⟩ := h
  have c17 : w.cell? ⟨g, 17, none⟩ = some (.int .u64 (now : Int)) := (h2.cell 17).trans rfl
  by_cases hlt : now < then_
  · have d0 : decide (now < then_) = true := decide_eq_true hlt
    have d1 : decide ((now : Int) < (then_ : Int)) = true := decide_eq_true (by omega)
    have hz : now - then_ = 0 := by omega
    rw [hz]
    clear hlt hz h2
    go_enter Try.func30, Try.ntmps30
    go_wp2_with fail
    go_ret
    exact ⟨rfl, rfl⟩
  · have d0 : decide (now < then_) = false := decide_eq_false hlt
    have d1 : decide ((now : Int) < (then_ : Int)) = false := decide_eq_false (by omega)
    have hz : IntKind.u64.wrap ((now : Int) - (then_ : Int)) = ((now - then_ : Nat) : Int) := by rw [IntKind.wrap_u64]; omega
    have HZ := Lib.hid hz
    clear hlt h2 hn
    go_enter Try.func30, Try.ntmps30
    go_wp2_with fail
    go_ret
    exact ⟨rfl, rfl⟩
set_option maxRecDepth 100000 in
set_option maxHeartbeats 8000000 in
theorem next_any {B : Nat} {w : World} {g : Nat} {X : Cli} {now : Nat} {S : Option (Int × Cal)} (h : Wk B w g X now S) (hg : Good X) :
    Calls Try.prog 28 #[.pointer (some ⟨g, 0, none⟩)] w (WkTo B w g (nextX X) now S) := by
  have HW := Lib.hid h
  obtain ⟨_, vb, vc, sv, h2, ⟨A, c, rfl, h3⟩, _⟩ := h
  have c14 : w.cell? ⟨g, 14, none⟩ = some (.int .i64 (X.at_ : Int)) := (h2.cell 14).trans rfl
  have c3 : w.cell? ⟨g, 3, none⟩ = some (.slice A X.bs.length c) := (h2.cell 3).trans rfl
  have f14 := h2.free 14
  have HF := Lib.hid h2
  obtain ⟨g1, g2, g3⟩ := hg
  have d0 : decide ((X.at_ : Int) < 0) = false := decide_eq_false (by omega)
  have hs : IntKind.i64.wrap ((X.bs.length : Int) - 1) = (X.bs.length : Int) - 1 := by rw [IntKind.wrap_i64]; omega
  clear h2 h3
  by_cases hlt : X.at_ + 1 < X.bs.length
  · have d1 : decide ((X.bs.length : Int) - 1 ≤ (X.at_ : Int)) = false := decide_eq_false (by omega)
    have ha : IntKind.i64.wrap ((X.at_ : Int) + 1) = ((X.at_ + 1 : Nat) : Int) := by rw [IntKind.wrap_i64]; omega
    have hP := HW.out.drew.put (i := 14) (u := .int .i64 ((X.at_ + 1 : Nat) : Int)) (Y := nextX X) (fun vb vc sv => by unfold nextX; rw [if_pos hlt]; simp only [wkL, cliL, List.cons_append, List.nil_append, pz0, pz1, pz2]) rfl rfl
    have HP := Lib.hid hP
    clear hP hlt g1 g2 g3
    go_enter Try.func28, Try.ntmps28
    go_wp2_with fail
    refine PF.pf_begin (by kernel_rfl) ?_
    refine PF.pf_take0 0 (by kernel_rfl) rfl (fun _ _ _ _ _ h => h) (by kernel_rfl) (fun u => by go_simp; try rfl) ?_
    try simp only [Act.put, pz0, pz1, pz2]
    refine PF.pf_take0 1 (by kernel_rfl) rfl (fun _ _ _ _ _ h => h) (by kernel_rfl) (fun u => by go_simp; try rfl) ?_
    try simp only [Act.put, pz0, pz1, pz2]
    refine PF.pf_take0 2 (by kernel_rfl) rfl (fun _ _ _ _ _ h => h) (by kernel_rfl) (fun u => by go_simp; try rfl) ?_
    try simp only [Act.put, pz0, pz1, pz2]
    refine PF.pf_take0 3 (by kernel_rfl) rfl (fun _ _ _ _ _ h => h) (by kernel_rfl) (fun u => by go_simp; try rfl) ?_
    try simp only [Act.put, pz0, pz1, pz2]
    refine PF.pf_take1 4 (PF.Same (g) _) (by kernel_rfl) rfl (fun _ _ _ _ _ h => h) (by kernel_rfl) (PF.Same.refl _ _) (fun u hu => by have hcu := hu.cell; go_simp; try rfl) ?_
    try simp only [Act.put, pz0, pz1, pz2]
    refine PF.pf_take0 5 (by kernel_rfl) rfl (fun _ _ _ _ _ h => h) (by kernel_rfl) (fun u => by go_simp; try rfl) ?_
    try simp only [Act.put, pz0, pz1, pz2]
    refine PF.pf_take0 6 (by kernel_rfl) rfl (fun _ _ _ _ _ h => h) (by kernel_rfl) (fun u => by go_simp; try rfl) ?_
    try simp only [Act.put, pz0, pz1, pz2]
    refine PF.pf_take0 7 (by kernel_rfl) rfl (fun _ _ _ _ _ h => h) (by kernel_rfl) (fun u => by go_simp; try rfl) ?_
    try simp only [Act.put, pz0, pz1, pz2]
    refine PF.pf_take0 8 (by kernel_rfl) rfl (fun _ _ _ _ _ h => h) (by kernel_rfl) (fun u => by go_simp; try rfl) ?_
    try simp only [Act.put, pz0, pz1, pz2]
    refine PF.pf_take0 9 (by kernel_rfl) rfl (fun _ _ _ _ _ h => h) (by kernel_rfl) (fun u => by go_simp; try rfl) ?_
    try simp only [Act.put, pz0, pz1, pz2]
    refine PF.pf_take0 10 (by kernel_rfl) rfl (fun _ _ _ _ _ h => h) (by kernel_rfl) (fun u => by go_simp; try rfl) ?_
    try simp only [Act.put, pz0, pz1, pz2]
    refine PF.pf_take1 11 (PF.Same (g) _) (by kernel_rfl) rfl (fun _ _ _ _ _ h => h) (by kernel_rfl) (PF.Same.refl _ _) (fun u hu => by have hcu := hu.cell; go_simp; try rfl) ?_
    try simp only [Act.put, pz0, pz1, pz2]
    refine PF.pf_take0 12 (by kernel_rfl) rfl (fun _ _ _ _ _ h => h) (by kernel_rfl) (fun u => by go_simp; try rfl) ?_
    try simp only [Act.put, pz0, pz1, pz2]
    refine PF.pf_take0 13 (by kernel_rfl) rfl (fun _ _ _ _ _ h => h) (by kernel_rfl) (fun u => by go_simp; try rfl) ?_
    try simp only [Act.put, pz0, pz1, pz2]
    refine PF.pf_take0 14 (by kernel_rfl) rfl (fun _ _ _ _ _ h => h) (by kernel_rfl) (fun u => by go_simp; try rfl) ?_
    try simp only [Act.put, pz0, pz1, pz2]
    refine PF.pf_take0 15 (by kernel_rfl) rfl (fun _ _ _ _ _ h => h) (by kernel_rfl) (fun u => by go_simp; try rfl) ?_
    try simp only [Act.put, pz0, pz1, pz2]
    refine PF.pf_take1 16 (PF.Same (g) _) (by kernel_rfl) rfl (fun _ _ _ _ _ h => h) (by kernel_rfl) (PF.Same.refl _ _) (fun u hu => by have hcu := hu.cell; go_simp; try rfl) ?_
    try simp only [Act.put, pz0, pz1, pz2]
    refine PF.pf_take0 17 (by kernel_rfl) rfl (fun _ _ _ _ _ h => h) (by kernel_rfl) (fun u => by go_simp; try rfl) ?_
    try simp only [Act.put, pz0, pz1, pz2]
    refine PF.pf_take0 18 (by kernel_rfl) rfl (fun _ _ _ _ _ h => h) (by kernel_rfl) (fun u => by go_simp; try rfl) ?_
    try simp only [Act.put, pz0, pz1, pz2]
    refine PF.pf_take0 19 (by kernel_rfl) rfl (fun _ _ _ _ _ h => h) (by kernel_rfl) (fun u => by go_simp; try rfl) ?_
    try simp only [Act.put, pz0, pz1, pz2]
    refine PF.pf_take0 20 (by kernel_rfl) rfl (fun _ _ _ _ _ h => h) (by kernel_rfl) (fun u => by go_simp; try rfl) ?_
    try simp only [Act.put, pz0, pz1, pz2]
    refine PF.pf_done (by kernel_rfl) ?_
    go_wp2_with fail
    go_end0
    exact ⟨rfl, HP.out.1, ((Mod.refl _ w).drew).trans HP.out.2⟩
  · have d1 : decide ((X.bs.length : Int) - 1 ≤ (X.at_ : Int)) = true := decide_eq_true (by omega)
    have hP := HW.out.drew.put (i := 14) (u := .int .i64 0) (Y := nextX X) (fun vb vc sv => by unfold nextX; rw [if_neg hlt]; simp only [wkL, cliL, List.cons_append, List.nil_append, pz0, pz1, pz2]; rfl) rfl rfl
    have HP := Lib.hid hP
    clear hP hlt g1 g2 g3
    go_enter Try.func28, Try.ntmps28
    go_wp2_with fail
    refine PF.pf_begin (by kernel_rfl) ?_
    refine PF.pf_take0 0 (by kernel_rfl) rfl (fun _ _ _ _ _ h => h) (by kernel_rfl) (fun u => by go_simp; try rfl) ?_
    try simp only [Act.put, pz0, pz1, pz2]
    refine PF.pf_take0 1 (by kernel_rfl) rfl (fun _ _ _ _ _ h => h) (by kernel_rfl) (fun u => by go_simp; try rfl) ?_
    try simp only [Act.put, pz0, pz1, pz2]
    refine PF.pf_take0 2 (by kernel_rfl) rfl (fun _ _ _ _ _ h => h) (by kernel_rfl) (fun u => by go_simp; try rfl) ?_
    try simp only [Act.put, pz0, pz1, pz2]
    refine PF.pf_take0 3 (by kernel_rfl) rfl (fun _ _ _ _ _ h => h) (by kernel_rfl) (fun u => by go_simp; try rfl) ?_
    try simp only [Act.put, pz0, pz1, pz2]
    refine PF.pf_take1 4 (PF.Same (g) _) (by kernel_rfl) rfl (fun _ _ _ _ _ h => h) (by kernel_rfl) (PF.Same.refl _ _) (fun u hu => by have hcu := hu.cell; go_simp; try rfl) ?_
    try simp only [Act.put, pz0, pz1, pz2]
    refine PF.pf_take0 5 (by kernel_rfl) rfl (fun _ _ _ _ _ h => h) (by kernel_rfl) (fun u => by go_simp; try rfl) ?_
    try simp only [Act.put, pz0, pz1, pz2]
    refine PF.pf_take0 6 (by kernel_rfl) rfl (fun _ _ _ _ _ h => h) (by kernel_rfl) (fun u => by go_simp; try rfl) ?_
    try simp only [Act.put, pz0, pz1, pz2]
    refine PF.pf_take0 7 (by kernel_rfl) rfl (fun _ _ _ _ _ h => h) (by kernel_rfl) (fun u => by go_simp; try rfl) ?_
    try simp only [Act.put, pz0, pz1, pz2]
    refine PF.pf_take0 8 (by kernel_rfl) rfl (fun _ _ _ _ _ h => h) (by kernel_rfl) (fun u => by go_simp; try rfl) ?_
    try simp only [Act.put, pz0, pz1, pz2]
    refine PF.pf_take0 9 (by kernel_rfl) rfl (fun _ _ _ _ _ h => h) (by kernel_rfl) (fun u => by go_simp; try rfl) ?_
    try simp only [Act.put, pz0, pz1, pz2]
    refine PF.pf_take0 10 (by kernel_rfl) rfl (fun _ _ _ _ _ h => h) (by kernel_rfl) (fun u => by go_simp; try rfl) ?_
    try simp only [Act.put, pz0, pz1, pz2]
    refine PF.pf_take1 11 (PF.Same (g) _) (by kernel_rfl) rfl (fun _ _ _ _ _ h => h) (by kernel_rfl) (PF.Same.refl _ _) (fun u hu => by have hcu := hu.cell; go_simp; try rfl) ?_
    try simp only [Act.put, pz0, pz1, pz2]
    refine PF.pf_take0 12 (by kernel_rfl) rfl (fun _ _ _ _ _ h => h) (by kernel_rfl) (fun u => by go_simp; try rfl) ?_
    try simp only [Act.put, pz0, pz1, pz2]
    refine PF.pf_take0 13 (by kernel_rfl) rfl (fun _ _ _ _ _ h => h) (by kernel_rfl) (fun u => by go_simp; try rfl) ?_
    try simp only [Act.put, pz0, pz1, pz2]
    refine PF.pf_take0 14 (by kernel_rfl) rfl (fun _ _ _ _ _ h => h) (by kernel_rfl) (fun u => by go_simp; try rfl) ?_
    try simp only [Act.put, pz0, pz1, pz2]
    refine PF.pf_take0 15 (by kernel_rfl) rfl (fun _ _ _ _ _ h => h) (by kernel_rfl) (fun u => by go_simp; try rfl) ?_
    try simp only [Act.put, pz0, pz1, pz2]
    refine PF.pf_take1 16 (PF.Same (g) _) (by kernel_rfl) rfl (fun _ _ _ _ _ h => h) (by kernel_rfl) (PF.Same.refl _ _) (fun u hu => by have hcu := hu.cell; go_simp; try rfl) ?_
    try simp only [Act.put, pz0, pz1, pz2]
    refine PF.pf_take0 17 (by kernel_rfl) rfl (fun _ _ _ _ _ h => h) (by kernel_rfl) (fun u => by go_simp; try rfl) ?_
    try simp only [Act.put, pz0, pz1, pz2]
    refine PF.pf_take0 18 (by kernel_rfl) rfl (fun _ _ _ _ _ h => h) (by kernel_rfl) (fun u => by go_simp; try rfl) ?_
    try simp only [Act.put, pz0, pz1, pz2]
    refine PF.pf_take0 19 (by kernel_rfl) rfl (fun _ _ _ _ _ h => h) (by kernel_rfl) (fun u => by go_simp; try rfl) ?_
    try simp only [Act.put, pz0, pz1, pz2]
    refine PF.pf_take0 20 (by kernel_rfl) rfl (fun _ _ _ _ _ h => h) (by kernel_rfl) (fun u => by go_simp; try rfl) ?_
    try simp only [Act.put, pz0, pz1, pz2]
    refine PF.pf_done (by kernel_rfl) ?_
    go_wp2_with fail
    refine bodyPost_ret (results_none rfl _ _ _) rfl ?_
    exact ⟨rfl, HP.out.1, ((Mod.refl _ w).drew).trans HP.out.2⟩
end Go.Proofs.Ytpbaofabflgpkaa
