/- Crash of whatever disk; Copy. -/
import Derived.Test.YtggdkhgpkedbkaaDiskT
namespace Go.Proofs.Ytggdkhgpkedbkaa
open Go.RowKit

set_option maxHeartbeats 1000000 in
theorem crash_any {w : World} {d : Nat} {U V : Nat → Prop} {x : Dk} (h : Dsk w d U V x) {N : Nat} (hx : Fine N x) (hN : N ≤ 999999) (keep torn : Int) :
    Calls Try.prog 19 #[pd d, .int .i64 keep, .int .i64 torn] w (Ans w d U V (x.crash keep torn)) := by
  cases hdn : x.down
  · exact crash_up h hx hN keep torn hdn
  · have h0 := h
    obtain ⟨mf, ml, v, h⟩ := h
    have hoff := off_any h.blk
    rw [hdn] at hoff
    have HD := Lib.hid hdn
    clear hdn
    unfold pd at *
    go_enter Try.func19, Try.ntmps19
    go_wp2_with (go_at_call 40; refine hoff.mono ?_; rintro e w1 ⟨rfl, rfl⟩)
    go_ret
    exact Ans.mk (by unfold Dk.crash; rw [HD.out]; rfl) (To.same h0 (Below.refl _ _))
theorem wrow_pos {E : List ((Value × Value) × Chg)} (h : 0 < E.length) : 0 < (wrow E).length := by rw [wrow_len]; omega
set_option maxHeartbeats 1000000 in
theorem cloneW_any (A : Option Addr) (n c : Nat) (r : List Value) (w : World) (hA : Reads w 3 A n r) (h1 : ∀ u ∈ r, u.oneCell' = true) (hn : n ≤ 1000000) :
    Calls Try.prog 44 #[.slice A n c] w fun e w' => (∃ v, e = .returned v ∧ w'.ownsRow w.heap.size 75 3 v n r) ∧ Below w.heap.size w w' := by
  have hen := fun (w : World) (a : Option Addr) (n c n' c' : Nat) => Lib.run_eql_slice_nil (P := Try.prog) w 55 75 a n c n' c' Try.underlying55
  rcases A with _ | ad
  · obtain rfl : n = 0 := by
      rcases Nat.eq_zero_or_pos n with h0 | h0
      · exact h0
      · obtain ⟨_, h, _⟩ := hA.2 h0; cases h
    obtain rfl : r = [] := List.eq_nil_of_length_eq_zero (by simpa using hA.1)
    go_enter Try.func44, Try.ntmps44
    go_wp2_with fail
    go_ret
    exact ⟨⟨_, rfl, World.ownsRow_nil _ _ _ _⟩, Below.refl _ _⟩
  · have hown0 : (w.alloc (.cells #[] 75)).ownsRow w.heap.size 75 3 (.slice (some ⟨w.heap.size, 0, none⟩) 0 0) 0 [] := World.ownsRow_made _ _ _ (Nat.le_refl _) (by simp [maxLen]) rfl
    have hA' := Reads.alloc hA (.cells #[] 75)
    clear hA
    go_enter Try.func44, Try.ntmps44
    go_wp2_with (first
      | (at_builtin; refine app_list chg_ty rfl (s := .tmp 5) (x := .tmp 6) rfl hown0 rfl hA' rfl h1 (by omega) (by simp) ?_; intro v3 w3 hown3 hg3 _))
    go_ret
    refine ⟨⟨v3, rfl, ?_⟩, (below_new _ _).grown hg3 (by simp) (own_ge hown0)⟩
    simpa using hown3
/-- A copy: a disk of its own. -/
def CopyPost (w : World) (V : Nat → Prop) (x : Dk) (e : Ending) (w' : World) : Prop :=
  (∃ d' U' V', e = .returned (pd d') ∧ Dsk w' d' U' V' x ∧ (∀ b, U' b → w.heap.size ≤ b) ∧ ∀ b, V' b → V b ∨ w.heap.size ≤ b) ∧ Below w.heap.size w w'
set_option maxRecDepth 100000 in
set_option maxHeartbeats 4000000 in
theorem copy_any {w : World} {d : Nat} {U V : Nat → Prop} {x : Dk} (h : Dsk w d U V x) (hx : Small x) : Calls Try.prog 20 #[pd d] w (CopyPost w V x) := by
  obtain ⟨mf, ml, v, h⟩ := h
  have hnone := none_any h.blk
  obtain ⟨E, hown, hcs, hE⟩ := h.waits
  obtain ⟨A0, c0, rfl, _, _⟩ := own_slice hown
  have HCS := Lib.hid hcs
  clear hcs
  have d0 := Blk.cell h.blk 0
  have d1 := Blk.cell h.blk 1
  have d2 := Blk.cell h.blk 2
  have d3 := Blk.cell h.blk 3
  have d4 := Blk.cell h.blk 4
  have d5 := Blk.cell h.blk 5
  simp only [List.getElem?_toArray, List.getElem?_cons_zero, List.getElem?_cons_succ] at d0 d1 d2 d3 d4 d5
  unfold pd at *
  go_enter Try.func20, Try.ntmps20
  go_wp2_with (go_at_call 34; refine hnone.mono ?_; rintro e w1 ⟨rfl, rfl⟩)
  have hone := wrow_one hE
  have hbW := below_new w (.cells #[.map (some mf), .map (some ml), .slice A0 x.waits.length c0, .int .i64 x.cap, .int .u64 x.serial, .bool x.down] 58)
  have hDW := h.below hbW
  have hz := alloc_size w (.cells #[.map (some mf), .map (some ml), .slice A0 x.waits.length c0, .int .i64 x.cap, .int .u64 x.serial, .bool x.down] 58)
  have kc := Blk.new w 58 #[.map (some mf), .map (some ml), .slice A0 x.waits.length c0, .int .i64 x.cap, .int .u64 x.serial, .bool x.down]
  have hr0 := (Reads.of_own hown).below hbW
  generalize hw0 : w.alloc (.cells #[.map (some mf), .map (some ml), .slice A0 x.waits.length c0, .int .i64 x.cap, .int .u64 x.serial, .bool x.down] 58) = W at *
  have HZ := Lib.hid hz
  have hdl : d < W.heap.size := hDW.ulo d hDW.ud
  have q0 : W.cell? ⟨d, 0, none⟩ = some (.map (some mf)) := Blk.cell hDW.blk 0
  have q1 : W.cell? ⟨d, 1, none⟩ = some (.map (some ml)) := Blk.cell hDW.blk 1
  have q2 : W.cell? ⟨d, 2, none⟩ = some (.slice A0 x.waits.length c0) := Blk.cell hDW.blk 2
  have hown1 := own_any hDW.seen.drew hDW.vlo (by have := hx.fs; omega) (by have := hx.ns; omega)
  have hsz := hx.fl
  have hln := hx.nl
  have hnw := hx.nw
  unfold fv at hown1
  clear hw0 hz d0 d1 d2 d3 d4 d5
  refine PF.pf_begin (by kernel_rfl) ?_
  refine PF.pf_take0 0 (by kernel_rfl) rfl (fun _ _ _ _ _ h => h) (by kernel_rfl) (fun u => by go_simp; try rfl) ?_
  try simp only [Act.put, List.setIfInBounds_toArray, List.set_cons_zero, List.set_cons_succ]
  refine PF.pf_take0 1 (by kernel_rfl) rfl (fun _ _ _ _ _ h => h) (by kernel_rfl) (fun u => by go_simp; try rfl) ?_
  try simp only [Act.put, List.setIfInBounds_toArray, List.set_cons_zero, List.set_cons_succ]
  refine PF.pf_take0 2 (by kernel_rfl) rfl (fun _ _ _ _ _ h => h) (by kernel_rfl) (fun u => by go_simp; try rfl) ?_
  try simp only [Act.put, List.setIfInBounds_toArray, List.set_cons_zero, List.set_cons_succ]
  refine PF.pf_take1 3 (PF.Same (d) _) (by kernel_rfl) rfl (fun _ _ _ _ _ h => h) (by kernel_rfl) (PF.Same.refl _ _) (fun u hu => by have hcu := hu.cell; go_simp; try rfl) ?_
  try simp only [Act.put, List.setIfInBounds_toArray, List.set_cons_zero, List.set_cons_succ]
  refine PF.pf_take0 5 (by kernel_rfl) rfl (fun _ _ _ _ _ h => h) (by kernel_rfl) (fun u => by go_simp; try rfl) ?_
  try simp only [Act.put, List.setIfInBounds_toArray, List.set_cons_zero, List.set_cons_succ]
  refine PF.pf_take0 6 (by kernel_rfl) rfl (fun _ _ _ _ _ h => h) (by kernel_rfl) (fun u => by go_simp; try rfl) ?_
  try simp only [Act.put, List.setIfInBounds_toArray, List.set_cons_zero, List.set_cons_succ]
  refine PF.pf_take0 7 (by kernel_rfl) rfl (fun _ _ _ _ _ h => h) (by kernel_rfl) (fun u => by go_simp; try rfl) ?_
  try simp only [Act.put, List.setIfInBounds_toArray, List.set_cons_zero, List.set_cons_succ]
  refine PF.pf_take1 8 (PF.Same (d) _) (by kernel_rfl) rfl (fun _ _ _ _ _ h => h) (by kernel_rfl) (PF.Same.refl _ _) (fun u hu => by have hcu := hu.cell; go_simp; try rfl) ?_
  try simp only [Act.put, List.setIfInBounds_toArray, List.set_cons_zero, List.set_cons_succ]
  refine PF.pf_take0 10 (by kernel_rfl) rfl (fun _ _ _ _ _ h => h) (by kernel_rfl) (fun u => by go_simp; try rfl) ?_
  try simp only [Act.put, List.setIfInBounds_toArray, List.set_cons_zero, List.set_cons_succ]
  refine PF.pf_take0 11 (by kernel_rfl) rfl (fun _ _ _ _ _ h => h) (by kernel_rfl) (fun u => by go_simp; try rfl) ?_
  try simp only [Act.put, List.setIfInBounds_toArray, List.set_cons_zero, List.set_cons_succ]
  refine PF.pf_take0 12 (by kernel_rfl) rfl (fun _ _ _ _ _ h => h) (by kernel_rfl) (fun u => by go_simp; try rfl) ?_
  try simp only [Act.put, List.setIfInBounds_toArray, List.set_cons_zero, List.set_cons_succ]
  refine PF.pf_take1 13 (PF.Same (d) _) (by kernel_rfl) rfl (fun _ _ _ _ _ h => h) (by kernel_rfl) (PF.Same.refl _ _) (fun u hu => by have hcu := hu.cell; go_simp; try rfl) ?_
  try simp only [Act.put, List.setIfInBounds_toArray, List.set_cons_zero, List.set_cons_succ]
  refine PF.pf_exec 4 (by kernel_rfl) rfl (by kernel_rfl) (fun K hK => ?_)
  go_simp
  refine hown1.mono ?_
  rintro e w1 ⟨⟨m1, rfl, hm1, hfil1⟩, hb1⟩
  have hown2 := own_any (hDW.last.drew.below hb1) (fun b hb => Nat.lt_of_lt_of_le (hDW.vlo b hb) hb1.size) (by omega) (by omega)
  unfold fv at *
  refine hK _ _ (by repeat (first | exact PF.owes_nil | refine PF.owes_left ?_ | refine PF.owes_no (by decide +kernel) ?_ | refine PF.owes_yes (by exact hb1.block _ hdl) ?_)) ?_
  clear hK K
  try simp only [Act.put, List.setIfInBounds_toArray, List.set_cons_zero, List.set_cons_succ]
  refine PF.pf_exec 9 (by kernel_rfl) rfl (by kernel_rfl) (fun K hK => ?_)
  go_simp
  refine hown2.mono ?_
  rintro e w2 ⟨⟨m2, rfl, hm2, hfil2⟩, hb2⟩
  have hz1 := hb1.size
  have hcl := cloneW_any A0 x.waits.length c0 (wrow E) w2 ((Reads.below (Reads.drew hr0) hb1).below hb2) hone hnw
  unfold fv at *
  refine hK _ _ (by repeat (first | exact PF.owes_nil | refine PF.owes_left ?_ | refine PF.owes_no (by decide +kernel) ?_ | refine PF.owes_yes (by exact (hb2.block _ (Nat.lt_of_lt_of_le hdl hb1.size)).trans (hb1.block _ hdl)) ?_)) ?_
  clear hK K
  try simp only [Act.put, List.setIfInBounds_toArray, List.set_cons_zero, List.set_cons_succ]
  refine PF.pf_exec 14 (by kernel_rfl) rfl (by kernel_rfl) (fun K hK => ?_)
  go_simp
  refine hcl.mono ?_
  rintro e w3 ⟨⟨v3, rfl, ho3⟩, hb3⟩
  obtain ⟨A3, c3, rfl, _, _⟩ := own_slice ho3
  have kc3 : Blk w3 w.heap.size _ _ := Blk.below (Blk.below (Blk.below kc.drew hb1 (by rw [drew_size]; exact kc.lt)) hb2 (by have := kc.lt; rw [drew_size] at hz1; omega)) hb3 (by have := kc.lt; rw [drew_size] at hz1; have := hb2.size; omega)
  have c30 := kc3.cell 0
  have c31 := kc3.cell 1
  have c32 := kc3.cell 2
  have f30 := kc3.free 0
  have f31 := kc3.free 1
  have f32 := kc3.free 2
  simp only [List.getElem?_toArray, List.getElem?_cons_zero, List.getElem?_cons_succ] at c30 c31 c32
  refine hK _ _ (by repeat (first | exact PF.owes_nil | refine PF.owes_left ?_ | refine PF.owes_no (by decide +kernel) ?_ | refine PF.owes_yes (by first | rfl | assumption | go_simp) ?_)) ?_
  clear hK K
  try simp only [Act.put, List.setIfInBounds_toArray, List.set_cons_zero, List.set_cons_succ]
  refine PF.pf_take0 15 (by kernel_rfl) rfl (fun _ _ _ _ _ h => h) (by kernel_rfl) (fun u => by go_simp; try rfl) ?_
  try simp only [Act.put, List.setIfInBounds_toArray, List.set_cons_zero, List.set_cons_succ]
  refine PF.pf_exec 16 (by kernel_rfl) rfl (by kernel_rfl) (fun K hK => ?_)
  go_simp
  refine hK _ _ (by repeat (first | exact PF.owes_nil | refine PF.owes_left ?_ | refine PF.owes_no (by decide +kernel) ?_ | refine PF.owes_yes (by first | rfl | assumption | go_simp) ?_)) ?_
  clear hK K
  try simp only [Act.put, List.setIfInBounds_toArray, List.set_cons_zero, List.set_cons_succ]
  refine PF.pf_take0 17 (by kernel_rfl) rfl (fun _ _ _ _ _ h => h) (by kernel_rfl) (fun u => by go_simp; try rfl) ?_
  try simp only [Act.put, List.setIfInBounds_toArray, List.set_cons_zero, List.set_cons_succ]
  refine PF.pf_exec 18 (by kernel_rfl) rfl (by kernel_rfl) (fun K hK => ?_)
  go_simp
  refine hK _ _ (by repeat (first | exact PF.owes_nil | refine PF.owes_left ?_ | refine PF.owes_no (by decide +kernel) ?_ | refine PF.owes_yes (by first | rfl | assumption | go_simp) ?_)) ?_
  clear hK K
  try simp only [Act.put, List.setIfInBounds_toArray, List.set_cons_zero, List.set_cons_succ]
  refine PF.pf_take0 19 (by kernel_rfl) rfl (fun _ _ _ _ _ h => h) (by kernel_rfl) (fun u => by go_simp; try rfl) ?_
  try simp only [Act.put, List.setIfInBounds_toArray, List.set_cons_zero, List.set_cons_succ]
  refine PF.pf_exec 20 (by kernel_rfl) rfl (by kernel_rfl) (fun K hK => ?_)
  go_simp
  refine hK _ _ (by repeat (first | exact PF.owes_nil | refine PF.owes_left ?_ | refine PF.owes_no (by decide +kernel) ?_ | refine PF.owes_yes (by first | rfl | assumption | go_simp) ?_)) ?_
  clear hK K
  try simp only [Act.put, List.setIfInBounds_toArray, List.set_cons_zero, List.set_cons_succ]
  refine PF.pf_done (by kernel_rfl) ?_
  go_wp2_with fail
  go_ret
  have hz := HZ.out
  have hz1 := hb1.size
  have hz2 := hb2.size
  have hz3 := hb3.size
  rw [drew_size] at hz1 hm1
  have hM : Mod (fun b => b = w.heap.size) w3 (((w3.setCell ⟨w.heap.size, 0, none⟩ (.map (some m1))).setCell ⟨w.heap.size, 1, none⟩ (.map (some m2))).setCell ⟨w.heap.size, 2, none⟩ (.slice A3 x.waits.length c3)) :=
    (((Mod.refl (fun b => b = w.heap.size) w3).set (p := ⟨w.heap.size, 0, none⟩) (fun _ => rfl) _).set (p := ⟨w.heap.size, 1, none⟩) (fun _ => rfl) _).set (p := ⟨w.heap.size, 2, none⟩) (fun _ => rfl) _
  have hk4 := ((kc3.put 0 (.map (some m1))).put 1 (.map (some m2))).put 2 (.slice A3 x.waits.length c3)
  have hfl1 := hfil1.lt
  have hfl2 := hfil2.lt
  have hzM := hM.size
  have hN1 : ∀ b, New W.drew.heap.size w1 m1 b → ¬ b = w.heap.size := fun b hb e => by have := hb.1; rw [drew_size] at this; omega
  have hN2 : ∀ b, New w1.heap.size w2 m2 b → ¬ b = w.heap.size := fun b hb e => by have := hb.1; omega
  have hV0 : ∀ b, V b → ¬ b = w.heap.size := fun b hb e => by have := h.vlo b hb; omega
  have hF1 := ((hfil1.below hb2).below hb3).mod hM (by omega) hN1
  have hF2 := (hfil2.below hb3).mod hM (by omega) hN2
  have hv3 : ∀ b, (Value.slice A3 x.waits.length c3).ownBlock = some b → w2.heap.size ≤ b ∧ b < w3.heap.size := fun b e => ho3.lt b e
  have hbel : Below w.heap.size w (((w3.setCell ⟨w.heap.size, 0, none⟩ (.map (some m1))).setCell ⟨w.heap.size, 1, none⟩ (.map (some m2))).setCell ⟨w.heap.size, 2, none⟩ (.slice A3 x.waits.length c3)) := by
    have e1 : Below w.heap.size w w1 := hbW.trans (((Below.refl W.heap.size W).drew.trans hb1).mono (by omega))
    have e2 := e1.trans (hb2.mono (by omega))
    have e3 := e2.trans (hb3.mono (by omega))
    exact ((e3.setCell (by simp) _).setCell (by simp) _).setCell (by simp) _
  refine ⟨⟨w.heap.size, fun b => b = w.heap.size ∨ b = m1 ∨ b = m2 ∨ (Value.slice A3 x.waits.length c3).ownBlock = some b, fun b => V b ∨ New W.drew.heap.size w1 m1 b ∨ New w1.heap.size w2 m2 b, rfl,
    ⟨m1, m2, .slice A3 x.waits.length c3, ⟨hk4, by omega, .inl rfl, .inr (.inl rfl), .inr (.inr (.inl rfl)), fun b e => .inr (.inr (.inr e)), hF1.mono fun b e => .inr (.inl e), hF2.mono fun b e => .inr (.inr e), ?_, ?_, ?_, ?_⟩⟩, ?_, ?_⟩, hbel⟩
  · refine ⟨E, ?_, HCS.out, fun p hp => ⟨?_, ?_⟩⟩
    · exact base_le (own_mod ho3 hM fun b e e' => by have := hv3 b e; omega) (Nat.zero_le _)
    · exact ((hE p hp).1.mod (S := fun b => False) (Mod.below hbel (Nat.le_refl _)) fun _ _ e => e).mono fun b e => .inl e
    · exact ((hE p hp).2.mod (S := fun b => False) (Mod.below hbel (Nat.le_refl _)) fun _ _ e => e).mono fun b e => .inl e
  · rintro b (rfl | rfl | rfl | e) hv
    · rcases hv with hv | hv | hv
      · exact hV0 _ hv rfl
      · exact hN1 _ hv rfl
      · exact hN2 _ hv rfl
    · rcases hv with hv | hv | hv
      · have := h.vlo _ hv; omega
      · exact hv.2.2 rfl
      · have := hv.1; omega
    · rcases hv with hv | hv | hv
      · have := h.vlo _ hv; omega
      · have := hv.2.1; omega
      · exact hv.2.2 rfl
    · have := hv3 b e
      rcases hv with hv | hv | hv
      · have := h.vlo _ hv; omega
      · have := hv.2.1; omega
      · have := hv.2.1; omega
  · rintro b (rfl | rfl | rfl | e)
    · omega
    · omega
    · omega
    · have := hv3 b e; omega
  · rintro b (hv | hv | hv)
    · have := h.vlo _ hv; omega
    · have := hv.2.1; omega
    · have := hv.2.1; omega
  · rintro b (rfl | rfl | rfl | e)
    · exact Nat.le_refl _
    · omega
    · omega
    · have := hv3 b e; omega
  · rintro b (hv | hv | hv)
    · exact .inl hv
    · exact .inr (by have := hv.1; rw [drew_size] at this; omega)
    · exact .inr (by have := hv.1; omega)
end Go.Proofs.Ytggdkhgpkedbkaa
