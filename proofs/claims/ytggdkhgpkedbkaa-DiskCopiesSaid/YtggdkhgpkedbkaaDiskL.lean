/- A change waits, and is done to the files as they are seen. -/
import Derived.Test.YtggdkhgpkedbkaaDiskK
namespace Go.Proofs.Ytggdkhgpkedbkaa
open Go.RowKit

set_option maxRecDepth 100000 in
set_option maxHeartbeats 2000000 in
theorem wait_any {w : World} {d : Nat} {U V : Nat → Prop} {x : Dk} (h : Dsk w d U V x) (c : Chg) (dv tv : Value) (hd : DoesV w V dv c) (ht : TornV w V tv c) (hF : fsize x.seen ≤ 70368744177664) (hN : x.seen.length < 9223372036854775807) (hW : x.waits.length ≤ 1000000) :
    Calls Try.prog 38 #[pd d, .agg #[dv, tv, .int .i64 (c.size : Int)]] w fun e w' => e = .returned (.tuple #[]) ∧ To w d U V { x with seen := c.done x.seen, waits := x.waits ++ [c] } w' := by
  obtain ⟨mf, ml, v, h⟩ := h
  have hd1 := hd.one
  have ht1 := ht.one
  have hVmf : ¬ V mf := fun e => h.apart _ h.uf e
  obtain ⟨g, lb, e, eg, _⟩ := does_any hd h.seen hVmf h.vlo hF hN
  subst e
  obtain ⟨E, hown, hcs, hE⟩ := h.waits
  obtain ⟨A0, c0', rfl, _, _⟩ := own_slice hown
  have HCS := Lib.hid hcs
  clear hcs
  have hbW := below_new w (.cells #[.func (.func g) #[] lb, tv, .int .i64 (c.size : Int)] 75)
  have h' := h.below hbW.drew
  have k0 := Blk.new w 75 #[.func (.func g) #[] lb, tv, .int .i64 (c.size : Int)]
  have hz := alloc_size w (.cells #[.func (.func g) #[] lb, tv, .int .i64 (c.size : Int)] 75)
  have hdl : d < w.heap.size := h.ulo d h.ud
  obtain ⟨g', lb', e, _, hcall⟩ := does_any (hd.mod (S := fun _ => False) (Mod.below hbW.drew (Nat.le_refl _)) fun _ _ e => e) h'.seen hVmf h'.vlo hF hN
  injection e with e _ e2
  injection e with e
  subst e e2
  have kd : Blk (w.alloc (.cells #[.func (.func g) #[] lb, tv, .int .i64 (c.size : Int)] 75)) d _ _ := (h.below hbW).blk
  unfold pd
  go_enter Try.func38, Try.ntmps38
  go_wp2_with fail
  generalize hw0 : w.alloc (.cells #[.func (.func g) #[] lb, tv, .int .i64 (c.size : Int)] 75) = W at *
  have HW := Lib.hid hw0
  have HZ := Lib.hid hz
  clear hw0 hz
  have c0 := k0.cell 0
  have d0 := kd.cell 0
  have d2 := kd.cell 2
  simp only [List.getElem?_toArray, List.getElem?_cons_zero, List.getElem?_cons_succ] at c0 d0 d2
  refine PF.pf_begin (by kernel_rfl) ?_
  refine PF.pf_take0 0 (by kernel_rfl) rfl (fun _ _ _ _ _ h => h) (by kernel_rfl) (fun u => by go_simp; try rfl) ?_
  try simp only [Act.put, List.setIfInBounds_toArray, List.set_cons_zero, List.set_cons_succ]
  refine PF.pf_take1 1 (PF.Same (w.heap.size) _) (by kernel_rfl) rfl (fun _ _ _ _ _ h => h) (by kernel_rfl) (PF.Same.refl _ _) (fun u hu => by have hcu := hu.cell; go_simp; try rfl) ?_
  try simp only [Act.put, List.setIfInBounds_toArray, List.set_cons_zero, List.set_cons_succ]
  refine PF.pf_take0 2 (by kernel_rfl) rfl (fun _ _ _ _ _ h => h) (by kernel_rfl) (fun u => by go_simp; try rfl) ?_
  try simp only [Act.put, List.setIfInBounds_toArray, List.set_cons_zero, List.set_cons_succ]
  refine PF.pf_take0 3 (by kernel_rfl) rfl (fun _ _ _ _ _ h => h) (by kernel_rfl) (fun u => by go_simp; try rfl) ?_
  try simp only [Act.put, List.setIfInBounds_toArray, List.set_cons_zero, List.set_cons_succ]
  refine PF.pf_take0 4 (by kernel_rfl) rfl (fun _ _ _ _ _ h => h) (by kernel_rfl) (fun u => by go_simp; try rfl) ?_
  try simp only [Act.put, List.setIfInBounds_toArray, List.set_cons_zero, List.set_cons_succ]
  refine PF.pf_take1 5 (PF.Same (d) _) (by kernel_rfl) rfl (fun _ _ _ _ _ h => h) (by kernel_rfl) (PF.Same.refl _ _) (fun u hu => by have hcu := hu.cell; go_simp; try rfl) ?_
  try simp only [Act.put, List.setIfInBounds_toArray, List.set_cons_zero, List.set_cons_succ]
  refine PF.pf_exec 6 (by kernel_rfl) rfl (by kernel_rfl) (fun K hK => ?_)
  go_simp
  refine hcall.mono ?_
  rintro e w1 ⟨rfl, hdid⟩
  refine hK _ _ (by repeat (first | exact PF.owes_nil | refine PF.owes_left ?_ | refine PF.owes_no (by decide +kernel) ?_ | refine PF.owes_yes (by first | rfl | assumption | go_simp) ?_)) ?_
  clear hK K
  try simp only [Act.put, List.setIfInBounds_toArray, List.set_cons_zero, List.set_cons_succ]
  refine PF.pf_done (by kernel_rfl) ?_
  -- the second region
  have hz1 := hdid.2.size
  have hz0 := HZ.out
  have hdf := h.seen.ne h.blk
  have kd1 : Blk w1 d _ _ := Blk.mod (Blk.drew kd) hdid.2 hdf
  have k01 : Blk w1 w.heap.size _ _ := Blk.mod (Blk.drew k0) hdid.2 (by have := h.seen.lt; omega)
  have hM1 : Mod (fun b => b = mf) w w1 := (Mod.below hbW (Nat.le_refl _)).trans ((Mod.refl _ W).drew.trans hdid.2)
  have hown1 := own_mod hown hM1 (fun b e e' => own_ne_fil hown h.seen (e' ▸ e))
  have hown2 := (hown1.alloc (.cells #[.func (.func g) #[] lb, tv, .int .i64 (c.size : Int)] 75)).drew
  have hnew := Reads.block3 w1 75 (.func (.func g) #[] lb) tv (.int .i64 (c.size : Int))
  have hone : ∀ u ∈ [.func (.func g) #[] lb, tv, .int .i64 (c.size : Int)], u.oneCell' = true := by
    intro u hu
    simp only [List.mem_cons, List.not_mem_nil, or_false] at hu
    rcases hu with rfl | rfl | rfl
    · exact hd1
    · exact ht1
    · rfl
  have e0 := k01.cell 0
  have e1 := k01.cell 1
  have e2 := k01.cell 2
  have d21 := kd1.cell 2
  simp only [List.getElem?_toArray, List.getElem?_cons_zero, List.getElem?_cons_succ] at e0 e1 e2 d21
  have HD := Lib.hid hdid
  have hdl1 : d < w1.heap.size := kd1.lt
  have hne2 := own_ne hown h.blk (by decide)
  have HM1 := Lib.hid hM1
  clear hdid hcall c0 d0 d2 hM1
  go_wp2_with fail
  refine PF.pf_begin (by kernel_rfl) ?_
  refine PF.pf_take0 0 (by kernel_rfl) rfl (fun _ _ _ _ _ h => h) (by kernel_rfl) (fun u => by go_simp; try rfl) ?_
  try simp only [Act.put, List.setIfInBounds_toArray, List.set_cons_zero, List.set_cons_succ]
  refine PF.pf_take0 1 (by kernel_rfl) rfl (fun _ _ _ _ _ h => h) (by kernel_rfl) (fun u => by go_simp; try rfl) ?_
  try simp only [Act.put, List.setIfInBounds_toArray, List.set_cons_zero, List.set_cons_succ]
  refine PF.pf_take0 2 (by kernel_rfl) rfl (fun _ _ _ _ _ h => h) (by kernel_rfl) (fun u => by go_simp; try rfl) ?_
  try simp only [Act.put, List.setIfInBounds_toArray, List.set_cons_zero, List.set_cons_succ]
  refine PF.pf_take0 3 (by kernel_rfl) rfl (fun _ _ _ _ _ h => h) (by kernel_rfl) (fun u => by go_simp; try rfl) ?_
  try simp only [Act.put, List.setIfInBounds_toArray, List.set_cons_zero, List.set_cons_succ]
  refine PF.pf_take1 4 (PF.Same (d) _) (by kernel_rfl) rfl (fun _ _ _ _ _ h => h) (by kernel_rfl) (PF.Same.refl _ _) (fun u hu => by have hcu := hu.cell; go_simp; try rfl) ?_
  try simp only [Act.put, List.setIfInBounds_toArray, List.set_cons_zero, List.set_cons_succ]
  refine PF.pf_take1 5 (PF.Same (w.heap.size) _) (by kernel_rfl) rfl (fun _ _ _ _ _ h => h) (by kernel_rfl) (PF.Same.refl _ _) (fun u hu => by have hcu := hu.cell; go_simp; try rfl) ?_
  try simp only [Act.put, List.setIfInBounds_toArray, List.set_cons_zero, List.set_cons_succ]
  refine PF.pf_exec 6 (by kernel_rfl) rfl (by kernel_rfl) (fun K hK => ?_)
  go_simp
  refine hK _ _ (by repeat (first | exact PF.owes_nil | refine PF.owes_left ?_ | refine PF.owes_no (by decide +kernel) ?_ | refine PF.owes_yes (by exact Below.heap_alloc _ _ _ hdl1) ?_)) ?_
  clear hK K
  try simp only [Act.put, List.setIfInBounds_toArray, List.set_cons_zero, List.set_cons_succ]
  refine PF.pf_exec 7 (by kernel_rfl) rfl (by kernel_rfl) (fun K hK => ?_)
  refine app_wp chg_ty rfl hown2 rfl hnew rfl hone (by omega) (by simp) ?_
  intro v2 w2 ho2 hg2 hv2
  have kd2 : Blk w2 d _ _ := (Blk.drew (Blk.alloc kd1 _)).grown hg2 (fun e => hne2 e.symm)
  have d22 := kd2.cell 2
  have f22 := kd2.free 2
  simp only [List.getElem?_toArray, List.getElem?_cons_zero, List.getElem?_cons_succ] at d22
  obtain ⟨A2, c2', rfl, _, _⟩ := own_slice ho2
  refine hK _ _ (by repeat (first | exact PF.owes_nil | refine PF.owes_left ?_ | refine PF.owes_no (by decide +kernel) ?_ | refine PF.owes_yes (by first | rfl | assumption | go_simp) ?_)) ?_
  clear hK K
  try simp only [Act.put, List.setIfInBounds_toArray, List.set_cons_zero, List.set_cons_succ]
  refine PF.pf_take0 8 (by kernel_rfl) rfl (fun _ _ _ _ _ h => h) (by kernel_rfl) (fun u => by go_simp; try rfl) ?_
  try simp only [Act.put, List.setIfInBounds_toArray, List.set_cons_zero, List.set_cons_succ]
  refine PF.pf_take0 9 (by kernel_rfl) rfl (fun _ _ _ _ _ h => h) (by kernel_rfl) (fun u => by go_simp; try rfl) ?_
  try simp only [Act.put, List.setIfInBounds_toArray, List.set_cons_zero, List.set_cons_succ]
  refine PF.pf_exec 10 (by kernel_rfl) rfl (by kernel_rfl) (fun K hK => ?_)
  go_simp
  refine hK _ _ (by repeat (first | exact PF.owes_nil | refine PF.owes_left ?_ | refine PF.owes_no (by decide +kernel) ?_ | refine PF.owes_yes (by first | rfl | assumption | go_simp) ?_)) ?_
  clear hK K
  try simp only [Act.put, List.setIfInBounds_toArray, List.set_cons_zero, List.set_cons_succ]
  refine PF.pf_done (by kernel_rfl) ?_
  go_end0
  have hdid := HD.out
  have hM1 := HM1.out
  have hz2 := hg2.size
  rw [drew_size, alloc_size] at hz2 hv2
  rw [drew_size] at hz1
  have hMt : Mod (fun b => (Value.slice A0 x.waits.length c0').ownBlock = some b ∨ b = d) w1 (w2.setCell ⟨d, 2, none⟩ (.slice A2 (x.waits.length + 1) c2')) :=
    ((((Mod.refl _ w1).alloc _).drew).trans (Mod.grown hg2 fun g e _ => .inl e)).set (p := ⟨d, 2, none⟩) (fun _ => .inr rfl) _
  have hnf : ¬ ((Value.slice A0 x.waits.length c0').ownBlock = some mf ∨ mf = d) := fun e => e.elim (own_ne_fil hown h.seen) fun e => hdf e.symm
  have hnl : ¬ ((Value.slice A0 x.waits.length c0').ownBlock = some ml ∨ ml = d) := fun e => e.elim (own_ne_fil hown h.last) fun e => h.last.ne h.blk e.symm
  have hV1 : ∀ b, V b → ¬ ((Value.slice A0 x.waits.length c0').ownBlock = some b ∨ b = d) := fun b hb e => e.elim (fun e => h.apart _ (h.uv _ e) hb) fun e => h.apart _ h.ud (e ▸ hb)
  have hlt1 : ∀ b, U b → b < w.heap.size := h.ulo
  have hV2 : ∀ b, (V b ∨ From W.heap.size w1 b) → ¬ ((Value.slice A0 x.waits.length c0').ownBlock = some b ∨ b = d) := fun b hb => hb.elim (hV1 b) fun hb e => by
    have hb1 := hb.1
    rcases e with e | e
    · have := hlt1 _ (h.uv _ e); omega
    · omega
  have hU2 : ∀ b, (Value.slice A2 (x.waits.length + 1) c2').ownBlock = some b → U b ∨ b = w1.heap.size + 1 := fun b e => by
    rcases hv2 with hv2 | hv2
    · rw [hv2] at e; exact .inl (h.uv b e)
    · rw [hv2] at e; exact .inr (Option.some.inj e).symm
  have hsz3 : (w2.setCell ⟨d, 2, none⟩ (.slice A2 (x.waits.length + 1) c2')).heap.size = w2.heap.size := by simp [World.setCell]
  have hV0 : ∀ b, V b → ¬ b = mf := fun b hb e => hVmf (e ▸ hb)
  refine ⟨rfl, fun b => U b ∨ (Value.slice A2 (x.waits.length + 1) c2').ownBlock = some b, fun b => V b ∨ From W.heap.size w1 b, ⟨mf, ml, _, ⟨?_, h.ne, .inl h.ud, .inl h.uf, .inl h.ul, fun b e => .inr e, ?_, ?_, ?_, ?_, ?_, ?_⟩⟩, ?_, ?_, ?_⟩
  · exact kd2.put 2 _
  · exact hdid.1.mod hMt hnf hV2
  · exact ((h.last.mod hM1 (fun e => h.ne e.symm) hV0).mod hMt hnl hV1).mono fun b hb => .inl hb
  · refine ⟨E ++ [((.func (.func g) #[] lb, tv), c)], ?_, by rw [HCS.out]; simp, fun p hp => ?_⟩
    · rw [wrow_app, List.length_append]
      exact own_mod ho2 ((Mod.refl (fun b => b = d) w2).set (p := ⟨d, 2, none⟩) (fun _ => rfl) _) fun b e e' => own_ne ho2 kd2 (by decide) (e' ▸ e)
    · rcases List.mem_append.1 hp with hp | hp
      · exact ⟨(((hE p hp).1.mod hM1 hV0).mod hMt hV1).mono fun b hb => .inl hb, (((hE p hp).2.mod hM1 hV0).mod hMt hV1).mono fun b hb => .inl hb⟩
      · obtain rfl : p = ((.func (.func g) #[] lb, tv), c) := by simpa using hp
        exact ⟨((hd.mod hM1 hV0).mod hMt hV1).mono fun b hb => .inl hb, ((ht.mod hM1 hV0).mod hMt hV1).mono fun b hb => .inl hb⟩
  · rintro b (hb | hb) hv
    · rcases hv with hv | hv
      · exact h.apart b hb hv
      · have := hlt1 b hb; have := hv.1; omega
    · rcases hU2 b hb with hb | hb
      · rcases hv with hv | hv
        · exact h.apart b hb hv
        · have := hlt1 b hb; have := hv.1; omega
      · rcases hv with hv | hv
        · have := h.vlo b hv; omega
        · have := hv.2; omega
  · rintro b (hb | hb)
    · have := hlt1 b hb; omega
    · have := (ho2.lt b hb).2
      omega
  · rintro b (hb | hb)
    · have := h.vlo b hb; omega
    · have := hb.2; omega
  · exact (hM1.mono fun b _ e => e ▸ h.uf).join hMt fun b _ e => e.elim (h.uv b) fun e => e ▸ h.ud
  · rintro b (hb | hb)
    · exact .inl hb
    · exact (hU2 b hb).imp id fun e => by omega
  · rintro b (hb | hb)
    · exact .inl hb
    · exact .inr (by have := hb.1; omega)
end Go.Proofs.Ytggdkhgpkedbkaa
