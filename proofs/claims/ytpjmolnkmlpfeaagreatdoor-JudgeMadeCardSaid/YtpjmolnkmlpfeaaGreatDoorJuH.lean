/- A publish's entry is put behind the others. -/
import Derived.Test.YtpjmolnkmlpfeaaGreatDoorJuG
namespace Go.Proofs.YtpjmolnkmlpfeaaGreatDoor
set_option linter.unusedVariables false
set_option linter.unusedSimpArgs false
set_option maxRecDepth 100000
open Go.RowKit

theorem reads_blockN (w : World) (t : TypeId) (us : List Value) (n : Nat) (h : us.length = n) : Reads (w.alloc (.cells us.toArray t)) n (some ⟨w.heap.size, 0, none⟩) 1 us := by
  refine ⟨by rw [h]; omega, fun _ => ⟨_, rfl, by simp, fun j u hu => ?_⟩⟩
  rw [add_flat]
  have hb : (w.alloc (.cells us.toArray t)).heap[w.heap.size]? = some (.cells us.toArray t (0, 0)) := heap_alloc_new w _
  rw [cell_of_row _ _ _ _ _ _ hb, Nat.zero_add]
  simpa using hu
theorem mod_below {S : Nat → Prop} {w w' : World} (h : Below w.heap.size w w') : Mod S w w' := Mod.below h (Nat.le_refl _)
theorem mod_grownO {w w' : World} {v : Value} (h : w.grownBy w' v.ownBlock) : Mod (fun b => v.ownBlock = some b) w w' := ⟨h.os, h.tape, h.output, h.size, fun i hi hn => h.block i hi fun e => hn e.symm⟩
theorem mdL_one {M : Mdl} {vl vc : Value} (h1 : vl.oneCell' = true) (h2 : vc.oneCell' = true) : ∀ v ∈ (mdL M vl vc).toArray.toList, v.oneCell' = true := by
  intro v hv
  simp only [mdL, List.toList_toArray, List.mem_cons, List.not_mem_nil, or_false] at hv
  rcases hv with rfl | rfl | rfl
  · exact h1
  · rfl
  · exact h2
theorem OwF.mod {X S : Nat → Prop} {B : Nat} {w w' : World} {vl : Value} {g : Nat} {M : Mdl} (h : OwF X B w vl g M) (hm : Mod S w w') (hS : ∀ b, B ≤ b → ¬ X b → ¬ S b) : OwF X B w' vl g M := by
  obtain ⟨⟨E, h1, h2, h3⟩, h4, h5, h6, h7, h8, h9⟩ := h
  exact ⟨⟨E, own_mod h1 hm fun b hb => hS b (own_ge h1 b hb) (h9 b hb), h2, fun p hp => (h3 p hp).mod hm fun b hb => hS b hb.1 hb.2.2.2⟩, h4.mod hm (hS g h6 h8), h5, h6, h7, h8, h9⟩
set_option maxRecDepth 100000 in
set_option maxHeartbeats 8000000 in
theorem with_any {X K : Nat → Prop} {B g : Nat} {w : World} {vl v : Value} {M : Mdl} {C : Cal} (h : OwF X B w vl g M) (hv : SlB K w v C.body) (hB : B ≤ w.heap.size) (hn : M.log.length ≤ 100000) (hnb : C.body.length ≤ 140737488351232) (hXw : ∀ b, X b → b < w.heap.size) :
    Calls Tryz.prog 51 #[.agg (mdL M vl (.slice (some ⟨g, 0, none⟩) 3 3)).toArray, .agg (calL C v).toArray] w fun e w' => (∃ v', e = .returned v' ∧ OwM X B w' v' (withM M C)) ∧ Mod (fun b => vl.ownBlock = some b) w w' := by
  have HXW := Lib.hid hXw
  clear hXw
  obtain ⟨⟨E, how, hE, hall⟩, hg1, hg2, hg3, hg4, hg5, hg6⟩ := h
  have hl : M.log.length = E.length := by rw [← hE, List.length_map]
  rw [hl] at hn
  have hvl := how.lt
  obtain ⟨A, c, rfl, hc, hc'⟩ := own_slice how
  obtain ⟨Db, cb, eb, hvr⟩ := id hv
  subst eb
  have HW1 : Hid (Blk ((w.alloc (.cells (mdL M (.slice A E.length c) (.slice (some ⟨g, 0, none⟩) 3 3)).toArray 45)).alloc (.cells (calL C (.slice Db C.body.length cb)).toArray 25)) w.heap.size 45 (mdL M (.slice A E.length c) (.slice (some ⟨g, 0, none⟩) 3 3)).toArray) := (Blk.new _ _ _).alloc _
  have hB2 : Blk ((w.alloc (.cells (mdL M (.slice A E.length c) (.slice (some ⟨g, 0, none⟩) 3 3)).toArray 45)).alloc (.cells (calL C (.slice Db C.body.length cb)).toArray 25)) (w.heap.size + 1) 25 (calL C (.slice Db C.body.length cb)).toArray := by
    have := Blk.new (w.alloc (.cells (mdL M (.slice A E.length c) (.slice (some ⟨g, 0, none⟩) 3 3)).toArray 45)) 25 (calL C (.slice Db C.body.length cb)).toArray
    rwa [alloc_size] at this
  have HW2 := Lib.hid hB2
  have hT : Below w.heap.size w ((w.alloc (.cells (mdL M (.slice A E.length c) (.slice (some ⟨g, 0, none⟩) 3 3)).toArray 45)).alloc (.cells (calL C (.slice Db C.body.length cb)).toArray 25)) := ((Below.refl _ _).alloc (Nat.le_refl _) _).alloc (by simp) _
  have HT := Lib.hid hT
  have HSZ : Hid (((w.alloc (.cells (mdL M (.slice A E.length c) (.slice (some ⟨g, 0, none⟩) 3 3)).toArray 45)).alloc (.cells (calL C (.slice Db C.body.length cb)).toArray 25)).heap.size = w.heap.size + 1 + 1) := by show _ = _; simp
  have HOW := Lib.hid how
  have HALL := Lib.hid hall
  have HEQ := Lib.hid hE
  have HV := Lib.hid hv
  have HN := Lib.hid hnb
  have HVL := Lib.hid hvl
  have HGG : Hid (Blk w g 22 (M.cur.map u64v).toArray ∧ M.cur.length = 3 ∧ B ≤ g ∧ (Value.slice A E.length c).ownBlock ≠ some g ∧ ¬ X g ∧ ∀ b, (Value.slice A E.length c).ownBlock = some b → ¬ X b) := ⟨hg1, hg2, hg3, hg4, hg5, hg6⟩
  have HGL : Hid (g < w.heap.size) := hg1.lt
  clear hB2 hT how hall hE hv hnb hvl hvr hg1 hg2 hg3 hg4 hg5 hg6
  go_enter Tryz.func51, Tryz.ntmps51
  go_wp2_with (refine wpList_alloc_blk rfl rfl zero_model ?_; rintro g3 w3 hgz hB3 hb3; refine Hid.out ?_)
  refine Lib.hid ?_
  have HG3 : Hid (g3 = w.heap.size + 1 + 1) := by
    show _ = _
    rw [← hgz]
    exact HSZ.out
  have HT3 := Lib.hid (below_call HT.out HT.out.size hb3)
  have HB13 := Lib.hid (HW1.out.below hb3 HW1.out.lt)
  have HB23 := Lib.hid (HW2.out.below hb3 HW2.out.lt)
  have HB33 := Lib.hid hB3
  clear hgz hb3 hB3 HW1 HW2 HT HSZ
  have c0 := (HB13.out.cell 0).trans (rfl : _ = some (Value.slice A E.length c))
  have d0 := (HB23.out.cell 0).trans (rfl : _ = some (Value.int .i64 C.cl))
  have d6 := (HB23.out.cell 6).trans (rfl : _ = some (Value.int .u64 (C.seq : Int)))
  have d8 := (HB23.out.cell 8).trans (rfl : _ = some (Value.slice Db C.body.length cb))
  have HLB : Hid (w.heap.size < w3.heap.size ∧ w.heap.size + 1 < w3.heap.size ∧ g3 < w3.heap.size) := ⟨HB13.out.lt, HB23.out.lt, HB33.out.lt⟩
  go_wp2_with fail
  refine PF.pf_begin (by kernel_rfl) ?_
  refine PF.pf_take0 0 (by kernel_rfl) rfl (fun _ _ _ _ _ h => h) (by kernel_rfl) (fun u => by go_simp; try rfl) ?_
  try simp only [Act.put, pz0, pz1, pz2]
  refine PF.pf_take1 1 (PF.Same (w.heap.size) _) (by kernel_rfl) rfl (fun _ _ _ _ _ h => h) (by kernel_rfl) (PF.Same.refl _ _) (fun u hu => by have hcu := hu.cell; go_simp; try rfl) ?_
  try simp only [Act.put, pz0, pz1, pz2]
  refine PF.pf_take0 2 (by kernel_rfl) rfl (fun _ _ _ _ _ h => h) (by kernel_rfl) (fun u => by go_simp; try rfl) ?_
  try simp only [Act.put, pz0, pz1, pz2]
  refine PF.pf_take1 3 (PF.Same ((w.heap.size+1)) _) (by kernel_rfl) rfl (fun _ _ _ _ _ h => h) (by kernel_rfl) (PF.Same.refl _ _) (fun u hu => by have hcu := hu.cell; go_simp; try rfl) ?_
  try simp only [Act.put, pz0, pz1, pz2]
  refine PF.pf_take0 4 (by kernel_rfl) rfl (fun _ _ _ _ _ h => h) (by kernel_rfl) (fun u => by go_simp; try rfl) ?_
  try simp only [Act.put, pz0, pz1, pz2]
  refine PF.pf_take1 5 (PF.Same ((w.heap.size+1)) _) (by kernel_rfl) rfl (fun _ _ _ _ _ h => h) (by kernel_rfl) (PF.Same.refl _ _) (fun u hu => by have hcu := hu.cell; go_simp; try rfl) ?_
  try simp only [Act.put, pz0, pz1, pz2]
  refine PF.pf_take0 6 (by kernel_rfl) rfl (fun _ _ _ _ _ h => h) (by kernel_rfl) (fun u => by go_simp; try rfl) ?_
  try simp only [Act.put, pz0, pz1, pz2]
  refine PF.pf_take1 7 (PF.Same ((w.heap.size+1)) _) (by kernel_rfl) rfl (fun _ _ _ _ _ h => h) (by kernel_rfl) (PF.Same.refl _ _) (fun u hu => by have hcu := hu.cell; go_simp; try rfl) ?_
  try simp only [Act.put, pz0, pz1, pz2]
  refine PF.pf_exec 8 (by kernel_rfl) rfl (by kernel_rfl) (fun K hK => ?_)
  go_simp
  refine (bcloneK_any ((HV.out.below HT3.out).below ((Below.refl _ _).drew)) (by have := HN.out; omega)).mono ?_
  rintro e w8 ⟨⟨v8, rfl, hv8⟩, hb8⟩
  have HT8 : Hid (Below w3.heap.size w3 w8) := ((Below.refl w3.heap.size w3).drew).trans hb8
  obtain ⟨A8, c8, e8, _⟩ := id hv8
  subst e8
  have HV8 := Lib.hid hv8
  clear hv8 hb8
  refine hK _ _ (by repeat (first | exact PF.owes_nil | refine PF.owes_left ?_ | refine PF.owes_no (by decide +kernel) ?_ | refine PF.owes_yes (by exact HT8.out.block _ (by have := HLB.out; omega)) ?_)) ?_
  clear hK K
  try simp only [Act.put, pz0, pz1, pz2]
  refine PF.pf_take0 9 (by kernel_rfl) rfl (fun _ _ _ _ _ h => h) (by kernel_rfl) (fun u => by go_simp; try rfl) ?_
  try simp only [Act.put, pz0, pz1, pz2]
  refine PF.pf_exec 10 (by kernel_rfl) rfl (by kernel_rfl) (fun K hK => ?_)
  go_simp
  refine hK _ _ (by repeat (first | exact PF.owes_nil | refine PF.owes_left ?_ | refine PF.owes_no (by decide +kernel) ?_ | refine PF.owes_yes (by exact ((below_new _ _).block _ (by have := HLB.out; have := HT8.out.size; omega)).trans (HT8.out.block _ (by have := HLB.out; omega))) ?_)) ?_
  clear hK K
  try simp only [Act.put, pz0, pz1, pz2]
  refine PF.pf_exec 11 (by kernel_rfl) rfl (by kernel_rfl) (fun K hK => ?_)
  refine app_wp entry_ty rfl (own_call HOW.out (((HT3.out.trans (HT8.out.mono HT3.out.size)).trans ((below_new w8 (.cells #[.int .i64 C.cl, .int .u64 (C.seq : Int), .slice A8 C.body.length c8] 73)).mono (Nat.le_trans HT3.out.size HT8.out.size))))) rfl (reads_blockN w8 73 [.int .i64 C.cl, .int .u64 (C.seq : Int), .slice A8 C.body.length c8] 3 rfl) rfl (by intro u hu; simp only [List.mem_cons, List.not_mem_nil, or_false] at hu; rcases hu with rfl | rfl | rfl <;> rfl) (by omega) (by have h1 := HT3.out.size; have h2 := HT8.out.size; rw [alloc_size]; omega) ?_
  intro v11 w11 ho11 hg11 hv11
  obtain ⟨A11, c11, e11, _⟩ := own_slice ho11
  subst e11
  have HO11 := Lib.hid ho11
  have HM11 := Lib.hid (mod_grownO hg11)
  have HV11 := Lib.hid hv11
  have HB11 : Hid (Blk w11 w.heap.size 45 (mdL M (.slice A E.length c) (.slice (some ⟨g, 0, none⟩) 3 3)).toArray) := ((HB13.out.below HT8.out HLB.out.1).alloc _).mod HM11.out (fun e => by have := (HVL.out _ e).2; omega)
  have c11' := (HB11.out.cell 0).trans (rfl : _ = some (Value.slice A E.length c))
  have f11 := HB11.out.free 0
  clear ho11 hg11 hv11
  refine hK _ _ (by repeat (first | exact PF.owes_nil | refine PF.owes_left ?_ | refine PF.owes_no (by decide +kernel) ?_ | refine PF.owes_yes (by first | rfl | assumption | go_simp) ?_)) ?_
  clear hK K
  try simp only [Act.put, pz0, pz1, pz2]
  refine PF.pf_take0 12 (by kernel_rfl) rfl (fun _ _ _ _ _ h => h) (by kernel_rfl) (fun u => by go_simp; try rfl) ?_
  try simp only [Act.put, pz0, pz1, pz2]
  refine PF.pf_exec 13 (by kernel_rfl) rfl (by kernel_rfl) (fun K hK => ?_)
  go_simp
  refine hK _ _ (by repeat (first | exact PF.owes_nil | refine PF.owes_left ?_ | refine PF.owes_no (by decide +kernel) ?_ | refine PF.owes_yes (by first | rfl | assumption | go_simp) ?_)) ?_
  clear hK K
  try simp only [Act.put, pz0, pz1, pz2]
  refine PF.pf_done (by kernel_rfl) ?_
  have hb12 : Blk (w11.setCell ⟨w.heap.size, 0, none⟩ (.slice A11 (E.length + 1) c11)) w.heap.size 45 (mdL (withM M C) (.slice A11 (E.length + 1) c11) (.slice (some ⟨g, 0, none⟩) 3 3)).toArray := HB11.out.put 0 _
  have hm12 : Mod (fun b => b = w.heap.size) w11 (w11.setCell ⟨w.heap.size, 0, none⟩ (.slice A11 (E.length + 1) c11)) := Mod.set (S := fun b => b = w.heap.size) (Mod.refl _ _) (p := ⟨w.heap.size, 0, none⟩) (fun _ => rfl) _
  have HG11 : Hid (Blk w11 g3 45 (mdL zMdl (.slice none 0 0) (.slice none 0 0)).toArray) := ((HB33.out.below HT8.out HLB.out.2.2).alloc _).mod HM11.out (fun e => by have := (HVL.out _ e).2; have := HG3.out; omega)
  have HG12 := Lib.hid (HG11.out.mod hm12 fun e => by have := HG3.out; omega)
  have HB12 := Lib.hid hb12
  have HM12 := Lib.hid hm12
  clear hb12 hm12 HG11
  go_wp2_with (refine wpList_load_blk rfl (ty := 45) rfl rfl HB12.out Tryz.underlying45 rfl (info_model rfl) ?_; refine Hid.out ?_)
  refine Lib.hid ?_
  go_wp2_with (refine wpList_store_blk rfl rfl rfl rfl HG12.out rfl (info_model rfl) (mdL_one rfl rfl) ?_; rintro w13 hB13 hm13; refine Hid.out ?_)
  refine Lib.hid ?_
  have HB13 := Lib.hid hB13
  have HM13 := Lib.hid hm13
  clear hB13 hm13
  go_wp2_with fail
  refine bodyPost_ret (results_c Tryz.results51 _ HB13.out rfl Tryz.underlying45 rfl (info_model rfl)) rfl ?_
  have h3 := HT3.out.size
  have h8 := HT8.out.size
  have hg3 := HG3.out
  have hgl := HGL.out
  have hlb := HLB.out
  have HX13 : Mod (fun b => b = w.heap.size ∨ b = g3) w11 w13 := (HM12.out.mono fun b _ h => .inl h).trans (HM13.out.mono fun b _ h => .inr h)
  have h9 : Below w.heap.size w (w8.alloc (.cells #[.int .i64 C.cl, .int .u64 (C.seq : Int), .slice A8 C.body.length c8] 73)) := (HT3.out.trans (HT8.out.mono h3)).trans ((below_new _ _).mono (by omega))
  have hsz9 : (w8.alloc (.cells #[.int .i64 C.cl, .int .u64 (C.seq : Int), .slice A8 C.body.length c8] 73)).heap.size = w8.heap.size + 1 := alloc_size _ _
  have hnew : ∀ b, (Value.slice A11 (E.length + 1) c11).ownBlock = some b → (Value.slice A E.length c).ownBlock = some b ∨ b = w8.heap.size + 1 := fun b hb => by
    rcases HV11.out with e | e
    · exact .inl (e ▸ hb)
    · rw [e, hsz9] at hb
      injection hb with hb
      exact .inr hb.symm
  obtain ⟨q1, q2, q3, q4, q5, q6⟩ := HGG.out
  refine ⟨⟨_, rfl, _, g, rfl, ⟨E ++ [(⟨C.cl, C.seq, C.body⟩, .slice A8 C.body.length c8)], ?_, ?_, fun p hp => ?_⟩, ?_, q2, q3, fun e => ?_, q5, fun b hb e => ?_⟩, ?_⟩
  · have h1 := own_mod HO11.out HX13 fun b hb e => by
      rcases hnew b hb with h | h
      · have := (HVL.out _ h).2; omega
      · omega
    rw [List.length_append, List.flatMap_append]
    simpa [enL] using h1
  · rw [List.map_append, HEQ.out]
    rfl
  · rcases List.mem_append.1 hp with hp | hp
    · have h1 := ((HALL.out p hp).weak (K' := fun b => (B ≤ b ∧ (Value.slice A E.length c).ownBlock ≠ some b ∧ b ≠ g ∧ ¬ X b) ∧ b < w.heap.size) fun b hb h => ⟨h, hb⟩).below h9
      have h2 := (h1.mod HM11.out fun b hb e => hb.1.2.1 e).mod HX13 fun b hb e => by have := hb.2; omega
      refine h2.weak fun b _ h => ⟨h.1.1, fun e => ?_, h.1.2.2⟩
      rcases hnew b e with h' | h'
      · exact h.1.2.1 h'
      · have := h.2; omega
    · simp only [List.mem_singleton] at hp
      subst hp
      have h1 := (HV8.out.weak (K' := fun b => w3.heap.size ≤ b ∧ b < w8.heap.size) fun b hb h => ⟨h, hb⟩).below (below_new w8 (.cells #[.int .i64 C.cl, .int .u64 (C.seq : Int), .slice A8 C.body.length c8] 73))
      have h2 := (h1.mod HM11.out fun b hb e => by have := (HVL.out _ e).2; have := hb.1; omega).mod HX13 fun b hb e => by have := hb.1; omega
      refine h2.weak fun b _ h => ⟨by have := h.1; omega, fun e => ?_, by have := h.1; omega, fun e => by have := HXW.out _ e; have := h.1; omega⟩
      rcases hnew b e with h' | h'
      · have := (HVL.out _ h').2; have := h.1; omega
      · have := h.2; omega
  · exact ((q1.below h9 hgl).mod HM11.out fun e => q4 e).mod HX13 fun e => by omega
  · rcases hnew g e with h | h
    · exact q4 h
    · omega
  · rcases hnew b hb with h | h
    · exact q6 b h e
    · have := HXW.out _ e; omega
  · exact ((mod_below h9).trans HM11.out).join HX13 fun b hb e => by omega
end Go.Proofs.YtpjmolnkmlpfeaaGreatDoor
