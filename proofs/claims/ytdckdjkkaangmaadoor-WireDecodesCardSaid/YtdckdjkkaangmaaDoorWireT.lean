/- A packet with its kind's field alone, walked. -/
import Derived.Test.YtdckdjkkaangmaaDoorWireS
namespace Go.Proofs.YtdckdjkkaangmaaDoor
set_option linter.unusedVariables false
set_option linter.unusedSimpArgs false
set_option maxRecDepth 100000
open Go.RowKit

set_option maxRecDepth 100000 in
set_option maxHeartbeats 16000000 in
theorem alone_ask {w : World} {cs : Array Value} {P : Pk} (hP : PkV w cs P) (hk : P.n 0 = 1) : Calls Tryd.prog 70 #[.agg cs] w fun e w' => e = .returned (.agg (aloneC cs (P.n 0))) ∧ Below w.heap.size w w' := by
  have kA2 : Blk ((w.alloc (.cells cs 44)).alloc (.cells zPk 44)) w.heap.size 44 cs := (Blk.new w _ cs).alloc _
  have kA3 : Blk (((w.alloc (.cells cs 44)).alloc (.cells zPk 44)).alloc (.cells zPk 44)) w.heap.size 44 cs := kA2.alloc _
  have kB3 : Blk (((w.alloc (.cells cs 44)).alloc (.cells zPk 44)).alloc (.cells zPk 44)) (w.heap.size + 1) 44 zPk := by
    have h := (Blk.new (w.alloc (.cells cs 44)) 44 zPk).alloc (.cells zPk 44)
    rw [alloc_size] at h
    exact h
  have kC3 : Blk (((w.alloc (.cells cs 44)).alloc (.cells zPk 44)).alloc (.cells zPk 44)) (w.heap.size + 1 + 1) 44 zPk := by
    have h := Blk.new ((w.alloc (.cells cs 44)).alloc (.cells zPk 44)) 44 zPk
    rw [alloc_size, alloc_size] at h
    exact h
  have hz1 : (zPk.setIfInBounds 0 (.int .i64 1)).size = 56 := by rw [Array.size_setIfInBounds]; rfl
  have t1 : (((w.alloc (.cells cs 44)).alloc (.cells zPk 44)).alloc (.cells zPk 44)).there (w.heap.size + 1 + 1) 0 (zPk.setIfInBounds 0 (.int .i64 1)).size := kC3.there (by rw [hz1]; exact Nat.le_refl _)
  have one1 : (zPk.setIfInBounds 0 (.int .i64 1)).all (·.oneCell') = true := Array.all_eq_true_iff_forall_mem.2 fun v hv => by
    rcases Array.mem_or_eq_of_mem_setIfInBounds hv with hv | rfl
    · exact zPk_one v hv
    · rfl
  have m4 := mod_setCells (g := (w.heap.size + 1 + 1)) (zPk.toList.set 0 (.int .i64 1)) (((w.alloc (.cells cs 44)).alloc (.cells zPk 44)).alloc (.cells zPk 44)) 0
  have hzl : putL zPk 0 (zPk.toList.set 0 (.int .i64 1)) = (zPk.setIfInBounds 0 (.int .i64 1)) := by rw [← Array.toList_setIfInBounds]; exact putL_all (by rw [hz1]; rfl)
  have kA4 : Blk ((((w.alloc (.cells cs 44)).alloc (.cells zPk 44)).alloc (.cells zPk 44)).setCells (w.heap.size + 1 + 1) 0 (zPk.toList.set 0 (.int .i64 1))) w.heap.size 44 cs := kA3.mod m4 (by omega)
  have kB4 : Blk ((((w.alloc (.cells cs 44)).alloc (.cells zPk 44)).alloc (.cells zPk 44)).setCells (w.heap.size + 1 + 1) 0 (zPk.toList.set 0 (.int .i64 1))) (w.heap.size + 1) 44 zPk := kB3.mod m4 (by omega)
  have kC4 : Blk ((((w.alloc (.cells cs 44)).alloc (.cells zPk 44)).alloc (.cells zPk 44)).setCells (w.heap.size + 1 + 1) 0 (zPk.toList.set 0 (.int .i64 1))) (w.heap.size + 1 + 1) 44 (zPk.setIfInBounds 0 (.int .i64 1)) := by
    have h := kC3.puts (zPk.toList.set 0 (.int .i64 1)) 0
    rw [hzl] at h
    exact h
  have hF : (aloneC cs 1).size = 56 := aloneC_size _ _
  have z0 := (kA2.cell 0).trans hP.kind.1
  have a0 := (kA4.cell 0).trans hP.kind.1
  rw [hk] at z0 a0
  have hvl : (rng cs 1 6).length = 6 := by unfold rng; rw [List.length_take, List.length_drop, Array.length_toList, hP.size]; decide
  have hi1 : (Tryd.prog.info? 28).map (·.size) = some (rng cs 1 6).length := by rw [hvl]; kernel_rfl
  have r1 : ((((w.alloc (.cells cs 44)).alloc (.cells zPk 44)).alloc (.cells zPk 44)).setCells (w.heap.size + 1 + 1) 0 (zPk.toList.set 0 (.int .i64 1))).rangeAt w.heap.size 1 (rng cs 1 6) := kA4.range _ _
  have t2 : ((((w.alloc (.cells cs 44)).alloc (.cells zPk 44)).alloc (.cells zPk 44)).setCells (w.heap.size + 1 + 1) 0 (zPk.toList.set 0 (.int .i64 1))).there (w.heap.size + 1 + 1) 1 (rng cs 1 6).length := kC4.there (by rw [hvl, hz1]; omega)
  have one2 : ∀ v ∈ (rng cs 1 6), v.oneCell' = true := fun v hv => hP.one v (by unfold rng at hv; exact List.mem_of_mem_drop (List.mem_of_mem_take hv))
  have m5 := mod_setCells (g := (w.heap.size + 1 + 1)) (rng cs 1 6) ((((w.alloc (.cells cs 44)).alloc (.cells zPk 44)).alloc (.cells zPk 44)).setCells (w.heap.size + 1 + 1) 0 (zPk.toList.set 0 (.int .i64 1))) 1
  have kC5 : Blk (((((w.alloc (.cells cs 44)).alloc (.cells zPk 44)).alloc (.cells zPk 44)).setCells (w.heap.size + 1 + 1) 0 (zPk.toList.set 0 (.int .i64 1))).setCells (w.heap.size + 1 + 1) 1 (rng cs 1 6)) (w.heap.size + 1 + 1) 44 (aloneC cs 1) := kC4.puts (rng cs 1 6) 1
  have kB5 : Blk (((((w.alloc (.cells cs 44)).alloc (.cells zPk 44)).alloc (.cells zPk 44)).setCells (w.heap.size + 1 + 1) 0 (zPk.toList.set 0 (.int .i64 1))).setCells (w.heap.size + 1 + 1) 1 (rng cs 1 6)) (w.heap.size + 1) 44 zPk := kB4.mod m5 (by omega)
  have hi2 : (Tryd.prog.info? 44).map (·.size) = some (aloneC cs 1).toList.length := by rw [Array.length_toList, hF]; exact info_pk
  have hi0 : (Tryd.prog.info? 44).map (·.size) = some (zPk.setIfInBounds 0 (.int .i64 1)).size := by rw [hz1]; exact info_pk
  have r2 : (((((w.alloc (.cells cs 44)).alloc (.cells zPk 44)).alloc (.cells zPk 44)).setCells (w.heap.size + 1 + 1) 0 (zPk.toList.set 0 (.int .i64 1))).setCells (w.heap.size + 1 + 1) 1 (rng cs 1 6)).rangeAt (w.heap.size + 1 + 1) 0 (aloneC cs 1).toList := kC5.rangeAll
  have t3 : (((((w.alloc (.cells cs 44)).alloc (.cells zPk 44)).alloc (.cells zPk 44)).setCells (w.heap.size + 1 + 1) 0 (zPk.toList.set 0 (.int .i64 1))).setCells (w.heap.size + 1 + 1) 1 (rng cs 1 6)).there (w.heap.size + 1) 0 (aloneC cs 1).toList.length := kB5.there (by rw [Array.length_toList, hF]; exact Nat.le_refl _)
  have one3 : ∀ v ∈ (aloneC cs 1).toList, v.oneCell' = true := (by have h := hP.alone.one; rw [hk] at h; exact h)
  have kB6 : Blk ((((((w.alloc (.cells cs 44)).alloc (.cells zPk 44)).alloc (.cells zPk 44)).setCells (w.heap.size + 1 + 1) 0 (zPk.toList.set 0 (.int .i64 1))).setCells (w.heap.size + 1 + 1) 1 (rng cs 1 6)).setCells (w.heap.size + 1) 0 (aloneC cs 1).toList) (w.heap.size + 1) 44 (aloneC cs 1) := by
    have h := kB5.puts (aloneC cs 1).toList 0
    rw [putL_all (by rw [hF]; rfl)] at h
    exact h
  have hbel : Below w.heap.size w ((((((w.alloc (.cells cs 44)).alloc (.cells zPk 44)).alloc (.cells zPk 44)).setCells (w.heap.size + 1 + 1) 0 (zPk.toList.set 0 (.int .i64 1))).setCells (w.heap.size + 1 + 1) 1 (rng cs 1 6)).setCells (w.heap.size + 1) 0 (aloneC cs 1).toList) := by
    have hb0 : Below w.heap.size w (((w.alloc (.cells cs 44)).alloc (.cells zPk 44)).alloc (.cells zPk 44)) := ((below_new w _).alloc (by simp) _).alloc (by simp; omega) _
    have hm : Mod (fun b => b = (w.heap.size + 1) ∨ b = (w.heap.size + 1 + 1)) (((w.alloc (.cells cs 44)).alloc (.cells zPk 44)).alloc (.cells zPk 44)) ((((((w.alloc (.cells cs 44)).alloc (.cells zPk 44)).alloc (.cells zPk 44)).setCells (w.heap.size + 1 + 1) 0 (zPk.toList.set 0 (.int .i64 1))).setCells (w.heap.size + 1 + 1) 1 (rng cs 1 6)).setCells (w.heap.size + 1) 0 (aloneC cs 1).toList) := ((m4.mono fun b _ e => .inr e).trans (m5.mono fun b _ e => .inr e)).trans ((mod_setCells (g := (w.heap.size + 1)) (aloneC cs 1).toList (((((w.alloc (.cells cs 44)).alloc (.cells zPk 44)).alloc (.cells zPk 44)).setCells (w.heap.size + 1 + 1) 0 (zPk.toList.set 0 (.int .i64 1))).setCells (w.heap.size + 1 + 1) 1 (rng cs 1 6)) 0).mono fun b _ e => .inl e)
    exact hb0.trans (hm.to_below (by simp; omega) fun b hb e => by rcases e with e | e <;> omega)
  have hP0 := Lib.hid hP
  have HT1 := Lib.hid t1
  have HO1 := Lib.hid one1
  have HI0 := Lib.hid hi0
  have HI2 := Lib.hid hi2
  have HR2 := Lib.hid r2
  have HT3 := Lib.hid t3
  have HO3 := Lib.hid one3
  have HB6 := Lib.hid kB6
  have HBEL := Lib.hid hbel
  have HR1 := Lib.hid r1
  have HT2 := Lib.hid t2
  have HO2 := Lib.hid one2
  have HI1 := Lib.hid hi1
  have HK := Lib.hid hk
  clear r1 t2 one2 hi1 hvl
  clear t1 one1 hi0 hi2 r2 t3 one3 kB6 hbel
  clear hP kA2 kA3 kB3 kC3 m4 kA4 kB4 kC4 kC5 kB5 m5 hF hz1 hk
  go_enter Tryd.func70, Tryd.ntmps70
  go_wp2_with (refine wpList_alloc_z rfl rfl zero_pk ?_; refine Hid.out ?_)
  refine Lib.hid ?_
  go_wp2_with (refine wpList_build_pk (k := 1) rfl ?_; refine Hid.out ?_)
  refine Lib.hid ?_
  go_wp2_with (refine wpList_alloc_z rfl rfl zero_pk ?_; refine Hid.out ?_)
  refine Lib.hid ?_
  go_wp2_with (refine wpList_store_mid rfl 44 _ _ rfl (w.heap.size + 1 + 1) 0 (zPk.setIfInBounds 0 (.int .i64 1)) rfl rfl HT1.out HI0.out HO1.out ?_; refine Hid.out ?_)
  refine Lib.hid ?_
  go_wp2_with (refine wpList_load_rg rfl (ty := 28) rfl rfl HR1.out Tryd.underlying28 rfl HI1.out ?_; refine Hid.out ?_)
  refine Lib.hid ?_
  go_wp2_with (refine wpList_store_rg rfl (ty := 28) rfl rfl rfl HT2.out HI1.out HO2.out ?_; refine Hid.out ?_)
  refine Lib.hid ?_
  go_wp2_with (refine wpList_load_rg rfl (ty := 44) rfl rfl HR2.out Tryd.underlying44 rfl HI2.out ?_; refine Hid.out ?_)
  refine Lib.hid ?_
  go_wp2_with (refine wpList_store_rg rfl (ty := 44) rfl rfl rfl HT3.out HI2.out HO3.out ?_; refine Hid.out ?_)
  refine Lib.hid ?_
  go_wp2_with fail
  refine bodyPost_ret (v := .agg (aloneC cs 1)) (results_cell_row Tryd.results70 _ _ (w.heap.size + 1) _ _ _ _ rfl HB6.out Tryd.underlying44 rfl (by rw [aloneC_size]; exact info_pk)) rfl ?_
  exact ⟨by rw [HK.out], HBEL.out⟩
set_option maxRecDepth 100000 in
set_option maxHeartbeats 16000000 in
theorem alone_says {w : World} {cs : Array Value} {P : Pk} (hP : PkV w cs P) (hk : P.n 0 = 2) : Calls Tryd.prog 70 #[.agg cs] w fun e w' => e = .returned (.agg (aloneC cs (P.n 0))) ∧ Below w.heap.size w w' := by
  have kA2 : Blk ((w.alloc (.cells cs 44)).alloc (.cells zPk 44)) w.heap.size 44 cs := (Blk.new w _ cs).alloc _
  have kA3 : Blk (((w.alloc (.cells cs 44)).alloc (.cells zPk 44)).alloc (.cells zPk 44)) w.heap.size 44 cs := kA2.alloc _
  have kB3 : Blk (((w.alloc (.cells cs 44)).alloc (.cells zPk 44)).alloc (.cells zPk 44)) (w.heap.size + 1) 44 zPk := by
    have h := (Blk.new (w.alloc (.cells cs 44)) 44 zPk).alloc (.cells zPk 44)
    rw [alloc_size] at h
    exact h
  have kC3 : Blk (((w.alloc (.cells cs 44)).alloc (.cells zPk 44)).alloc (.cells zPk 44)) (w.heap.size + 1 + 1) 44 zPk := by
    have h := Blk.new ((w.alloc (.cells cs 44)).alloc (.cells zPk 44)) 44 zPk
    rw [alloc_size, alloc_size] at h
    exact h
  have hz1 : (zPk.setIfInBounds 0 (.int .i64 2)).size = 56 := by rw [Array.size_setIfInBounds]; rfl
  have t1 : (((w.alloc (.cells cs 44)).alloc (.cells zPk 44)).alloc (.cells zPk 44)).there (w.heap.size + 1 + 1) 0 (zPk.setIfInBounds 0 (.int .i64 2)).size := kC3.there (by rw [hz1]; exact Nat.le_refl _)
  have one1 : (zPk.setIfInBounds 0 (.int .i64 2)).all (·.oneCell') = true := Array.all_eq_true_iff_forall_mem.2 fun v hv => by
    rcases Array.mem_or_eq_of_mem_setIfInBounds hv with hv | rfl
    · exact zPk_one v hv
    · rfl
  have m4 := mod_setCells (g := (w.heap.size + 1 + 1)) (zPk.toList.set 0 (.int .i64 2)) (((w.alloc (.cells cs 44)).alloc (.cells zPk 44)).alloc (.cells zPk 44)) 0
  have hzl : putL zPk 0 (zPk.toList.set 0 (.int .i64 2)) = (zPk.setIfInBounds 0 (.int .i64 2)) := by rw [← Array.toList_setIfInBounds]; exact putL_all (by rw [hz1]; rfl)
  have kA4 : Blk ((((w.alloc (.cells cs 44)).alloc (.cells zPk 44)).alloc (.cells zPk 44)).setCells (w.heap.size + 1 + 1) 0 (zPk.toList.set 0 (.int .i64 2))) w.heap.size 44 cs := kA3.mod m4 (by omega)
  have kB4 : Blk ((((w.alloc (.cells cs 44)).alloc (.cells zPk 44)).alloc (.cells zPk 44)).setCells (w.heap.size + 1 + 1) 0 (zPk.toList.set 0 (.int .i64 2))) (w.heap.size + 1) 44 zPk := kB3.mod m4 (by omega)
  have kC4 : Blk ((((w.alloc (.cells cs 44)).alloc (.cells zPk 44)).alloc (.cells zPk 44)).setCells (w.heap.size + 1 + 1) 0 (zPk.toList.set 0 (.int .i64 2))) (w.heap.size + 1 + 1) 44 (zPk.setIfInBounds 0 (.int .i64 2)) := by
    have h := kC3.puts (zPk.toList.set 0 (.int .i64 2)) 0
    rw [hzl] at h
    exact h
  have hF : (aloneC cs 2).size = 56 := aloneC_size _ _
  have z0 := (kA2.cell 0).trans hP.kind.1
  have a0 := (kA4.cell 0).trans hP.kind.1
  rw [hk] at z0 a0
  have hvl : (rng cs 7 12).length = 12 := by unfold rng; rw [List.length_take, List.length_drop, Array.length_toList, hP.size]; decide
  have hi1 : (Tryd.prog.info? 30).map (·.size) = some (rng cs 7 12).length := by rw [hvl]; kernel_rfl
  have r1 : ((((w.alloc (.cells cs 44)).alloc (.cells zPk 44)).alloc (.cells zPk 44)).setCells (w.heap.size + 1 + 1) 0 (zPk.toList.set 0 (.int .i64 2))).rangeAt w.heap.size 7 (rng cs 7 12) := kA4.range _ _
  have t2 : ((((w.alloc (.cells cs 44)).alloc (.cells zPk 44)).alloc (.cells zPk 44)).setCells (w.heap.size + 1 + 1) 0 (zPk.toList.set 0 (.int .i64 2))).there (w.heap.size + 1 + 1) 7 (rng cs 7 12).length := kC4.there (by rw [hvl, hz1]; omega)
  have one2 : ∀ v ∈ (rng cs 7 12), v.oneCell' = true := fun v hv => hP.one v (by unfold rng at hv; exact List.mem_of_mem_drop (List.mem_of_mem_take hv))
  have m5 := mod_setCells (g := (w.heap.size + 1 + 1)) (rng cs 7 12) ((((w.alloc (.cells cs 44)).alloc (.cells zPk 44)).alloc (.cells zPk 44)).setCells (w.heap.size + 1 + 1) 0 (zPk.toList.set 0 (.int .i64 2))) 7
  have kC5 : Blk (((((w.alloc (.cells cs 44)).alloc (.cells zPk 44)).alloc (.cells zPk 44)).setCells (w.heap.size + 1 + 1) 0 (zPk.toList.set 0 (.int .i64 2))).setCells (w.heap.size + 1 + 1) 7 (rng cs 7 12)) (w.heap.size + 1 + 1) 44 (aloneC cs 2) := kC4.puts (rng cs 7 12) 7
  have kB5 : Blk (((((w.alloc (.cells cs 44)).alloc (.cells zPk 44)).alloc (.cells zPk 44)).setCells (w.heap.size + 1 + 1) 0 (zPk.toList.set 0 (.int .i64 2))).setCells (w.heap.size + 1 + 1) 7 (rng cs 7 12)) (w.heap.size + 1) 44 zPk := kB4.mod m5 (by omega)
  have hi2 : (Tryd.prog.info? 44).map (·.size) = some (aloneC cs 2).toList.length := by rw [Array.length_toList, hF]; exact info_pk
  have hi0 : (Tryd.prog.info? 44).map (·.size) = some (zPk.setIfInBounds 0 (.int .i64 2)).size := by rw [hz1]; exact info_pk
  have r2 : (((((w.alloc (.cells cs 44)).alloc (.cells zPk 44)).alloc (.cells zPk 44)).setCells (w.heap.size + 1 + 1) 0 (zPk.toList.set 0 (.int .i64 2))).setCells (w.heap.size + 1 + 1) 7 (rng cs 7 12)).rangeAt (w.heap.size + 1 + 1) 0 (aloneC cs 2).toList := kC5.rangeAll
  have t3 : (((((w.alloc (.cells cs 44)).alloc (.cells zPk 44)).alloc (.cells zPk 44)).setCells (w.heap.size + 1 + 1) 0 (zPk.toList.set 0 (.int .i64 2))).setCells (w.heap.size + 1 + 1) 7 (rng cs 7 12)).there (w.heap.size + 1) 0 (aloneC cs 2).toList.length := kB5.there (by rw [Array.length_toList, hF]; exact Nat.le_refl _)
  have one3 : ∀ v ∈ (aloneC cs 2).toList, v.oneCell' = true := (by have h := hP.alone.one; rw [hk] at h; exact h)
  have kB6 : Blk ((((((w.alloc (.cells cs 44)).alloc (.cells zPk 44)).alloc (.cells zPk 44)).setCells (w.heap.size + 1 + 1) 0 (zPk.toList.set 0 (.int .i64 2))).setCells (w.heap.size + 1 + 1) 7 (rng cs 7 12)).setCells (w.heap.size + 1) 0 (aloneC cs 2).toList) (w.heap.size + 1) 44 (aloneC cs 2) := by
    have h := kB5.puts (aloneC cs 2).toList 0
    rw [putL_all (by rw [hF]; rfl)] at h
    exact h
  have hbel : Below w.heap.size w ((((((w.alloc (.cells cs 44)).alloc (.cells zPk 44)).alloc (.cells zPk 44)).setCells (w.heap.size + 1 + 1) 0 (zPk.toList.set 0 (.int .i64 2))).setCells (w.heap.size + 1 + 1) 7 (rng cs 7 12)).setCells (w.heap.size + 1) 0 (aloneC cs 2).toList) := by
    have hb0 : Below w.heap.size w (((w.alloc (.cells cs 44)).alloc (.cells zPk 44)).alloc (.cells zPk 44)) := ((below_new w _).alloc (by simp) _).alloc (by simp; omega) _
    have hm : Mod (fun b => b = (w.heap.size + 1) ∨ b = (w.heap.size + 1 + 1)) (((w.alloc (.cells cs 44)).alloc (.cells zPk 44)).alloc (.cells zPk 44)) ((((((w.alloc (.cells cs 44)).alloc (.cells zPk 44)).alloc (.cells zPk 44)).setCells (w.heap.size + 1 + 1) 0 (zPk.toList.set 0 (.int .i64 2))).setCells (w.heap.size + 1 + 1) 7 (rng cs 7 12)).setCells (w.heap.size + 1) 0 (aloneC cs 2).toList) := ((m4.mono fun b _ e => .inr e).trans (m5.mono fun b _ e => .inr e)).trans ((mod_setCells (g := (w.heap.size + 1)) (aloneC cs 2).toList (((((w.alloc (.cells cs 44)).alloc (.cells zPk 44)).alloc (.cells zPk 44)).setCells (w.heap.size + 1 + 1) 0 (zPk.toList.set 0 (.int .i64 2))).setCells (w.heap.size + 1 + 1) 7 (rng cs 7 12)) 0).mono fun b _ e => .inl e)
    exact hb0.trans (hm.to_below (by simp; omega) fun b hb e => by rcases e with e | e <;> omega)
  have hP0 := Lib.hid hP
  have HT1 := Lib.hid t1
  have HO1 := Lib.hid one1
  have HI0 := Lib.hid hi0
  have HI2 := Lib.hid hi2
  have HR2 := Lib.hid r2
  have HT3 := Lib.hid t3
  have HO3 := Lib.hid one3
  have HB6 := Lib.hid kB6
  have HBEL := Lib.hid hbel
  have HR1 := Lib.hid r1
  have HT2 := Lib.hid t2
  have HO2 := Lib.hid one2
  have HI1 := Lib.hid hi1
  have HK := Lib.hid hk
  clear r1 t2 one2 hi1 hvl
  clear t1 one1 hi0 hi2 r2 t3 one3 kB6 hbel
  clear hP kA2 kA3 kB3 kC3 m4 kA4 kB4 kC4 kC5 kB5 m5 hF hz1 hk
  go_enter Tryd.func70, Tryd.ntmps70
  go_wp2_with (refine wpList_alloc_z rfl rfl zero_pk ?_; refine Hid.out ?_)
  refine Lib.hid ?_
  go_wp2_with (refine wpList_build_pk (k := 2) rfl ?_; refine Hid.out ?_)
  refine Lib.hid ?_
  go_wp2_with (refine wpList_alloc_z rfl rfl zero_pk ?_; refine Hid.out ?_)
  refine Lib.hid ?_
  go_wp2_with (refine wpList_store_mid rfl 44 _ _ rfl (w.heap.size + 1 + 1) 0 (zPk.setIfInBounds 0 (.int .i64 2)) rfl rfl HT1.out HI0.out HO1.out ?_; refine Hid.out ?_)
  refine Lib.hid ?_
  go_wp2_with (refine wpList_load_rg rfl (ty := 30) rfl rfl HR1.out Tryd.underlying30 rfl HI1.out ?_; refine Hid.out ?_)
  refine Lib.hid ?_
  go_wp2_with (refine wpList_store_rg rfl (ty := 30) rfl rfl rfl HT2.out HI1.out HO2.out ?_; refine Hid.out ?_)
  refine Lib.hid ?_
  go_wp2_with (refine wpList_load_rg rfl (ty := 44) rfl rfl HR2.out Tryd.underlying44 rfl HI2.out ?_; refine Hid.out ?_)
  refine Lib.hid ?_
  go_wp2_with (refine wpList_store_rg rfl (ty := 44) rfl rfl rfl HT3.out HI2.out HO3.out ?_; refine Hid.out ?_)
  refine Lib.hid ?_
  go_wp2_with fail
  refine bodyPost_ret (v := .agg (aloneC cs 2)) (results_cell_row Tryd.results70 _ _ (w.heap.size + 1) _ _ _ _ rfl HB6.out Tryd.underlying44 rfl (by rw [aloneC_size]; exact info_pk)) rfl ?_
  exact ⟨by rw [HK.out], HBEL.out⟩
set_option maxRecDepth 100000 in
set_option maxHeartbeats 16000000 in
theorem alone_req {w : World} {cs : Array Value} {P : Pk} (hP : PkV w cs P) (hk : P.n 0 = 3) : Calls Tryd.prog 70 #[.agg cs] w fun e w' => e = .returned (.agg (aloneC cs (P.n 0))) ∧ Below w.heap.size w w' := by
  have kA2 : Blk ((w.alloc (.cells cs 44)).alloc (.cells zPk 44)) w.heap.size 44 cs := (Blk.new w _ cs).alloc _
  have kA3 : Blk (((w.alloc (.cells cs 44)).alloc (.cells zPk 44)).alloc (.cells zPk 44)) w.heap.size 44 cs := kA2.alloc _
  have kB3 : Blk (((w.alloc (.cells cs 44)).alloc (.cells zPk 44)).alloc (.cells zPk 44)) (w.heap.size + 1) 44 zPk := by
    have h := (Blk.new (w.alloc (.cells cs 44)) 44 zPk).alloc (.cells zPk 44)
    rw [alloc_size] at h
    exact h
  have kC3 : Blk (((w.alloc (.cells cs 44)).alloc (.cells zPk 44)).alloc (.cells zPk 44)) (w.heap.size + 1 + 1) 44 zPk := by
    have h := Blk.new ((w.alloc (.cells cs 44)).alloc (.cells zPk 44)) 44 zPk
    rw [alloc_size, alloc_size] at h
    exact h
  have hz1 : (zPk.setIfInBounds 0 (.int .i64 3)).size = 56 := by rw [Array.size_setIfInBounds]; rfl
  have t1 : (((w.alloc (.cells cs 44)).alloc (.cells zPk 44)).alloc (.cells zPk 44)).there (w.heap.size + 1 + 1) 0 (zPk.setIfInBounds 0 (.int .i64 3)).size := kC3.there (by rw [hz1]; exact Nat.le_refl _)
  have one1 : (zPk.setIfInBounds 0 (.int .i64 3)).all (·.oneCell') = true := Array.all_eq_true_iff_forall_mem.2 fun v hv => by
    rcases Array.mem_or_eq_of_mem_setIfInBounds hv with hv | rfl
    · exact zPk_one v hv
    · rfl
  have m4 := mod_setCells (g := (w.heap.size + 1 + 1)) (zPk.toList.set 0 (.int .i64 3)) (((w.alloc (.cells cs 44)).alloc (.cells zPk 44)).alloc (.cells zPk 44)) 0
  have hzl : putL zPk 0 (zPk.toList.set 0 (.int .i64 3)) = (zPk.setIfInBounds 0 (.int .i64 3)) := by rw [← Array.toList_setIfInBounds]; exact putL_all (by rw [hz1]; rfl)
  have kA4 : Blk ((((w.alloc (.cells cs 44)).alloc (.cells zPk 44)).alloc (.cells zPk 44)).setCells (w.heap.size + 1 + 1) 0 (zPk.toList.set 0 (.int .i64 3))) w.heap.size 44 cs := kA3.mod m4 (by omega)
  have kB4 : Blk ((((w.alloc (.cells cs 44)).alloc (.cells zPk 44)).alloc (.cells zPk 44)).setCells (w.heap.size + 1 + 1) 0 (zPk.toList.set 0 (.int .i64 3))) (w.heap.size + 1) 44 zPk := kB3.mod m4 (by omega)
  have kC4 : Blk ((((w.alloc (.cells cs 44)).alloc (.cells zPk 44)).alloc (.cells zPk 44)).setCells (w.heap.size + 1 + 1) 0 (zPk.toList.set 0 (.int .i64 3))) (w.heap.size + 1 + 1) 44 (zPk.setIfInBounds 0 (.int .i64 3)) := by
    have h := kC3.puts (zPk.toList.set 0 (.int .i64 3)) 0
    rw [hzl] at h
    exact h
  have hF : (aloneC cs 3).size = 56 := aloneC_size _ _
  have z0 := (kA2.cell 0).trans hP.kind.1
  have a0 := (kA4.cell 0).trans hP.kind.1
  rw [hk] at z0 a0
  have hvl : (rng cs 19 10).length = 10 := by unfold rng; rw [List.length_take, List.length_drop, Array.length_toList, hP.size]; decide
  have hi1 : (Tryd.prog.info? 35).map (·.size) = some (rng cs 19 10).length := by rw [hvl]; kernel_rfl
  have r1 : ((((w.alloc (.cells cs 44)).alloc (.cells zPk 44)).alloc (.cells zPk 44)).setCells (w.heap.size + 1 + 1) 0 (zPk.toList.set 0 (.int .i64 3))).rangeAt w.heap.size 19 (rng cs 19 10) := kA4.range _ _
  have t2 : ((((w.alloc (.cells cs 44)).alloc (.cells zPk 44)).alloc (.cells zPk 44)).setCells (w.heap.size + 1 + 1) 0 (zPk.toList.set 0 (.int .i64 3))).there (w.heap.size + 1 + 1) 19 (rng cs 19 10).length := kC4.there (by rw [hvl, hz1]; omega)
  have one2 : ∀ v ∈ (rng cs 19 10), v.oneCell' = true := fun v hv => hP.one v (by unfold rng at hv; exact List.mem_of_mem_drop (List.mem_of_mem_take hv))
  have m5 := mod_setCells (g := (w.heap.size + 1 + 1)) (rng cs 19 10) ((((w.alloc (.cells cs 44)).alloc (.cells zPk 44)).alloc (.cells zPk 44)).setCells (w.heap.size + 1 + 1) 0 (zPk.toList.set 0 (.int .i64 3))) 19
  have kC5 : Blk (((((w.alloc (.cells cs 44)).alloc (.cells zPk 44)).alloc (.cells zPk 44)).setCells (w.heap.size + 1 + 1) 0 (zPk.toList.set 0 (.int .i64 3))).setCells (w.heap.size + 1 + 1) 19 (rng cs 19 10)) (w.heap.size + 1 + 1) 44 (aloneC cs 3) := kC4.puts (rng cs 19 10) 19
  have kB5 : Blk (((((w.alloc (.cells cs 44)).alloc (.cells zPk 44)).alloc (.cells zPk 44)).setCells (w.heap.size + 1 + 1) 0 (zPk.toList.set 0 (.int .i64 3))).setCells (w.heap.size + 1 + 1) 19 (rng cs 19 10)) (w.heap.size + 1) 44 zPk := kB4.mod m5 (by omega)
  have hi2 : (Tryd.prog.info? 44).map (·.size) = some (aloneC cs 3).toList.length := by rw [Array.length_toList, hF]; exact info_pk
  have hi0 : (Tryd.prog.info? 44).map (·.size) = some (zPk.setIfInBounds 0 (.int .i64 3)).size := by rw [hz1]; exact info_pk
  have r2 : (((((w.alloc (.cells cs 44)).alloc (.cells zPk 44)).alloc (.cells zPk 44)).setCells (w.heap.size + 1 + 1) 0 (zPk.toList.set 0 (.int .i64 3))).setCells (w.heap.size + 1 + 1) 19 (rng cs 19 10)).rangeAt (w.heap.size + 1 + 1) 0 (aloneC cs 3).toList := kC5.rangeAll
  have t3 : (((((w.alloc (.cells cs 44)).alloc (.cells zPk 44)).alloc (.cells zPk 44)).setCells (w.heap.size + 1 + 1) 0 (zPk.toList.set 0 (.int .i64 3))).setCells (w.heap.size + 1 + 1) 19 (rng cs 19 10)).there (w.heap.size + 1) 0 (aloneC cs 3).toList.length := kB5.there (by rw [Array.length_toList, hF]; exact Nat.le_refl _)
  have one3 : ∀ v ∈ (aloneC cs 3).toList, v.oneCell' = true := (by have h := hP.alone.one; rw [hk] at h; exact h)
  have kB6 : Blk ((((((w.alloc (.cells cs 44)).alloc (.cells zPk 44)).alloc (.cells zPk 44)).setCells (w.heap.size + 1 + 1) 0 (zPk.toList.set 0 (.int .i64 3))).setCells (w.heap.size + 1 + 1) 19 (rng cs 19 10)).setCells (w.heap.size + 1) 0 (aloneC cs 3).toList) (w.heap.size + 1) 44 (aloneC cs 3) := by
    have h := kB5.puts (aloneC cs 3).toList 0
    rw [putL_all (by rw [hF]; rfl)] at h
    exact h
  have hbel : Below w.heap.size w ((((((w.alloc (.cells cs 44)).alloc (.cells zPk 44)).alloc (.cells zPk 44)).setCells (w.heap.size + 1 + 1) 0 (zPk.toList.set 0 (.int .i64 3))).setCells (w.heap.size + 1 + 1) 19 (rng cs 19 10)).setCells (w.heap.size + 1) 0 (aloneC cs 3).toList) := by
    have hb0 : Below w.heap.size w (((w.alloc (.cells cs 44)).alloc (.cells zPk 44)).alloc (.cells zPk 44)) := ((below_new w _).alloc (by simp) _).alloc (by simp; omega) _
    have hm : Mod (fun b => b = (w.heap.size + 1) ∨ b = (w.heap.size + 1 + 1)) (((w.alloc (.cells cs 44)).alloc (.cells zPk 44)).alloc (.cells zPk 44)) ((((((w.alloc (.cells cs 44)).alloc (.cells zPk 44)).alloc (.cells zPk 44)).setCells (w.heap.size + 1 + 1) 0 (zPk.toList.set 0 (.int .i64 3))).setCells (w.heap.size + 1 + 1) 19 (rng cs 19 10)).setCells (w.heap.size + 1) 0 (aloneC cs 3).toList) := ((m4.mono fun b _ e => .inr e).trans (m5.mono fun b _ e => .inr e)).trans ((mod_setCells (g := (w.heap.size + 1)) (aloneC cs 3).toList (((((w.alloc (.cells cs 44)).alloc (.cells zPk 44)).alloc (.cells zPk 44)).setCells (w.heap.size + 1 + 1) 0 (zPk.toList.set 0 (.int .i64 3))).setCells (w.heap.size + 1 + 1) 19 (rng cs 19 10)) 0).mono fun b _ e => .inl e)
    exact hb0.trans (hm.to_below (by simp; omega) fun b hb e => by rcases e with e | e <;> omega)
  have hP0 := Lib.hid hP
  have HT1 := Lib.hid t1
  have HO1 := Lib.hid one1
  have HI0 := Lib.hid hi0
  have HI2 := Lib.hid hi2
  have HR2 := Lib.hid r2
  have HT3 := Lib.hid t3
  have HO3 := Lib.hid one3
  have HB6 := Lib.hid kB6
  have HBEL := Lib.hid hbel
  have HR1 := Lib.hid r1
  have HT2 := Lib.hid t2
  have HO2 := Lib.hid one2
  have HI1 := Lib.hid hi1
  have HK := Lib.hid hk
  clear r1 t2 one2 hi1 hvl
  clear t1 one1 hi0 hi2 r2 t3 one3 kB6 hbel
  clear hP kA2 kA3 kB3 kC3 m4 kA4 kB4 kC4 kC5 kB5 m5 hF hz1 hk
  go_enter Tryd.func70, Tryd.ntmps70
  go_wp2_with (refine wpList_alloc_z rfl rfl zero_pk ?_; refine Hid.out ?_)
  refine Lib.hid ?_
  go_wp2_with (refine wpList_build_pk (k := 3) rfl ?_; refine Hid.out ?_)
  refine Lib.hid ?_
  go_wp2_with (refine wpList_alloc_z rfl rfl zero_pk ?_; refine Hid.out ?_)
  refine Lib.hid ?_
  go_wp2_with (refine wpList_store_mid rfl 44 _ _ rfl (w.heap.size + 1 + 1) 0 (zPk.setIfInBounds 0 (.int .i64 3)) rfl rfl HT1.out HI0.out HO1.out ?_; refine Hid.out ?_)
  refine Lib.hid ?_
  go_wp2_with (refine wpList_load_rg rfl (ty := 35) rfl rfl HR1.out Tryd.underlying35 rfl HI1.out ?_; refine Hid.out ?_)
  refine Lib.hid ?_
  go_wp2_with (refine wpList_store_rg rfl (ty := 35) rfl rfl rfl HT2.out HI1.out HO2.out ?_; refine Hid.out ?_)
  refine Lib.hid ?_
  go_wp2_with (refine wpList_load_rg rfl (ty := 44) rfl rfl HR2.out Tryd.underlying44 rfl HI2.out ?_; refine Hid.out ?_)
  refine Lib.hid ?_
  go_wp2_with (refine wpList_store_rg rfl (ty := 44) rfl rfl rfl HT3.out HI2.out HO3.out ?_; refine Hid.out ?_)
  refine Lib.hid ?_
  go_wp2_with fail
  refine bodyPost_ret (v := .agg (aloneC cs 3)) (results_cell_row Tryd.results70 _ _ (w.heap.size + 1) _ _ _ _ rfl HB6.out Tryd.underlying44 rfl (by rw [aloneC_size]; exact info_pk)) rfl ?_
  exact ⟨by rw [HK.out], HBEL.out⟩
set_option maxRecDepth 100000 in
set_option maxHeartbeats 16000000 in
theorem alone_resp {w : World} {cs : Array Value} {P : Pk} (hP : PkV w cs P) (hk : P.n 0 = 4) : Calls Tryd.prog 70 #[.agg cs] w fun e w' => e = .returned (.agg (aloneC cs (P.n 0))) ∧ Below w.heap.size w w' := by
  have kA2 : Blk ((w.alloc (.cells cs 44)).alloc (.cells zPk 44)) w.heap.size 44 cs := (Blk.new w _ cs).alloc _
  have kA3 : Blk (((w.alloc (.cells cs 44)).alloc (.cells zPk 44)).alloc (.cells zPk 44)) w.heap.size 44 cs := kA2.alloc _
  have kB3 : Blk (((w.alloc (.cells cs 44)).alloc (.cells zPk 44)).alloc (.cells zPk 44)) (w.heap.size + 1) 44 zPk := by
    have h := (Blk.new (w.alloc (.cells cs 44)) 44 zPk).alloc (.cells zPk 44)
    rw [alloc_size] at h
    exact h
  have kC3 : Blk (((w.alloc (.cells cs 44)).alloc (.cells zPk 44)).alloc (.cells zPk 44)) (w.heap.size + 1 + 1) 44 zPk := by
    have h := Blk.new ((w.alloc (.cells cs 44)).alloc (.cells zPk 44)) 44 zPk
    rw [alloc_size, alloc_size] at h
    exact h
  have hz1 : (zPk.setIfInBounds 0 (.int .i64 4)).size = 56 := by rw [Array.size_setIfInBounds]; rfl
  have t1 : (((w.alloc (.cells cs 44)).alloc (.cells zPk 44)).alloc (.cells zPk 44)).there (w.heap.size + 1 + 1) 0 (zPk.setIfInBounds 0 (.int .i64 4)).size := kC3.there (by rw [hz1]; exact Nat.le_refl _)
  have one1 : (zPk.setIfInBounds 0 (.int .i64 4)).all (·.oneCell') = true := Array.all_eq_true_iff_forall_mem.2 fun v hv => by
    rcases Array.mem_or_eq_of_mem_setIfInBounds hv with hv | rfl
    · exact zPk_one v hv
    · rfl
  have m4 := mod_setCells (g := (w.heap.size + 1 + 1)) (zPk.toList.set 0 (.int .i64 4)) (((w.alloc (.cells cs 44)).alloc (.cells zPk 44)).alloc (.cells zPk 44)) 0
  have hzl : putL zPk 0 (zPk.toList.set 0 (.int .i64 4)) = (zPk.setIfInBounds 0 (.int .i64 4)) := by rw [← Array.toList_setIfInBounds]; exact putL_all (by rw [hz1]; rfl)
  have kA4 : Blk ((((w.alloc (.cells cs 44)).alloc (.cells zPk 44)).alloc (.cells zPk 44)).setCells (w.heap.size + 1 + 1) 0 (zPk.toList.set 0 (.int .i64 4))) w.heap.size 44 cs := kA3.mod m4 (by omega)
  have kB4 : Blk ((((w.alloc (.cells cs 44)).alloc (.cells zPk 44)).alloc (.cells zPk 44)).setCells (w.heap.size + 1 + 1) 0 (zPk.toList.set 0 (.int .i64 4))) (w.heap.size + 1) 44 zPk := kB3.mod m4 (by omega)
  have kC4 : Blk ((((w.alloc (.cells cs 44)).alloc (.cells zPk 44)).alloc (.cells zPk 44)).setCells (w.heap.size + 1 + 1) 0 (zPk.toList.set 0 (.int .i64 4))) (w.heap.size + 1 + 1) 44 (zPk.setIfInBounds 0 (.int .i64 4)) := by
    have h := kC3.puts (zPk.toList.set 0 (.int .i64 4)) 0
    rw [hzl] at h
    exact h
  have hF : (aloneC cs 4).size = 56 := aloneC_size _ _
  have z0 := (kA2.cell 0).trans hP.kind.1
  have a0 := (kA4.cell 0).trans hP.kind.1
  rw [hk] at z0 a0
  have hvl : (rng cs 29 9).length = 9 := by unfold rng; rw [List.length_take, List.length_drop, Array.length_toList, hP.size]; decide
  have hi1 : (Tryd.prog.info? 37).map (·.size) = some (rng cs 29 9).length := by rw [hvl]; kernel_rfl
  have r1 : ((((w.alloc (.cells cs 44)).alloc (.cells zPk 44)).alloc (.cells zPk 44)).setCells (w.heap.size + 1 + 1) 0 (zPk.toList.set 0 (.int .i64 4))).rangeAt w.heap.size 29 (rng cs 29 9) := kA4.range _ _
  have t2 : ((((w.alloc (.cells cs 44)).alloc (.cells zPk 44)).alloc (.cells zPk 44)).setCells (w.heap.size + 1 + 1) 0 (zPk.toList.set 0 (.int .i64 4))).there (w.heap.size + 1 + 1) 29 (rng cs 29 9).length := kC4.there (by rw [hvl, hz1]; omega)
  have one2 : ∀ v ∈ (rng cs 29 9), v.oneCell' = true := fun v hv => hP.one v (by unfold rng at hv; exact List.mem_of_mem_drop (List.mem_of_mem_take hv))
  have m5 := mod_setCells (g := (w.heap.size + 1 + 1)) (rng cs 29 9) ((((w.alloc (.cells cs 44)).alloc (.cells zPk 44)).alloc (.cells zPk 44)).setCells (w.heap.size + 1 + 1) 0 (zPk.toList.set 0 (.int .i64 4))) 29
  have kC5 : Blk (((((w.alloc (.cells cs 44)).alloc (.cells zPk 44)).alloc (.cells zPk 44)).setCells (w.heap.size + 1 + 1) 0 (zPk.toList.set 0 (.int .i64 4))).setCells (w.heap.size + 1 + 1) 29 (rng cs 29 9)) (w.heap.size + 1 + 1) 44 (aloneC cs 4) := kC4.puts (rng cs 29 9) 29
  have kB5 : Blk (((((w.alloc (.cells cs 44)).alloc (.cells zPk 44)).alloc (.cells zPk 44)).setCells (w.heap.size + 1 + 1) 0 (zPk.toList.set 0 (.int .i64 4))).setCells (w.heap.size + 1 + 1) 29 (rng cs 29 9)) (w.heap.size + 1) 44 zPk := kB4.mod m5 (by omega)
  have hi2 : (Tryd.prog.info? 44).map (·.size) = some (aloneC cs 4).toList.length := by rw [Array.length_toList, hF]; exact info_pk
  have hi0 : (Tryd.prog.info? 44).map (·.size) = some (zPk.setIfInBounds 0 (.int .i64 4)).size := by rw [hz1]; exact info_pk
  have r2 : (((((w.alloc (.cells cs 44)).alloc (.cells zPk 44)).alloc (.cells zPk 44)).setCells (w.heap.size + 1 + 1) 0 (zPk.toList.set 0 (.int .i64 4))).setCells (w.heap.size + 1 + 1) 29 (rng cs 29 9)).rangeAt (w.heap.size + 1 + 1) 0 (aloneC cs 4).toList := kC5.rangeAll
  have t3 : (((((w.alloc (.cells cs 44)).alloc (.cells zPk 44)).alloc (.cells zPk 44)).setCells (w.heap.size + 1 + 1) 0 (zPk.toList.set 0 (.int .i64 4))).setCells (w.heap.size + 1 + 1) 29 (rng cs 29 9)).there (w.heap.size + 1) 0 (aloneC cs 4).toList.length := kB5.there (by rw [Array.length_toList, hF]; exact Nat.le_refl _)
  have one3 : ∀ v ∈ (aloneC cs 4).toList, v.oneCell' = true := (by have h := hP.alone.one; rw [hk] at h; exact h)
  have kB6 : Blk ((((((w.alloc (.cells cs 44)).alloc (.cells zPk 44)).alloc (.cells zPk 44)).setCells (w.heap.size + 1 + 1) 0 (zPk.toList.set 0 (.int .i64 4))).setCells (w.heap.size + 1 + 1) 29 (rng cs 29 9)).setCells (w.heap.size + 1) 0 (aloneC cs 4).toList) (w.heap.size + 1) 44 (aloneC cs 4) := by
    have h := kB5.puts (aloneC cs 4).toList 0
    rw [putL_all (by rw [hF]; rfl)] at h
    exact h
  have hbel : Below w.heap.size w ((((((w.alloc (.cells cs 44)).alloc (.cells zPk 44)).alloc (.cells zPk 44)).setCells (w.heap.size + 1 + 1) 0 (zPk.toList.set 0 (.int .i64 4))).setCells (w.heap.size + 1 + 1) 29 (rng cs 29 9)).setCells (w.heap.size + 1) 0 (aloneC cs 4).toList) := by
    have hb0 : Below w.heap.size w (((w.alloc (.cells cs 44)).alloc (.cells zPk 44)).alloc (.cells zPk 44)) := ((below_new w _).alloc (by simp) _).alloc (by simp; omega) _
    have hm : Mod (fun b => b = (w.heap.size + 1) ∨ b = (w.heap.size + 1 + 1)) (((w.alloc (.cells cs 44)).alloc (.cells zPk 44)).alloc (.cells zPk 44)) ((((((w.alloc (.cells cs 44)).alloc (.cells zPk 44)).alloc (.cells zPk 44)).setCells (w.heap.size + 1 + 1) 0 (zPk.toList.set 0 (.int .i64 4))).setCells (w.heap.size + 1 + 1) 29 (rng cs 29 9)).setCells (w.heap.size + 1) 0 (aloneC cs 4).toList) := ((m4.mono fun b _ e => .inr e).trans (m5.mono fun b _ e => .inr e)).trans ((mod_setCells (g := (w.heap.size + 1)) (aloneC cs 4).toList (((((w.alloc (.cells cs 44)).alloc (.cells zPk 44)).alloc (.cells zPk 44)).setCells (w.heap.size + 1 + 1) 0 (zPk.toList.set 0 (.int .i64 4))).setCells (w.heap.size + 1 + 1) 29 (rng cs 29 9)) 0).mono fun b _ e => .inl e)
    exact hb0.trans (hm.to_below (by simp; omega) fun b hb e => by rcases e with e | e <;> omega)
  have hP0 := Lib.hid hP
  have HT1 := Lib.hid t1
  have HO1 := Lib.hid one1
  have HI0 := Lib.hid hi0
  have HI2 := Lib.hid hi2
  have HR2 := Lib.hid r2
  have HT3 := Lib.hid t3
  have HO3 := Lib.hid one3
  have HB6 := Lib.hid kB6
  have HBEL := Lib.hid hbel
  have HR1 := Lib.hid r1
  have HT2 := Lib.hid t2
  have HO2 := Lib.hid one2
  have HI1 := Lib.hid hi1
  have HK := Lib.hid hk
  clear r1 t2 one2 hi1 hvl
  clear t1 one1 hi0 hi2 r2 t3 one3 kB6 hbel
  clear hP kA2 kA3 kB3 kC3 m4 kA4 kB4 kC4 kC5 kB5 m5 hF hz1 hk
  go_enter Tryd.func70, Tryd.ntmps70
  go_wp2_with (refine wpList_alloc_z rfl rfl zero_pk ?_; refine Hid.out ?_)
  refine Lib.hid ?_
  go_wp2_with (refine wpList_build_pk (k := 4) rfl ?_; refine Hid.out ?_)
  refine Lib.hid ?_
  go_wp2_with (refine wpList_alloc_z rfl rfl zero_pk ?_; refine Hid.out ?_)
  refine Lib.hid ?_
  go_wp2_with (refine wpList_store_mid rfl 44 _ _ rfl (w.heap.size + 1 + 1) 0 (zPk.setIfInBounds 0 (.int .i64 4)) rfl rfl HT1.out HI0.out HO1.out ?_; refine Hid.out ?_)
  refine Lib.hid ?_
  go_wp2_with (refine wpList_load_rg rfl (ty := 37) rfl rfl HR1.out Tryd.underlying37 rfl HI1.out ?_; refine Hid.out ?_)
  refine Lib.hid ?_
  go_wp2_with (refine wpList_store_rg rfl (ty := 37) rfl rfl rfl HT2.out HI1.out HO2.out ?_; refine Hid.out ?_)
  refine Lib.hid ?_
  go_wp2_with (refine wpList_load_rg rfl (ty := 44) rfl rfl HR2.out Tryd.underlying44 rfl HI2.out ?_; refine Hid.out ?_)
  refine Lib.hid ?_
  go_wp2_with (refine wpList_store_rg rfl (ty := 44) rfl rfl rfl HT3.out HI2.out HO3.out ?_; refine Hid.out ?_)
  refine Lib.hid ?_
  go_wp2_with fail
  refine bodyPost_ret (v := .agg (aloneC cs 4)) (results_cell_row Tryd.results70 _ _ (w.heap.size + 1) _ _ _ _ rfl HB6.out Tryd.underlying44 rfl (by rw [aloneC_size]; exact info_pk)) rfl ?_
  exact ⟨by rw [HK.out], HBEL.out⟩
set_option maxRecDepth 100000 in
set_option maxHeartbeats 16000000 in
theorem alone_call {w : World} {cs : Array Value} {P : Pk} (hP : PkV w cs P) (hk : P.n 0 = 5) : Calls Tryd.prog 70 #[.agg cs] w fun e w' => e = .returned (.agg (aloneC cs (P.n 0))) ∧ Below w.heap.size w w' := by
  have kA2 : Blk ((w.alloc (.cells cs 44)).alloc (.cells zPk 44)) w.heap.size 44 cs := (Blk.new w _ cs).alloc _
  have kA3 : Blk (((w.alloc (.cells cs 44)).alloc (.cells zPk 44)).alloc (.cells zPk 44)) w.heap.size 44 cs := kA2.alloc _
  have kB3 : Blk (((w.alloc (.cells cs 44)).alloc (.cells zPk 44)).alloc (.cells zPk 44)) (w.heap.size + 1) 44 zPk := by
    have h := (Blk.new (w.alloc (.cells cs 44)) 44 zPk).alloc (.cells zPk 44)
    rw [alloc_size] at h
    exact h
  have kC3 : Blk (((w.alloc (.cells cs 44)).alloc (.cells zPk 44)).alloc (.cells zPk 44)) (w.heap.size + 1 + 1) 44 zPk := by
    have h := Blk.new ((w.alloc (.cells cs 44)).alloc (.cells zPk 44)) 44 zPk
    rw [alloc_size, alloc_size] at h
    exact h
  have hz1 : (zPk.setIfInBounds 0 (.int .i64 5)).size = 56 := by rw [Array.size_setIfInBounds]; rfl
  have t1 : (((w.alloc (.cells cs 44)).alloc (.cells zPk 44)).alloc (.cells zPk 44)).there (w.heap.size + 1 + 1) 0 (zPk.setIfInBounds 0 (.int .i64 5)).size := kC3.there (by rw [hz1]; exact Nat.le_refl _)
  have one1 : (zPk.setIfInBounds 0 (.int .i64 5)).all (·.oneCell') = true := Array.all_eq_true_iff_forall_mem.2 fun v hv => by
    rcases Array.mem_or_eq_of_mem_setIfInBounds hv with hv | rfl
    · exact zPk_one v hv
    · rfl
  have m4 := mod_setCells (g := (w.heap.size + 1 + 1)) (zPk.toList.set 0 (.int .i64 5)) (((w.alloc (.cells cs 44)).alloc (.cells zPk 44)).alloc (.cells zPk 44)) 0
  have hzl : putL zPk 0 (zPk.toList.set 0 (.int .i64 5)) = (zPk.setIfInBounds 0 (.int .i64 5)) := by rw [← Array.toList_setIfInBounds]; exact putL_all (by rw [hz1]; rfl)
  have kA4 : Blk ((((w.alloc (.cells cs 44)).alloc (.cells zPk 44)).alloc (.cells zPk 44)).setCells (w.heap.size + 1 + 1) 0 (zPk.toList.set 0 (.int .i64 5))) w.heap.size 44 cs := kA3.mod m4 (by omega)
  have kB4 : Blk ((((w.alloc (.cells cs 44)).alloc (.cells zPk 44)).alloc (.cells zPk 44)).setCells (w.heap.size + 1 + 1) 0 (zPk.toList.set 0 (.int .i64 5))) (w.heap.size + 1) 44 zPk := kB3.mod m4 (by omega)
  have kC4 : Blk ((((w.alloc (.cells cs 44)).alloc (.cells zPk 44)).alloc (.cells zPk 44)).setCells (w.heap.size + 1 + 1) 0 (zPk.toList.set 0 (.int .i64 5))) (w.heap.size + 1 + 1) 44 (zPk.setIfInBounds 0 (.int .i64 5)) := by
    have h := kC3.puts (zPk.toList.set 0 (.int .i64 5)) 0
    rw [hzl] at h
    exact h
  have hF : (aloneC cs 5).size = 56 := aloneC_size _ _
  have z0 := (kA2.cell 0).trans hP.kind.1
  have a0 := (kA4.cell 0).trans hP.kind.1
  rw [hk] at z0 a0
  have hvl : (rng cs 38 9).length = 9 := by unfold rng; rw [List.length_take, List.length_drop, Array.length_toList, hP.size]; decide
  have hi1 : (Tryd.prog.info? 39).map (·.size) = some (rng cs 38 9).length := by rw [hvl]; kernel_rfl
  have r1 : ((((w.alloc (.cells cs 44)).alloc (.cells zPk 44)).alloc (.cells zPk 44)).setCells (w.heap.size + 1 + 1) 0 (zPk.toList.set 0 (.int .i64 5))).rangeAt w.heap.size 38 (rng cs 38 9) := kA4.range _ _
  have t2 : ((((w.alloc (.cells cs 44)).alloc (.cells zPk 44)).alloc (.cells zPk 44)).setCells (w.heap.size + 1 + 1) 0 (zPk.toList.set 0 (.int .i64 5))).there (w.heap.size + 1 + 1) 38 (rng cs 38 9).length := kC4.there (by rw [hvl, hz1]; omega)
  have one2 : ∀ v ∈ (rng cs 38 9), v.oneCell' = true := fun v hv => hP.one v (by unfold rng at hv; exact List.mem_of_mem_drop (List.mem_of_mem_take hv))
  have m5 := mod_setCells (g := (w.heap.size + 1 + 1)) (rng cs 38 9) ((((w.alloc (.cells cs 44)).alloc (.cells zPk 44)).alloc (.cells zPk 44)).setCells (w.heap.size + 1 + 1) 0 (zPk.toList.set 0 (.int .i64 5))) 38
  have kC5 : Blk (((((w.alloc (.cells cs 44)).alloc (.cells zPk 44)).alloc (.cells zPk 44)).setCells (w.heap.size + 1 + 1) 0 (zPk.toList.set 0 (.int .i64 5))).setCells (w.heap.size + 1 + 1) 38 (rng cs 38 9)) (w.heap.size + 1 + 1) 44 (aloneC cs 5) := kC4.puts (rng cs 38 9) 38
  have kB5 : Blk (((((w.alloc (.cells cs 44)).alloc (.cells zPk 44)).alloc (.cells zPk 44)).setCells (w.heap.size + 1 + 1) 0 (zPk.toList.set 0 (.int .i64 5))).setCells (w.heap.size + 1 + 1) 38 (rng cs 38 9)) (w.heap.size + 1) 44 zPk := kB4.mod m5 (by omega)
  have hi2 : (Tryd.prog.info? 44).map (·.size) = some (aloneC cs 5).toList.length := by rw [Array.length_toList, hF]; exact info_pk
  have hi0 : (Tryd.prog.info? 44).map (·.size) = some (zPk.setIfInBounds 0 (.int .i64 5)).size := by rw [hz1]; exact info_pk
  have r2 : (((((w.alloc (.cells cs 44)).alloc (.cells zPk 44)).alloc (.cells zPk 44)).setCells (w.heap.size + 1 + 1) 0 (zPk.toList.set 0 (.int .i64 5))).setCells (w.heap.size + 1 + 1) 38 (rng cs 38 9)).rangeAt (w.heap.size + 1 + 1) 0 (aloneC cs 5).toList := kC5.rangeAll
  have t3 : (((((w.alloc (.cells cs 44)).alloc (.cells zPk 44)).alloc (.cells zPk 44)).setCells (w.heap.size + 1 + 1) 0 (zPk.toList.set 0 (.int .i64 5))).setCells (w.heap.size + 1 + 1) 38 (rng cs 38 9)).there (w.heap.size + 1) 0 (aloneC cs 5).toList.length := kB5.there (by rw [Array.length_toList, hF]; exact Nat.le_refl _)
  have one3 : ∀ v ∈ (aloneC cs 5).toList, v.oneCell' = true := (by have h := hP.alone.one; rw [hk] at h; exact h)
  have kB6 : Blk ((((((w.alloc (.cells cs 44)).alloc (.cells zPk 44)).alloc (.cells zPk 44)).setCells (w.heap.size + 1 + 1) 0 (zPk.toList.set 0 (.int .i64 5))).setCells (w.heap.size + 1 + 1) 38 (rng cs 38 9)).setCells (w.heap.size + 1) 0 (aloneC cs 5).toList) (w.heap.size + 1) 44 (aloneC cs 5) := by
    have h := kB5.puts (aloneC cs 5).toList 0
    rw [putL_all (by rw [hF]; rfl)] at h
    exact h
  have hbel : Below w.heap.size w ((((((w.alloc (.cells cs 44)).alloc (.cells zPk 44)).alloc (.cells zPk 44)).setCells (w.heap.size + 1 + 1) 0 (zPk.toList.set 0 (.int .i64 5))).setCells (w.heap.size + 1 + 1) 38 (rng cs 38 9)).setCells (w.heap.size + 1) 0 (aloneC cs 5).toList) := by
    have hb0 : Below w.heap.size w (((w.alloc (.cells cs 44)).alloc (.cells zPk 44)).alloc (.cells zPk 44)) := ((below_new w _).alloc (by simp) _).alloc (by simp; omega) _
    have hm : Mod (fun b => b = (w.heap.size + 1) ∨ b = (w.heap.size + 1 + 1)) (((w.alloc (.cells cs 44)).alloc (.cells zPk 44)).alloc (.cells zPk 44)) ((((((w.alloc (.cells cs 44)).alloc (.cells zPk 44)).alloc (.cells zPk 44)).setCells (w.heap.size + 1 + 1) 0 (zPk.toList.set 0 (.int .i64 5))).setCells (w.heap.size + 1 + 1) 38 (rng cs 38 9)).setCells (w.heap.size + 1) 0 (aloneC cs 5).toList) := ((m4.mono fun b _ e => .inr e).trans (m5.mono fun b _ e => .inr e)).trans ((mod_setCells (g := (w.heap.size + 1)) (aloneC cs 5).toList (((((w.alloc (.cells cs 44)).alloc (.cells zPk 44)).alloc (.cells zPk 44)).setCells (w.heap.size + 1 + 1) 0 (zPk.toList.set 0 (.int .i64 5))).setCells (w.heap.size + 1 + 1) 38 (rng cs 38 9)) 0).mono fun b _ e => .inl e)
    exact hb0.trans (hm.to_below (by simp; omega) fun b hb e => by rcases e with e | e <;> omega)
  have hP0 := Lib.hid hP
  have HT1 := Lib.hid t1
  have HO1 := Lib.hid one1
  have HI0 := Lib.hid hi0
  have HI2 := Lib.hid hi2
  have HR2 := Lib.hid r2
  have HT3 := Lib.hid t3
  have HO3 := Lib.hid one3
  have HB6 := Lib.hid kB6
  have HBEL := Lib.hid hbel
  have HR1 := Lib.hid r1
  have HT2 := Lib.hid t2
  have HO2 := Lib.hid one2
  have HI1 := Lib.hid hi1
  have HK := Lib.hid hk
  clear r1 t2 one2 hi1 hvl
  clear t1 one1 hi0 hi2 r2 t3 one3 kB6 hbel
  clear hP kA2 kA3 kB3 kC3 m4 kA4 kB4 kC4 kC5 kB5 m5 hF hz1 hk
  go_enter Tryd.func70, Tryd.ntmps70
  go_wp2_with (refine wpList_alloc_z rfl rfl zero_pk ?_; refine Hid.out ?_)
  refine Lib.hid ?_
  go_wp2_with (refine wpList_build_pk (k := 5) rfl ?_; refine Hid.out ?_)
  refine Lib.hid ?_
  go_wp2_with (refine wpList_alloc_z rfl rfl zero_pk ?_; refine Hid.out ?_)
  refine Lib.hid ?_
  go_wp2_with (refine wpList_store_mid rfl 44 _ _ rfl (w.heap.size + 1 + 1) 0 (zPk.setIfInBounds 0 (.int .i64 5)) rfl rfl HT1.out HI0.out HO1.out ?_; refine Hid.out ?_)
  refine Lib.hid ?_
  go_wp2_with (refine wpList_load_rg rfl (ty := 39) rfl rfl HR1.out Tryd.underlying39 rfl HI1.out ?_; refine Hid.out ?_)
  refine Lib.hid ?_
  go_wp2_with (refine wpList_store_rg rfl (ty := 39) rfl rfl rfl HT2.out HI1.out HO2.out ?_; refine Hid.out ?_)
  refine Lib.hid ?_
  go_wp2_with (refine wpList_load_rg rfl (ty := 44) rfl rfl HR2.out Tryd.underlying44 rfl HI2.out ?_; refine Hid.out ?_)
  refine Lib.hid ?_
  go_wp2_with (refine wpList_store_rg rfl (ty := 44) rfl rfl rfl HT3.out HI2.out HO3.out ?_; refine Hid.out ?_)
  refine Lib.hid ?_
  go_wp2_with fail
  refine bodyPost_ret (v := .agg (aloneC cs 5)) (results_cell_row Tryd.results70 _ _ (w.heap.size + 1) _ _ _ _ rfl HB6.out Tryd.underlying44 rfl (by rw [aloneC_size]; exact info_pk)) rfl ?_
  exact ⟨by rw [HK.out], HBEL.out⟩
set_option maxRecDepth 100000 in
set_option maxHeartbeats 16000000 in
theorem alone_reply {w : World} {cs : Array Value} {P : Pk} (hP : PkV w cs P) (hk : P.n 0 = 6) : Calls Tryd.prog 70 #[.agg cs] w fun e w' => e = .returned (.agg (aloneC cs (P.n 0))) ∧ Below w.heap.size w w' := by
  have kA2 : Blk ((w.alloc (.cells cs 44)).alloc (.cells zPk 44)) w.heap.size 44 cs := (Blk.new w _ cs).alloc _
  have kA3 : Blk (((w.alloc (.cells cs 44)).alloc (.cells zPk 44)).alloc (.cells zPk 44)) w.heap.size 44 cs := kA2.alloc _
  have kB3 : Blk (((w.alloc (.cells cs 44)).alloc (.cells zPk 44)).alloc (.cells zPk 44)) (w.heap.size + 1) 44 zPk := by
    have h := (Blk.new (w.alloc (.cells cs 44)) 44 zPk).alloc (.cells zPk 44)
    rw [alloc_size] at h
    exact h
  have kC3 : Blk (((w.alloc (.cells cs 44)).alloc (.cells zPk 44)).alloc (.cells zPk 44)) (w.heap.size + 1 + 1) 44 zPk := by
    have h := Blk.new ((w.alloc (.cells cs 44)).alloc (.cells zPk 44)) 44 zPk
    rw [alloc_size, alloc_size] at h
    exact h
  have hz1 : (zPk.setIfInBounds 0 (.int .i64 6)).size = 56 := by rw [Array.size_setIfInBounds]; rfl
  have t1 : (((w.alloc (.cells cs 44)).alloc (.cells zPk 44)).alloc (.cells zPk 44)).there (w.heap.size + 1 + 1) 0 (zPk.setIfInBounds 0 (.int .i64 6)).size := kC3.there (by rw [hz1]; exact Nat.le_refl _)
  have one1 : (zPk.setIfInBounds 0 (.int .i64 6)).all (·.oneCell') = true := Array.all_eq_true_iff_forall_mem.2 fun v hv => by
    rcases Array.mem_or_eq_of_mem_setIfInBounds hv with hv | rfl
    · exact zPk_one v hv
    · rfl
  have m4 := mod_setCells (g := (w.heap.size + 1 + 1)) (zPk.toList.set 0 (.int .i64 6)) (((w.alloc (.cells cs 44)).alloc (.cells zPk 44)).alloc (.cells zPk 44)) 0
  have hzl : putL zPk 0 (zPk.toList.set 0 (.int .i64 6)) = (zPk.setIfInBounds 0 (.int .i64 6)) := by rw [← Array.toList_setIfInBounds]; exact putL_all (by rw [hz1]; rfl)
  have kA4 : Blk ((((w.alloc (.cells cs 44)).alloc (.cells zPk 44)).alloc (.cells zPk 44)).setCells (w.heap.size + 1 + 1) 0 (zPk.toList.set 0 (.int .i64 6))) w.heap.size 44 cs := kA3.mod m4 (by omega)
  have kB4 : Blk ((((w.alloc (.cells cs 44)).alloc (.cells zPk 44)).alloc (.cells zPk 44)).setCells (w.heap.size + 1 + 1) 0 (zPk.toList.set 0 (.int .i64 6))) (w.heap.size + 1) 44 zPk := kB3.mod m4 (by omega)
  have kC4 : Blk ((((w.alloc (.cells cs 44)).alloc (.cells zPk 44)).alloc (.cells zPk 44)).setCells (w.heap.size + 1 + 1) 0 (zPk.toList.set 0 (.int .i64 6))) (w.heap.size + 1 + 1) 44 (zPk.setIfInBounds 0 (.int .i64 6)) := by
    have h := kC3.puts (zPk.toList.set 0 (.int .i64 6)) 0
    rw [hzl] at h
    exact h
  have hF : (aloneC cs 6).size = 56 := aloneC_size _ _
  have z0 := (kA2.cell 0).trans hP.kind.1
  have a0 := (kA4.cell 0).trans hP.kind.1
  rw [hk] at z0 a0
  have hvl : (rng cs 47 9).length = 9 := by unfold rng; rw [List.length_take, List.length_drop, Array.length_toList, hP.size]; decide
  have hi1 : (Tryd.prog.info? 42).map (·.size) = some (rng cs 47 9).length := by rw [hvl]; kernel_rfl
  have r1 : ((((w.alloc (.cells cs 44)).alloc (.cells zPk 44)).alloc (.cells zPk 44)).setCells (w.heap.size + 1 + 1) 0 (zPk.toList.set 0 (.int .i64 6))).rangeAt w.heap.size 47 (rng cs 47 9) := kA4.range _ _
  have t2 : ((((w.alloc (.cells cs 44)).alloc (.cells zPk 44)).alloc (.cells zPk 44)).setCells (w.heap.size + 1 + 1) 0 (zPk.toList.set 0 (.int .i64 6))).there (w.heap.size + 1 + 1) 47 (rng cs 47 9).length := kC4.there (by rw [hvl, hz1]; omega)
  have one2 : ∀ v ∈ (rng cs 47 9), v.oneCell' = true := fun v hv => hP.one v (by unfold rng at hv; exact List.mem_of_mem_drop (List.mem_of_mem_take hv))
  have m5 := mod_setCells (g := (w.heap.size + 1 + 1)) (rng cs 47 9) ((((w.alloc (.cells cs 44)).alloc (.cells zPk 44)).alloc (.cells zPk 44)).setCells (w.heap.size + 1 + 1) 0 (zPk.toList.set 0 (.int .i64 6))) 47
  have kC5 : Blk (((((w.alloc (.cells cs 44)).alloc (.cells zPk 44)).alloc (.cells zPk 44)).setCells (w.heap.size + 1 + 1) 0 (zPk.toList.set 0 (.int .i64 6))).setCells (w.heap.size + 1 + 1) 47 (rng cs 47 9)) (w.heap.size + 1 + 1) 44 (aloneC cs 6) := kC4.puts (rng cs 47 9) 47
  have kB5 : Blk (((((w.alloc (.cells cs 44)).alloc (.cells zPk 44)).alloc (.cells zPk 44)).setCells (w.heap.size + 1 + 1) 0 (zPk.toList.set 0 (.int .i64 6))).setCells (w.heap.size + 1 + 1) 47 (rng cs 47 9)) (w.heap.size + 1) 44 zPk := kB4.mod m5 (by omega)
  have hi2 : (Tryd.prog.info? 44).map (·.size) = some (aloneC cs 6).toList.length := by rw [Array.length_toList, hF]; exact info_pk
  have hi0 : (Tryd.prog.info? 44).map (·.size) = some (zPk.setIfInBounds 0 (.int .i64 6)).size := by rw [hz1]; exact info_pk
  have r2 : (((((w.alloc (.cells cs 44)).alloc (.cells zPk 44)).alloc (.cells zPk 44)).setCells (w.heap.size + 1 + 1) 0 (zPk.toList.set 0 (.int .i64 6))).setCells (w.heap.size + 1 + 1) 47 (rng cs 47 9)).rangeAt (w.heap.size + 1 + 1) 0 (aloneC cs 6).toList := kC5.rangeAll
  have t3 : (((((w.alloc (.cells cs 44)).alloc (.cells zPk 44)).alloc (.cells zPk 44)).setCells (w.heap.size + 1 + 1) 0 (zPk.toList.set 0 (.int .i64 6))).setCells (w.heap.size + 1 + 1) 47 (rng cs 47 9)).there (w.heap.size + 1) 0 (aloneC cs 6).toList.length := kB5.there (by rw [Array.length_toList, hF]; exact Nat.le_refl _)
  have one3 : ∀ v ∈ (aloneC cs 6).toList, v.oneCell' = true := (by have h := hP.alone.one; rw [hk] at h; exact h)
  have kB6 : Blk ((((((w.alloc (.cells cs 44)).alloc (.cells zPk 44)).alloc (.cells zPk 44)).setCells (w.heap.size + 1 + 1) 0 (zPk.toList.set 0 (.int .i64 6))).setCells (w.heap.size + 1 + 1) 47 (rng cs 47 9)).setCells (w.heap.size + 1) 0 (aloneC cs 6).toList) (w.heap.size + 1) 44 (aloneC cs 6) := by
    have h := kB5.puts (aloneC cs 6).toList 0
    rw [putL_all (by rw [hF]; rfl)] at h
    exact h
  have hbel : Below w.heap.size w ((((((w.alloc (.cells cs 44)).alloc (.cells zPk 44)).alloc (.cells zPk 44)).setCells (w.heap.size + 1 + 1) 0 (zPk.toList.set 0 (.int .i64 6))).setCells (w.heap.size + 1 + 1) 47 (rng cs 47 9)).setCells (w.heap.size + 1) 0 (aloneC cs 6).toList) := by
    have hb0 : Below w.heap.size w (((w.alloc (.cells cs 44)).alloc (.cells zPk 44)).alloc (.cells zPk 44)) := ((below_new w _).alloc (by simp) _).alloc (by simp; omega) _
    have hm : Mod (fun b => b = (w.heap.size + 1) ∨ b = (w.heap.size + 1 + 1)) (((w.alloc (.cells cs 44)).alloc (.cells zPk 44)).alloc (.cells zPk 44)) ((((((w.alloc (.cells cs 44)).alloc (.cells zPk 44)).alloc (.cells zPk 44)).setCells (w.heap.size + 1 + 1) 0 (zPk.toList.set 0 (.int .i64 6))).setCells (w.heap.size + 1 + 1) 47 (rng cs 47 9)).setCells (w.heap.size + 1) 0 (aloneC cs 6).toList) := ((m4.mono fun b _ e => .inr e).trans (m5.mono fun b _ e => .inr e)).trans ((mod_setCells (g := (w.heap.size + 1)) (aloneC cs 6).toList (((((w.alloc (.cells cs 44)).alloc (.cells zPk 44)).alloc (.cells zPk 44)).setCells (w.heap.size + 1 + 1) 0 (zPk.toList.set 0 (.int .i64 6))).setCells (w.heap.size + 1 + 1) 47 (rng cs 47 9)) 0).mono fun b _ e => .inl e)
    exact hb0.trans (hm.to_below (by simp; omega) fun b hb e => by rcases e with e | e <;> omega)
  have hP0 := Lib.hid hP
  have HT1 := Lib.hid t1
  have HO1 := Lib.hid one1
  have HI0 := Lib.hid hi0
  have HI2 := Lib.hid hi2
  have HR2 := Lib.hid r2
  have HT3 := Lib.hid t3
  have HO3 := Lib.hid one3
  have HB6 := Lib.hid kB6
  have HBEL := Lib.hid hbel
  have HR1 := Lib.hid r1
  have HT2 := Lib.hid t2
  have HO2 := Lib.hid one2
  have HI1 := Lib.hid hi1
  have HK := Lib.hid hk
  clear r1 t2 one2 hi1 hvl
  clear t1 one1 hi0 hi2 r2 t3 one3 kB6 hbel
  clear hP kA2 kA3 kB3 kC3 m4 kA4 kB4 kC4 kC5 kB5 m5 hF hz1 hk
  go_enter Tryd.func70, Tryd.ntmps70
  go_wp2_with (refine wpList_alloc_z rfl rfl zero_pk ?_; refine Hid.out ?_)
  refine Lib.hid ?_
  go_wp2_with (refine wpList_build_pk (k := 6) rfl ?_; refine Hid.out ?_)
  refine Lib.hid ?_
  go_wp2_with (refine wpList_alloc_z rfl rfl zero_pk ?_; refine Hid.out ?_)
  refine Lib.hid ?_
  go_wp2_with (refine wpList_store_mid rfl 44 _ _ rfl (w.heap.size + 1 + 1) 0 (zPk.setIfInBounds 0 (.int .i64 6)) rfl rfl HT1.out HI0.out HO1.out ?_; refine Hid.out ?_)
  refine Lib.hid ?_
  go_wp2_with (refine wpList_load_rg rfl (ty := 42) rfl rfl HR1.out Tryd.underlying42 rfl HI1.out ?_; refine Hid.out ?_)
  refine Lib.hid ?_
  go_wp2_with (refine wpList_store_rg rfl (ty := 42) rfl rfl rfl HT2.out HI1.out HO2.out ?_; refine Hid.out ?_)
  refine Lib.hid ?_
  go_wp2_with (refine wpList_load_rg rfl (ty := 44) rfl rfl HR2.out Tryd.underlying44 rfl HI2.out ?_; refine Hid.out ?_)
  refine Lib.hid ?_
  go_wp2_with (refine wpList_store_rg rfl (ty := 44) rfl rfl rfl HT3.out HI2.out HO3.out ?_; refine Hid.out ?_)
  refine Lib.hid ?_
  go_wp2_with fail
  refine bodyPost_ret (v := .agg (aloneC cs 6)) (results_cell_row Tryd.results70 _ _ (w.heap.size + 1) _ _ _ _ rfl HB6.out Tryd.underlying44 rfl (by rw [aloneC_size]; exact info_pk)) rfl ?_
  exact ⟨by rw [HK.out], HBEL.out⟩
set_option maxRecDepth 100000 in
set_option maxHeartbeats 16000000 in
theorem alone_none {w : World} {cs : Array Value} {P : Pk} (hP : PkV w cs P) (h1 : P.n 0 ≠ 1) (h2 : P.n 0 ≠ 2) (h3 : P.n 0 ≠ 3) (h4 : P.n 0 ≠ 4) (h5 : P.n 0 ≠ 5) (h6 : P.n 0 ≠ 6) : Calls Tryd.prog 70 #[.agg cs] w fun e w' => e = .returned (.agg (aloneC cs (P.n 0))) ∧ Below w.heap.size w w' := by
  have kA2 : Blk ((w.alloc (.cells cs 44)).alloc (.cells zPk 44)) w.heap.size 44 cs := (Blk.new w _ cs).alloc _
  have kA3 : Blk (((w.alloc (.cells cs 44)).alloc (.cells zPk 44)).alloc (.cells zPk 44)) w.heap.size 44 cs := kA2.alloc _
  have kB3 : Blk (((w.alloc (.cells cs 44)).alloc (.cells zPk 44)).alloc (.cells zPk 44)) (w.heap.size + 1) 44 zPk := by
    have h := (Blk.new (w.alloc (.cells cs 44)) 44 zPk).alloc (.cells zPk 44)
    rw [alloc_size] at h
    exact h
  have kC3 : Blk (((w.alloc (.cells cs 44)).alloc (.cells zPk 44)).alloc (.cells zPk 44)) (w.heap.size + 1 + 1) 44 zPk := by
    have h := Blk.new ((w.alloc (.cells cs 44)).alloc (.cells zPk 44)) 44 zPk
    rw [alloc_size, alloc_size] at h
    exact h
  have hz1 : (zPk.setIfInBounds 0 (.int .i64 (P.n 0))).size = 56 := by rw [Array.size_setIfInBounds]; rfl
  have t1 : (((w.alloc (.cells cs 44)).alloc (.cells zPk 44)).alloc (.cells zPk 44)).there (w.heap.size + 1 + 1) 0 (zPk.setIfInBounds 0 (.int .i64 (P.n 0))).size := kC3.there (by rw [hz1]; exact Nat.le_refl _)
  have one1 : (zPk.setIfInBounds 0 (.int .i64 (P.n 0))).all (·.oneCell') = true := Array.all_eq_true_iff_forall_mem.2 fun v hv => by
    rcases Array.mem_or_eq_of_mem_setIfInBounds hv with hv | rfl
    · exact zPk_one v hv
    · rfl
  have m4 := mod_setCells (g := (w.heap.size + 1 + 1)) (zPk.toList.set 0 (.int .i64 (P.n 0))) (((w.alloc (.cells cs 44)).alloc (.cells zPk 44)).alloc (.cells zPk 44)) 0
  have hzl : putL zPk 0 (zPk.toList.set 0 (.int .i64 (P.n 0))) = (zPk.setIfInBounds 0 (.int .i64 (P.n 0))) := by rw [← Array.toList_setIfInBounds]; exact putL_all (by rw [hz1]; rfl)
  have kA4 : Blk ((((w.alloc (.cells cs 44)).alloc (.cells zPk 44)).alloc (.cells zPk 44)).setCells (w.heap.size + 1 + 1) 0 (zPk.toList.set 0 (.int .i64 (P.n 0)))) w.heap.size 44 cs := kA3.mod m4 (by omega)
  have kB4 : Blk ((((w.alloc (.cells cs 44)).alloc (.cells zPk 44)).alloc (.cells zPk 44)).setCells (w.heap.size + 1 + 1) 0 (zPk.toList.set 0 (.int .i64 (P.n 0)))) (w.heap.size + 1) 44 zPk := kB3.mod m4 (by omega)
  have kC4 : Blk ((((w.alloc (.cells cs 44)).alloc (.cells zPk 44)).alloc (.cells zPk 44)).setCells (w.heap.size + 1 + 1) 0 (zPk.toList.set 0 (.int .i64 (P.n 0)))) (w.heap.size + 1 + 1) 44 (zPk.setIfInBounds 0 (.int .i64 (P.n 0))) := by
    have h := kC3.puts (zPk.toList.set 0 (.int .i64 (P.n 0))) 0
    rw [hzl] at h
    exact h
  have hF : (aloneC cs (P.n 0)).size = 56 := aloneC_size _ _
  have z0 := (kA2.cell 0).trans hP.kind.1
  have a0 := (kA4.cell 0).trans hP.kind.1
  have hkl : kLo (P.n 0) = 56 := by unfold kLo; rw [if_neg h1, if_neg h2, if_neg h3, if_neg h4, if_neg h5, if_neg h6]
  have hkh : kHi (P.n 0) = 56 := by unfold kHi; rw [if_neg h1, if_neg h2, if_neg h3, if_neg h4, if_neg h5, if_neg h6]
  have hFe : (aloneC cs (P.n 0)) = (zPk.setIfInBounds 0 (.int .i64 (P.n 0))) := by unfold aloneC; rw [hkl, hkh]; rfl
  have kC5 : Blk ((((w.alloc (.cells cs 44)).alloc (.cells zPk 44)).alloc (.cells zPk 44)).setCells (w.heap.size + 1 + 1) 0 (zPk.toList.set 0 (.int .i64 (P.n 0)))) (w.heap.size + 1 + 1) 44 (aloneC cs (P.n 0)) := by rw [hFe]; exact kC4
  have kB5 := kB4
  have m5 : Mod (fun b => b = (w.heap.size + 1 + 1)) ((((w.alloc (.cells cs 44)).alloc (.cells zPk 44)).alloc (.cells zPk 44)).setCells (w.heap.size + 1 + 1) 0 (zPk.toList.set 0 (.int .i64 (P.n 0)))) ((((w.alloc (.cells cs 44)).alloc (.cells zPk 44)).alloc (.cells zPk 44)).setCells (w.heap.size + 1 + 1) 0 (zPk.toList.set 0 (.int .i64 (P.n 0)))) := Mod.refl _ _
  have f1 : (P.n 0 == 1) = false := by simpa using h1
  have f2 : (P.n 0 == 2) = false := by simpa using h2
  have f3 : (P.n 0 == 3) = false := by simpa using h3
  have f4 : (P.n 0 == 4) = false := by simpa using h4
  have f5 : (P.n 0 == 5) = false := by simpa using h5
  have f6 : (P.n 0 == 6) = false := by simpa using h6
  have hi2 : (Tryd.prog.info? 44).map (·.size) = some (aloneC cs (P.n 0)).toList.length := by rw [Array.length_toList, hF]; exact info_pk
  have hi0 : (Tryd.prog.info? 44).map (·.size) = some (zPk.setIfInBounds 0 (.int .i64 (P.n 0))).size := by rw [hz1]; exact info_pk
  have r2 : ((((w.alloc (.cells cs 44)).alloc (.cells zPk 44)).alloc (.cells zPk 44)).setCells (w.heap.size + 1 + 1) 0 (zPk.toList.set 0 (.int .i64 (P.n 0)))).rangeAt (w.heap.size + 1 + 1) 0 (aloneC cs (P.n 0)).toList := kC5.rangeAll
  have t3 : ((((w.alloc (.cells cs 44)).alloc (.cells zPk 44)).alloc (.cells zPk 44)).setCells (w.heap.size + 1 + 1) 0 (zPk.toList.set 0 (.int .i64 (P.n 0)))).there (w.heap.size + 1) 0 (aloneC cs (P.n 0)).toList.length := kB5.there (by rw [Array.length_toList, hF]; exact Nat.le_refl _)
  have one3 : ∀ v ∈ (aloneC cs (P.n 0)).toList, v.oneCell' = true := (by have h := hP.alone.one;  exact h)
  have kB6 : Blk (((((w.alloc (.cells cs 44)).alloc (.cells zPk 44)).alloc (.cells zPk 44)).setCells (w.heap.size + 1 + 1) 0 (zPk.toList.set 0 (.int .i64 (P.n 0)))).setCells (w.heap.size + 1) 0 (aloneC cs (P.n 0)).toList) (w.heap.size + 1) 44 (aloneC cs (P.n 0)) := by
    have h := kB5.puts (aloneC cs (P.n 0)).toList 0
    rw [putL_all (by rw [hF]; rfl)] at h
    exact h
  have hbel : Below w.heap.size w (((((w.alloc (.cells cs 44)).alloc (.cells zPk 44)).alloc (.cells zPk 44)).setCells (w.heap.size + 1 + 1) 0 (zPk.toList.set 0 (.int .i64 (P.n 0)))).setCells (w.heap.size + 1) 0 (aloneC cs (P.n 0)).toList) := by
    have hb0 : Below w.heap.size w (((w.alloc (.cells cs 44)).alloc (.cells zPk 44)).alloc (.cells zPk 44)) := ((below_new w _).alloc (by simp) _).alloc (by simp; omega) _
    have hm : Mod (fun b => b = (w.heap.size + 1) ∨ b = (w.heap.size + 1 + 1)) (((w.alloc (.cells cs 44)).alloc (.cells zPk 44)).alloc (.cells zPk 44)) (((((w.alloc (.cells cs 44)).alloc (.cells zPk 44)).alloc (.cells zPk 44)).setCells (w.heap.size + 1 + 1) 0 (zPk.toList.set 0 (.int .i64 (P.n 0)))).setCells (w.heap.size + 1) 0 (aloneC cs (P.n 0)).toList) := ((m4.mono fun b _ e => .inr e).trans (m5.mono fun b _ e => .inr e)).trans ((mod_setCells (g := (w.heap.size + 1)) (aloneC cs (P.n 0)).toList ((((w.alloc (.cells cs 44)).alloc (.cells zPk 44)).alloc (.cells zPk 44)).setCells (w.heap.size + 1 + 1) 0 (zPk.toList.set 0 (.int .i64 (P.n 0)))) 0).mono fun b _ e => .inl e)
    exact hb0.trans (hm.to_below (by simp; omega) fun b hb e => by rcases e with e | e <;> omega)
  have hP0 := Lib.hid hP
  have HT1 := Lib.hid t1
  have HO1 := Lib.hid one1
  have HI0 := Lib.hid hi0
  have HI2 := Lib.hid hi2
  have HR2 := Lib.hid r2
  have HT3 := Lib.hid t3
  have HO3 := Lib.hid one3
  have HB6 := Lib.hid kB6
  have HBEL := Lib.hid hbel
  skip
  clear t1 one1 hi0 hi2 r2 t3 one3 kB6 hbel
  clear hP kA2 kA3 kB3 kC3 m4 kA4 kB4 kC4 kC5 kB5 m5 hF hz1 hFe hkl hkh h1 h2 h3 h4 h5 h6
  go_enter Tryd.func70, Tryd.ntmps70
  go_wp2_with (refine wpList_alloc_z rfl rfl zero_pk ?_; refine Hid.out ?_)
  refine Lib.hid ?_
  go_wp2_with (refine wpList_build_pk (k := (P.n 0)) rfl ?_; refine Hid.out ?_)
  refine Lib.hid ?_
  go_wp2_with (refine wpList_alloc_z rfl rfl zero_pk ?_; refine Hid.out ?_)
  refine Lib.hid ?_
  go_wp2_with (refine wpList_store_mid rfl 44 _ _ rfl (w.heap.size + 1 + 1) 0 (zPk.setIfInBounds 0 (.int .i64 (P.n 0))) rfl rfl HT1.out HI0.out HO1.out ?_; refine Hid.out ?_)
  refine Lib.hid ?_
  go_wp2_with (refine wpList_load_rg rfl (ty := 44) rfl rfl HR2.out Tryd.underlying44 rfl HI2.out ?_; refine Hid.out ?_)
  refine Lib.hid ?_
  go_wp2_with (refine wpList_store_rg rfl (ty := 44) rfl rfl rfl HT3.out HI2.out HO3.out ?_; refine Hid.out ?_)
  refine Lib.hid ?_
  go_wp2_with fail
  refine bodyPost_ret (v := .agg (aloneC cs (P.n 0))) (results_cell_row Tryd.results70 _ _ (w.heap.size + 1) _ _ _ _ rfl HB6.out Tryd.underlying44 rfl (by rw [aloneC_size]; exact info_pk)) rfl ?_
  exact ⟨rfl, HBEL.out⟩
theorem alone_any {w : World} {cs : Array Value} {P : Pk} (hP : PkV w cs P) : Calls Tryd.prog 70 #[.agg cs] w fun e w' => e = .returned (.agg (aloneC cs (P.n 0))) ∧ Below w.heap.size w w' := by
  by_cases h1 : P.n 0 = 1
  · exact alone_ask hP h1
  by_cases h2 : P.n 0 = 2
  · exact alone_says hP h2
  by_cases h3 : P.n 0 = 3
  · exact alone_req hP h3
  by_cases h4 : P.n 0 = 4
  · exact alone_resp hP h4
  by_cases h5 : P.n 0 = 5
  · exact alone_call hP h5
  by_cases h6 : P.n 0 = 6
  · exact alone_reply hP h6
  exact alone_none hP h1 h2 h3 h4 h5 h6
end Go.Proofs.YtdckdjkkaangmaaDoor
