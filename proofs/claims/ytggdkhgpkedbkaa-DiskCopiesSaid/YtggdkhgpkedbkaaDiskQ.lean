/- Sync, Start, Wipe, New. -/
import Derived.Test.YtggdkhgpkedbkaaDiskP
namespace Go.Proofs.Ytggdkhgpkedbkaa
open Go.RowKit

/-- What lasts is what is seen. -/
def Dk.rests (x : Dk) : Dk := { x with seen := x.last, waits := [] }
def Dk.sync (x : Dk) : Int × Dk := if x.down then (6, x) else (0, ({ x with last := x.seen }).rests)
def Dk.start (x : Dk) : Int × Dk := if x.down then (0, { x with down := false }) else (5, x)
def Dk.wipe (x : Dk) : Dk := { ({ x with last := [] } : Dk).rests with serial := IntKind.u64.wrap (x.serial + 1) }
def Dk.new (cap : Int) : Dk := { seen := [], last := [], waits := [], cap := cap, serial := 1, down := false }
/-- A disk whose struct is laid anew: its maps are new or its own. -/
theorem To.relaid {w w2 : World} {d : Nat} {U V : Nat → Prop} {x x' : Dk} {mf ml mf' ml' : Nat} {v v' : Value} (h : DskAt w d U V x mf ml v) {cs : List Value}
    (hM : Mod U w w2) (hblk : DskB w2 d (some mf') (some ml') v' x'.cap x'.serial x'.down)
    (V' : Nat → Prop) (hV' : ∀ b, V' b → V b ∨ w.heap.size ≤ b) (hVu : ∀ b, V' b → ¬ U b) (hne : mf' ≠ ml') (hf : U mf' ∨ w.heap.size ≤ mf') (hl : U ml' ∨ w.heap.size ≤ ml') (hv : ∀ b, v'.ownBlock = some b → U b)
    (hf2 : ¬ V' mf') (hl2 : ¬ V' ml') (hseen : Fil w2 V' mf' x'.seen) (hlast : Fil w2 V' ml' x'.last) (hw : WaitsR w2 V' v' x'.waits) (hlo : ∀ b, V' b → b < w2.heap.size) : To w d U V x' w2 := by
  refine ⟨fun b => U b ∨ b = mf' ∨ b = ml', V', ⟨mf', ml', v', ⟨hblk, hne, .inl h.ud, .inr (.inl rfl), .inr (.inr rfl), fun b e => .inl (hv b e), hseen, hlast, hw, ?_, ?_, hlo⟩⟩, hM, ?_, hV'⟩
  · rintro b (e | e | e) hb
    · exact hVu b hb e
    · exact hf2 (e ▸ hb)
    · exact hl2 (e ▸ hb)
  · rintro b (e | e | e)
    · exact Nat.lt_of_lt_of_le (h.ulo b e) hM.size
    · exact e ▸ hseen.lt
    · exact e ▸ hlast.lt
  · rintro b (e | e | e)
    · exact .inl e
    · exact e ▸ hf
    · exact e ▸ hl
set_option maxRecDepth 100000 in
set_option maxHeartbeats 1000000 in
theorem rests_any {w : World} {d : Nat} {U V : Nat → Prop} {x : Dk} (h : Dsk w d U V x) (hx : Small x) : Calls Try.prog 42 #[pd d] w fun e w' => e = .returned (.tuple #[]) ∧ To w d U V x.rests w' := by
  obtain ⟨mf, ml, v, h⟩ := h
  have hown := own_any h.last h.vlo (by have := hx.fl; omega) (by have := hx.nl; omega)
  have d1 := Blk.cell h.blk 1
  simp only [List.getElem?_toArray, List.getElem?_cons_zero, List.getElem?_cons_succ] at d1
  have hdl := Blk.lt h.blk
  unfold pd fv at *
  go_enter Try.func42, Try.ntmps42
  go_wp2_with (go_at_call 41; refine hown.mono ?_; rintro e w1 ⟨⟨m', rfl, hm, hfil⟩, hb⟩; have k1 : Blk w1 _ _ _ := Blk.below h.blk hb hdl; have q0 := k1.cell 0; have q2 := k1.cell 2; have f0 := k1.free 0; have f2 := k1.free 2; simp only [List.getElem?_toArray, List.getElem?_cons_zero, List.getElem?_cons_succ] at q0 q2; unfold fv)
  go_end0
  have hM : Mod (fun b => b = d) w1 ((w1.setCell ⟨d, 0, none⟩ (.map (some m'))).setCell ⟨d, 2, none⟩ (.slice none 0 0)) := ((Mod.refl (fun b => b = d) w1).set (p := ⟨d, 0, none⟩) (fun _ => rfl) _).set (p := ⟨d, 2, none⟩) (fun _ => rfl) _
  have hz := hb.size
  have hz2 := hM.size
  have hud := h.ulo d h.ud
  have hMU : Mod U w ((w1.setCell ⟨d, 0, none⟩ (.map (some m'))).setCell ⟨d, 2, none⟩ (.slice none 0 0)) := (Mod.below (S := U) hb (Nat.le_refl _)).join hM fun b _ e => e ▸ h.ud
  have hVd : ∀ b, V b → ¬ b = d := fun b hb e => h.apart _ h.ud (e ▸ hb)
  have hNd : ∀ b, New w.heap.size w1 m' b → ¬ b = d := fun b hb e => by have := hb.1; omega
  have hll := h.ulo ml h.ul
  refine ⟨rfl, To.relaid h (cs := []) hMU ((k1.put 0 _).put 2 _) (fun b => V b ∨ New w.heap.size w1 m' b) (fun b e => e.imp id fun e => e.1) (fun b e hu => e.elim (h.apart b hu) fun e => by have := e.1; have := h.ulo b hu; omega) (by omega) (.inr hm) (.inl h.ul) (fun b e => by cases e)
    (fun e => e.elim (fun e => by have := h.vlo _ e; omega) fun e => e.2.2 rfl) (fun e => e.elim (h.apart _ h.ul) fun e => by have := e.1; omega) ?_ ?_ (WaitsR.nil _ _) fun b e => e.elim (fun e => by have := h.vlo _ e; omega) fun e => by have := e.2.1; omega⟩
  · exact (hfil.mod hM (by omega) hNd).mono fun b e => .inr e
  · exact ((h.last.below hb).mod hM (fun e => h.last.ne h.blk e.symm) hVd).mono fun b e => .inl e
set_option maxRecDepth 100000 in
set_option maxHeartbeats 1000000 in
theorem sync_any {w : World} {d : Nat} {U V : Nat → Prop} {x : Dk} (h : Dsk w d U V x) (hx : Small x) : Calls Try.prog 16 #[pd d] w (Ans w d U V x.sync) := by
  have h0 := h
  obtain ⟨mf, ml, v, h⟩ := h
  have hoff := off_any h.blk
  have hown := own_any h.seen h.vlo (by have := hx.fs; omega) (by have := hx.ns; omega)
  have d0 := Blk.cell h.blk 0
  simp only [List.getElem?_toArray, List.getElem?_cons_zero, List.getElem?_cons_succ] at d0
  have hdl := Blk.lt h.blk
  unfold pd fv at *
  cases hdn : x.down
  · have HD := Lib.hid hdn
    rw [hdn] at hoff
    clear hdn
    go_enter Try.func16, Try.ntmps16
    go_wp2_with (first
      | (go_at_call 40; refine hoff.mono ?_; rintro e w1 ⟨rfl, rfl⟩)
      | (go_at_call 41; refine hown.mono ?_; rintro e w1 ⟨⟨m', rfl, hm, hfil⟩, hb⟩; have k1 : Blk w1 _ _ _ := Blk.below h.blk hb hdl; have q1 := k1.cell 1; have f1 := k1.free 1; simp only [List.getElem?_toArray, List.getElem?_cons_zero, List.getElem?_cons_succ] at q1; unfold fv))
    have hM : Mod (fun b => b = d) w1 (w1.setCell ⟨d, 1, none⟩ (.map (some m'))) := (Mod.refl (fun b => b = d) w1).set (p := ⟨d, 1, none⟩) (fun _ => rfl) _
    have hz := hb.size
    have hz2 := hM.size
    have hud := h.ulo d h.ud
    have hMU : Mod U w (w1.setCell ⟨d, 1, none⟩ (.map (some m'))) := (Mod.below (S := U) hb (Nat.le_refl _)).join hM fun b _ e => e ▸ h.ud
    have hVd : ∀ b, V b → ¬ b = d := fun b hb e => h.apart _ h.ud (e ▸ hb)
    have hNd : ∀ b, New w.heap.size w1 m' b → ¬ b = d := fun b hb e => by have := hb.1; omega
    have hlf := h.ulo mf h.uf
    obtain ⟨E, hwo, _⟩ := h.waits
    have hne := own_ne hwo h.blk (by decide)
    have hto : To w d U V { x with last := x.seen } (w1.setCell ⟨d, 1, none⟩ (.map (some m'))) := by
      refine To.relaid h (cs := []) hMU (k1.put 1 _) (fun b => V b ∨ New w.heap.size w1 m' b) (fun b e => e.imp id fun e => e.1) (fun b e hu => e.elim (h.apart b hu) fun e => by have := e.1; have := h.ulo b hu; omega) (by omega) (.inl h.uf) (.inr hm) h.uv
        (fun e => e.elim (h.apart _ h.uf) fun e => by have := e.1; omega) (fun e => e.elim (fun e => by have := h.vlo _ e; omega) fun e => e.2.2 rfl) ?_ ?_ ?_ fun b e => e.elim (fun e => by have := h.vlo _ e; omega) fun e => by have := e.2.1; omega
      · exact ((h.seen.below hb).mod hM (fun e => h.seen.ne h.blk e.symm) hVd).mono fun b e => .inl e
      · exact (hfil.mod hM (by omega) hNd).mono fun b e => .inr e
      · exact ((h.waits.mod (S := fun _ => False) (Mod.below hb (Nat.le_refl _)) (fun _ _ e => e) fun _ _ e => e).mod hM (fun b e e' => hne (e' ▸ e)) hVd).mono fun b e => .inl e
    obtain ⟨U2, V2, hD2, hM2, hU2, hV2⟩ := hto
    have hrest := rests_any hD2 (x := { x with last := x.seen }) ⟨hx.fs, hx.fs, hx.ns, hx.ns, hx.nw, hx.c0, hx.c1⟩
    unfold pd at hrest
    clear hD2 hM hMU q1 f1 k1 hfil
    go_wp2_with (go_at_call 42; refine hrest.mono ?_; rintro e w9 ⟨rfl, hto⟩)
    go_ret
    exact Ans.mk (by unfold Dk.sync; rw [HD.out]; rfl) (To.more hM2 hU2 hV2 hto)
  · have HD := Lib.hid hdn
    rw [hdn] at hoff
    clear hdn
    go_enter Try.func16, Try.ntmps16
    go_wp2_with (go_at_call 40; refine hoff.mono ?_; rintro e w1 ⟨rfl, rfl⟩)
    go_ret
    exact Ans.mk (by unfold Dk.sync; rw [HD.out]; rfl) (To.same h0 (Below.refl _ _))
/-- One cell of the struct but its maps and what waits. -/
theorem To.field {w : World} {d : Nat} {U V : Nat → Prop} {x x' : Dk} {mf ml : Nat} {v : Value} (h : DskAt w d U V x mf ml v) (i : Nat) (u : Value) (hblk : DskB (w.setCell ⟨d, i, none⟩ u) d (some mf) (some ml) v x'.cap x'.serial x'.down) (h1 : x'.seen = x.seen) (h2 : x'.last = x.last) (h3 : x'.waits = x.waits) : To w d U V x' (w.setCell ⟨d, i, none⟩ u) := by
  have hM : Mod (fun b => b = d) w (w.setCell ⟨d, i, none⟩ u) := (Mod.refl (fun b => b = d) w).set (p := ⟨d, i, none⟩) (fun _ => rfl) _
  have hVd : ∀ b, V b → ¬ b = d := fun b hb e => h.apart _ h.ud (e ▸ hb)
  obtain ⟨E, hwo, _⟩ := h.waits
  have hne := own_ne hwo h.blk (by decide)
  exact ⟨U, V, ⟨mf, ml, v, ⟨hblk, h.ne, h.ud, h.uf, h.ul, h.uv, h1 ▸ h.seen.mod hM (fun e => h.seen.ne h.blk e.symm) hVd, h2 ▸ h.last.mod hM (fun e => h.last.ne h.blk e.symm) hVd, h3 ▸ h.waits.mod hM (fun b e e' => hne (e' ▸ e)) hVd, h.apart,
    fun b hb => Nat.lt_of_lt_of_le (h.ulo b hb) hM.size, fun b hb => Nat.lt_of_lt_of_le (h.vlo b hb) hM.size⟩⟩, hM.mono fun b _ e => e ▸ h.ud, fun _ => .inl, fun _ => .inl⟩
set_option maxHeartbeats 1000000 in
theorem start_any {w : World} {d : Nat} {U V : Nat → Prop} {x : Dk} (h : Dsk w d U V x) : Calls Try.prog 13 #[pd d] w (Ans w d U V x.start) := by
  have h0 := h
  obtain ⟨mf, ml, v, h⟩ := h
  have hnone := none_any h.blk
  have d5 := Blk.cell h.blk 5
  have f5 := Blk.free h.blk 5
  simp only [List.getElem?_toArray, List.getElem?_cons_zero, List.getElem?_cons_succ] at d5
  unfold pd at *
  cases hdn : x.down
  · have HD := Lib.hid hdn
    rw [hdn] at d5
    clear hdn
    go_enter Try.func13, Try.ntmps13
    go_wp2_with (go_at_call 34; refine hnone.mono ?_; rintro e w1 ⟨rfl, rfl⟩)
    go_ret
    exact Ans.mk (by unfold Dk.start; rw [HD.out]; rfl) (To.same h0 (Below.refl _ _))
  · have HD := Lib.hid hdn
    rw [hdn] at d5
    clear hdn
    go_enter Try.func13, Try.ntmps13
    go_wp2_with (go_at_call 34; refine hnone.mono ?_; rintro e w1 ⟨rfl, rfl⟩)
    go_ret
    exact Ans.mk (by unfold Dk.start; rw [HD.out]; rfl) (To.field (x' := { x with down := false }) h 5 (.bool false) (Blk.put h.blk 5 _) rfl rfl rfl)
set_option maxHeartbeats 1000000 in
theorem wipe_any {w : World} {d : Nat} {U V : Nat → Prop} {x : Dk} (h : Dsk w d U V x) (hx : Small x) : Calls Try.prog 28 #[pd d] w fun e w' => e = .returned (.tuple #[]) ∧ To w d U V x.wipe w' := by
  have hmm := @run_makeMap Try.prog
  have h0 := h
  obtain ⟨mf, ml, v, h⟩ := h
  have hnone := none_any h.blk
  have hdl := Blk.lt h.blk
  have hb := below_new w (.map #[] 0)
  have k1 : Blk (w.alloc (.map #[] 0)) _ _ _ := Blk.below h.blk hb hdl
  have q1 := k1.cell 1
  have f1 := k1.free 1
  simp only [List.getElem?_toArray, List.getElem?_cons_zero, List.getElem?_cons_succ] at q1
  have hM : Mod (fun b => b = d) (w.alloc (.map #[] 0)) ((w.alloc (.map #[] 0)).setCell ⟨d, 1, none⟩ (.map (some w.heap.size))) := (Mod.refl (fun b => b = d) _).set (p := ⟨d, 1, none⟩) (fun _ => rfl) _
  have hz := hb.size
  have hz2 := hM.size
  have hud := h.ulo d h.ud
  have hlf := h.ulo mf h.uf
  have hMU : Mod U w ((w.alloc (.map #[] 0)).setCell ⟨d, 1, none⟩ (.map (some w.heap.size))) := (Mod.below (S := U) hb (Nat.le_refl _)).join hM fun b _ e => e ▸ h.ud
  have hVd : ∀ b, V b → ¬ b = d := fun b hb e => h.apart _ h.ud (e ▸ hb)
  obtain ⟨E, hwo, _⟩ := h.waits
  have hne := own_ne hwo h.blk (by decide)
  have hto : To w d U V { x with last := [] } ((w.alloc (.map #[] 0)).setCell ⟨d, 1, none⟩ (.map (some w.heap.size))) := by
    refine To.relaid h (cs := []) hMU (k1.put 1 _) V (fun b e => .inl e) (fun b e hu => h.apart b hu e) (by omega) (.inl h.uf) (.inr (Nat.le_refl _)) h.uv
      (h.apart _ h.uf) (fun e => by have := h.vlo _ e; omega) ?_ ?_ ?_ fun b e => by have := h.vlo _ e; omega
    · exact (h.seen.below hb).mod hM (fun e => h.seen.ne h.blk e.symm) hVd
    · exact (Fil.made w V).mod hM (by omega) hVd
    · exact (h.waits.mod (S := fun _ => False) (Mod.below hb (Nat.le_refl _)) (fun _ _ e => e) fun _ _ e => e).mod hM (fun b e e' => hne (e' ▸ e)) hVd
  rw [World.setCell_alloc_past _ _ _ _ hdl] at hto
  obtain ⟨U2, V2, hD2, hM2, hU2, hV2⟩ := hto
  have hrest := rests_any hD2 (x := { x with last := [] }) ⟨hx.fs, by simp [fsize], hx.ns, by simp, hx.nw, hx.c0, hx.c1⟩
  unfold pd at *
  clear hD2 hM hMU hz hz2
  go_enter Try.func28, Try.ntmps28
  go_wp2_with (first
    | (go_at_call 34; refine hnone.mono ?_; rintro e w1 ⟨rfl, rfl⟩)
    | (go_at_call 42; refine hrest.mono ?_; rintro e w9 ⟨rfl, ⟨U3, V3, ⟨mf3, ml3, v3, h3⟩, hM3, hU3, hV3⟩⟩; have d4 : w9.cell? ⟨d, 4, none⟩ = some (.int .u64 x.serial) := Blk.cell h3.blk 4; have f4 := Blk.free h3.blk 4))
  go_end0
  refine ⟨rfl, To.more hM2 hU2 hV2 (To.more hM3 hU3 hV3 ?_)⟩
  exact To.field h3 4 _ (Blk.put h3.blk 4 _) rfl rfl rfl
/-- A new disk. -/
def NewPost (w : World) (cap : Int) (e : Ending) (w' : World) : Prop :=
  Below w.heap.size w w' ∧ if cap < 0 ∨ 65536 < cap then e = .returned (.tuple #[.pointer none, .int .i64 1]) else ∃ d, e = .returned (.tuple #[pd d, .int .i64 0]) ∧ Dsk w' d (From w.heap.size w') (fun _ => False) (Dk.new cap)
set_option maxHeartbeats 1000000 in
theorem new_any (cap : Int) (w : World) : Calls Try.prog 9 #[.int .i64 cap] w (NewPost w cap) := by
  have hmm := @run_makeMap Try.prog
  by_cases h1 : cap < 0
  · have hd : decide (cap < 0) = true := by simpa using h1
    go_enter Try.func9, Try.ntmps9
    go_wp2_with fail
    go_ret2
    exact ⟨Below.refl _ _, by rw [if_pos (.inl h1)]; rfl⟩
  · have hd : decide (cap < 0) = false := by simpa using h1
    by_cases h2 : 65536 < cap
    · have hd2 : decide (65536 < cap) = true := by simpa using h2
      go_enter Try.func9, Try.ntmps9
      go_wp2_with fail
      go_ret2
      exact ⟨Below.refl _ _, by rw [if_pos (.inr h2)]; rfl⟩
    · have hd2 : decide (65536 < cap) = false := by simpa using h2
      go_enter Try.func9, Try.ntmps9
      go_wp2_with fail
      go_ret2
      have hb : Below w.heap.size w (((w.alloc (.map #[] 0)).alloc (.map #[] 0)).alloc (.cells #[.map (some w.heap.size), .map (some (w.heap.size + 1)), .slice none 0 0, .int .i64 cap, .int .u64 1, .bool false] 58)) := (((Below.refl _ w).alloc (Nat.le_refl _) _).alloc (by simp) _).alloc (by simp; omega) _
      have hk := Blk.new ((w.alloc (.map #[] 0)).alloc (.map #[] 0)) 58 #[.map (some w.heap.size), .map (some (w.heap.size + 1)), .slice none 0 0, .int .i64 cap, .int .u64 1, .bool false]
      rw [alloc_size, alloc_size] at hk
      have hz : (((w.alloc (.map #[] 0)).alloc (.map #[] 0)).alloc (.cells #[.map (some w.heap.size), .map (some (w.heap.size + 1)), .slice none 0 0, .int .i64 cap, .int .u64 1, .bool false] 58)).heap.size = w.heap.size + 3 := by simp
      have hn := (Mod.refl (fun _ => False) (w.alloc (.map #[] 0))).alloc (.map #[] 0)
      refine ⟨hb, ?_⟩
      rw [if_neg (by omega)]
      refine ⟨w.heap.size + 1 + 1, rfl, w.heap.size, w.heap.size + 1, .slice none 0 0, ⟨hk, by omega, ⟨by omega, by omega⟩, ⟨by omega, by omega⟩, ⟨by omega, by omega⟩, fun b e => (by cases e), ?_, ?_, WaitsR.nil _ _, fun _ _ e => e, fun b e => e.2, fun b e => e.elim⟩⟩
      · exact ((Fil.made w _).mod hn (fun e => e) fun _ _ e => e).mod ((Mod.refl (fun _ => False) _).alloc _) (fun e => e) fun _ _ e => e
      · have := (Fil.made (w.alloc (.map #[] 0)) (fun _ => False)).mod ((Mod.refl (fun _ => False) _).alloc (.cells #[.map (some w.heap.size), .map (some (w.heap.size + 1)), .slice none 0 0, .int .i64 cap, .int .u64 1, .bool false] 58)) (fun e => e) fun _ _ e => e
        rw [alloc_size] at this
        exact this
end Go.Proofs.Ytggdkhgpkedbkaa
