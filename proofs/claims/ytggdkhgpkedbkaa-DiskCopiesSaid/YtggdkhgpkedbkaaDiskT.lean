/- Crash. -/
import Derived.Test.YtggdkhgpkedbkaaDiskR
namespace Go.Proofs.Ytggdkhgpkedbkaa
open Go.RowKit

/-- The files that last have been changed. -/
theorem DskAt.did {W w1 : World} {d : Nat} {U V : Nat → Prop} {x x' : Dk} {mf ml : Nat} {v : Value} {F' : Files} (h : DskAt W d U V x mf ml v) (hd : DidTo W V ml F' w1)
    (h1 : x'.seen = x.seen) (h2 : x'.last = F') (h3 : x'.waits = x.waits) (h4 : x'.cap = x.cap) (h5 : x'.serial = x.serial) (h6 : x'.down = x.down) : DskAt w1 d U (fun b => V b ∨ From W.heap.size w1 b) x' mf ml v := by
  have hM := hd.2
  have hz1 := hM.size
  have hVl : ∀ b, V b → ¬ b = ml := fun b hb e => h.apart _ h.ul (e ▸ hb)
  obtain ⟨E, hwo, _⟩ := h.waits
  have hnl := own_ne_fil hwo h.last
  refine ⟨?_, h.ne, h.ud, h.uf, h.ul, h.uv, ?_, ?_, ?_, ?_, fun b hb => Nat.lt_of_lt_of_le (h.ulo b hb) hz1, ?_⟩
  · have := Blk.mod h.blk hM (h.last.ne h.blk)
    unfold DskB
    rw [h4, h5, h6]
    exact this
  · rw [h1]
    exact (h.seen.mod hM h.ne hVl).mono fun b => .inl
  · rw [h2]
    exact hd.1
  · rw [h3]
    exact (h.waits.mod hM (fun b e e' => hnl (e' ▸ e)) hVl).mono fun b => .inl
  · intro b hb hv
    rcases hv with hv | hv
    · exact h.apart b hb hv
    · have := h.ulo b hb; have := hv.1; omega
  · intro b hb
    rcases hb with hb | hb
    · have := h.vlo b hb; omega
    · exact hb.2
/-- The entry j of what waits. -/
theorem WaitsR.at_ {w : World} {V : Nat → Prop} {A0 : Option Addr} {c0 : Nat} {cs : List Chg} (h : WaitsR w V (.slice A0 cs.length c0) cs) {j : Nat} (hj : j < cs.length) :
    ∃ g dv tv, A0 = some ⟨g, 0, none⟩ ∧ DoesV w V dv cs[j] ∧ TornV w V tv cs[j] ∧ g < w.heap.size ∧ w.cell? ⟨g, j * 3, none⟩ = some dv ∧ w.cell? ⟨g, j * 3 + 1, none⟩ = some tv ∧ w.cell? ⟨g, j * 3 + 2, none⟩ = some (.int .i64 (cs[j].size : Int)) := by
  obtain ⟨E, hown, rfl, hE⟩ := h
  obtain ⟨g, c, hv, _, _, _⟩ := own_ptr hown (by omega)
  have hgl := hown.lt g (by rw [hv]; rfl)
  injection hv with hv _ _
  subst hv
  have hj' : j < E.length := by simpa using hj
  have hl := wrow_len E
  obtain ⟨a1, a2, a3⟩ := wrow_at E hj'
  have hp := hE _ (List.getElem_mem hj')
  refine ⟨g, E[j].1.1, E[j].1.2, rfl, by simpa using hp.1, by simpa using hp.2, hgl.2, ?_, ?_, ?_⟩
  · rw [hown.cellAt _ (by omega), a1]
  · rw [hown.cellAt _ (by omega), a2]
  · rw [hown.cellAt _ (by omega), a3]
    simp
theorem neq_nilfunc (w : World) : (binOp .neq 73 .nilFunc .nilFunc).run Try.prog w = .ok (.bool false) w := by kernel_rfl
theorem neq_func (w : World) (f : FuncId) (lb : Array Value) : (binOp .neq 73 (.func (.func f) #[] lb) .nilFunc).run Try.prog w = .ok (.bool true) w := by kernel_rfl
set_option maxRecDepth 100000 in
set_option maxHeartbeats 8000000 in
theorem crash_up {w : World} {d : Nat} {U V : Nat → Prop} {x : Dk} (h : Dsk w d U V x) {N : Nat} (hx : Fine N x) (hN : N ≤ 999999) (keep torn : Int) (hdn : x.down = false) :
    Calls Try.prog 19 #[pd d, .int .i64 keep, .int .i64 torn] w (Ans w d U V (x.crash keep torn)) := by
  have h0 := h
  obtain ⟨mf, ml, v, h⟩ := h
  have hoff := off_any h.blk
  rw [hdn] at hoff
  have d2 := Blk.cell h.blk 2
  simp only [List.getElem?_toArray, List.getElem?_cons_zero, List.getElem?_cons_succ] at d2
  obtain ⟨E, hown, hcs, hE⟩ := h.waits
  obtain ⟨A0, c0, rfl, _, hc0⟩ := own_slice hown
  have HCS := Lib.hid hcs
  clear hcs
  unfold pd at *
  obtain ⟨mx, hmx⟩ : ∃ mx : Int, (if keep < 0 then (0 : Int) else keep) = mx := ⟨_, rfl⟩
  have hkk : (if (x.waits.length : Int) < mx then (x.waits.length : Int) else mx) = (keeps x keep : Int) := by
    subst hmx
    unfold keeps
    split <;> split <;> omega
  have hkl := keeps_le x keep
  obtain ⟨kk, hk0⟩ : ∃ kk, keeps x keep = kk := ⟨_, rfl⟩
  rw [hk0] at hkk hkl
  have HK := Lib.hid hk0
  clear hk0
  go_enter Try.func19, Try.ntmps19
  go_wp2_with (go_at_call 40; refine hoff.mono ?_; rintro e w1 ⟨rfl, rfl⟩)
  have HU := Lib.hid h.ulo
  have hnw := hx.nw
  go_loopw [27] (fun i wr => ∃ j : Nat, j ≤ kk ∧ i = .int .i64 j ∧ DskAt wr d U (fun b => V b ∨ From w.heap.size wr b) { x with last := fold (x.waits.take j) x.last } mf ml (.slice A0 x.waits.length c0) ∧ Mod U w wr) (fun i _ => kk - (intOf i).toNat)
  case atStart => exact ⟨0, by omega, rfl, h.more (x := x) (fun _ e => .inl e) (fun b hu e => e.elim (h.apart b hu) fun e => by have := h.ulo b hu; have := e.1; omega) (fun b e => e.elim (h.vlo b) fun e => e.2), Mod.refl _ _⟩
  case round =>
    obtain ⟨j, hj, rfl, hD, hM⟩ := hrel
    by_cases hlt : j < kk
    · obtain ⟨g, dv, tv, hA, hdv, htv, hgl, e0, e1, e2⟩ := WaitsR.at_ hD.waits (j := j) (by show j < x.waits.length; omega)
      subst hA
      have hc : x.waits[j]? = some (x.waits[j]'(by omega)) := List.getElem?_eq_getElem (by omega)
      have HC := Lib.hid (take_done hc x.last)
      generalize x.waits[j]'(by omega) = c at hdv htv e2 HC
      clear hc
      have hF : fsize (fold (x.waits.take j) x.last) ≤ 70368744177664 := by have := hx.size j (by omega); have := hx.c1; omega
      have hL : (fold (x.waits.take j) x.last).length < 9223372036854775807 := by have := hx.len j (by omega); omega
      have hVl : ¬ (V ml ∨ From w.heap.size wr ml) := fun e => hD.apart _ hD.ul e
      obtain ⟨g2, lb, e, eg, _⟩ := does_any hdv hD.last hVl hD.vlo hF hL
      subst e
      have hbW := below_new wr (.cells #[.func (.func g2) #[] lb, tv, .int .i64 (c.size : Int)] 75)
      have hD' := hD.below hbW.drew
      have hDW := hD.below hbW
      have hz := alloc_size wr (.cells #[.func (.func g2) #[] lb, tv, .int .i64 (c.size : Int)] 75)
      have k0 := Blk.new wr 75 #[.func (.func g2) #[] lb, tv, .int .i64 (c.size : Int)]
      obtain ⟨g', lb', e, _, hcall⟩ := does_any (hdv.mod (S := fun _ => False) (Mod.below hbW.drew (Nat.le_refl _)) fun _ _ e => e) hD'.last hVl hD'.vlo hF hL
      injection e with e _ e2
      injection e with e
      subst e e2
      have hst1 := fun (a : Addr) (m : Mode) (w : World) => run_store Try.prog w a (.func (.func g2) #[] lb) m rfl
      have hst2 := fun (a : Addr) (m : Mode) (w : World) => run_store Try.prog w a tv m htv.one
      go_wp2_with fail
      generalize hw0 : wr.alloc (.cells #[.func (.func g2) #[] lb, tv, .int .i64 (c.size : Int)] 75) = W at *
      have HZ := Lib.hid hz
      have d1 : W.cell? ⟨d, 1, none⟩ = some (.map (some ml)) := Blk.cell hDW.blk 1
      have b0 : W.cell? ⟨wr.heap.size, 0, none⟩ = some (.func (.func g2) #[] lb) := Blk.cell k0 0
      clear hw0 hz hst1 hst2 e0 e1 e2 d2
      refine PF.pf_begin (by kernel_rfl) ?_
      refine PF.pf_take0 0 (by kernel_rfl) rfl (fun _ _ _ _ _ h => h) (by kernel_rfl) (fun u => by go_simp; try rfl) ?_
      try simp only [Act.put, List.setIfInBounds_toArray, List.set_cons_zero, List.set_cons_succ]
      refine PF.pf_take1 1 (PF.Same (wr.heap.size) _) (by kernel_rfl) rfl (fun _ _ _ _ _ h => h) (by kernel_rfl) (PF.Same.refl _ _) (fun u hu => by have hcu := hu.cell; go_simp; try rfl) ?_
      try simp only [Act.put, List.setIfInBounds_toArray, List.set_cons_zero, List.set_cons_succ]
      refine PF.pf_take0 2 (by kernel_rfl) rfl (fun _ _ _ _ _ h => h) (by kernel_rfl) (fun u => by go_simp; try rfl) ?_
      try simp only [Act.put, List.setIfInBounds_toArray, List.set_cons_zero, List.set_cons_succ]
      refine PF.pf_take0 3 (by kernel_rfl) rfl (fun _ _ _ _ _ h => h) (by kernel_rfl) (fun u => by go_simp; try rfl) ?_
      try simp only [Act.put, List.setIfInBounds_toArray, List.set_cons_zero, List.set_cons_succ]
      refine PF.pf_take0 4 (by kernel_rfl) rfl (fun _ _ _ _ _ h => h) (by kernel_rfl) (fun u => by go_simp; try rfl) ?_
      try simp only [Act.put, List.setIfInBounds_toArray, List.set_cons_zero, List.set_cons_succ]
      refine PF.pf_take1 5 (PF.Same (d) _) (by kernel_rfl) rfl (fun _ _ _ _ _ h => h) (by kernel_rfl) (PF.Same.refl _ _) (fun u hu => by have hcu := hu.cell; go_simp; try rfl) ?_
      try simp only [Act.put, List.setIfInBounds_toArray, List.set_cons_zero, List.set_cons_succ]
      refine PF.pf_exec 6 (by kernel_rfl) rfl (by kernel_rfl) (fun K hK => ?_)
      go_simp
      refine hcall.mono ?_
      rintro e w1 ⟨rfl, hdid⟩
      refine hK _ _ (by repeat (first | exact PF.owes_nil | refine PF.owes_left ?_ | refine PF.owes_no (by decide +kernel) ?_ | refine PF.owes_yes (by first | rfl | assumption | go_simp) ?_)) ?_
      clear hK K
      try simp only [Act.put, List.setIfInBounds_toArray, List.set_cons_zero, List.set_cons_succ]
      refine PF.pf_done (by kernel_rfl) ?_
      have hzW := HZ.out
      have hzM := hM.size
      have hzd := hdid.2.size
      rw [drew_size] at hzd
      have hD1 := (hD'.did hdid (x' := { x with last := fold (x.waits.take (j + 1)) x.last }) rfl HC.out rfl rfl rfl rfl).more (V' := fun b => V b ∨ From w.heap.size w1 b)
        (fun b hb => hb.elim (fun hb => hb.imp id fun e => ⟨e.1, by have := e.2; omega⟩) fun e => .inr ⟨by have := e.1; rw [drew_size] at this; omega, e.2⟩)
        (fun b hu hv => hv.elim (h.apart b hu) fun e => by have := HU.out b hu; have := e.1; omega) fun b hv => hv.elim (fun e => by have := h.vlo b e; omega) fun e => e.2
      have hM1 : Mod U w w1 := (hM.trans (Mod.below hbW.drew (Nat.le_refl _))).join hdid.2 fun b _ e => e ▸ h.ul
      clear hdid hcall hD hM hD' hDW hbW
      go_wp2_with fail
      go_roundw
      case rel => exact ⟨j + 1, by omega, by go_num, hD1, hM1⟩
      case measure => simp [intOf]; omega
    · obtain rfl : j = kk := by omega
      have d2' : wr.cell? ⟨d, 2, none⟩ = some (.slice A0 x.waits.length c0) := Blk.cell hD.blk 2
      have hsm := hx.small (by omega)
      have hF : fsize (fold (x.waits.take j) x.last) ≤ 65536 := by have := hx.size j (by omega); have := hx.c1; omega
      have hL : (fold (x.waits.take j) x.last).length ≤ 1000000 := by have := hx.len j (by omega); omega
      clear hoff d2
      by_cases hjn : j < x.waits.length
      · obtain ⟨g, dv, tv, hA, hdv, htv, hgl, e0, e1, e2⟩ := WaitsR.at_ hD.waits (j := j) hjn
        subst hA
        have hc : x.waits[j]? = some (x.waits[j]'(by omega)) := List.getElem?_eq_getElem (by omega)
        have hlast : x.lasts keep torn = if 0 < torn ∧ 0 < (x.waits[j]'(by omega)).size then (x.waits[j]'(by omega)).torn (min torn ((x.waits[j]'(by omega)).size : Int)).toNat (fold (x.waits.take j) x.last) else fold (x.waits.take j) x.last := by
          unfold Dk.lasts
          rw [HK.out, hc]
        have hTd := take_done hc x.last
        have hsz := hx.size (j + 1) (by omega)
        rw [hTd] at hsz
        generalize x.waits[j]'(by omega) = c at hdv htv e2 hlast hsz
        have HL := Lib.hid hlast
        have HS := Lib.hid hsz
        clear hc hlast hTd hsz
        have hst1 := fun (a : Addr) (m : Mode) (w : World) => run_store Try.prog w a dv m hdv.one
        have hst2 := fun (a : Addr) (m : Mode) (w : World) => run_store Try.prog w a tv m htv.one
        have hdc : dv.cells = #[dv] := by have := hdv.one; cases dv <;> first | rfl | (simp [Value.oneCell'] at this)
        simp only [Value.cells] at hdc
        -- the new block
        have hbW := below_new wr (.cells #[dv, tv, .int .i64 (c.size : Int)] 75)
        have hDW := hD.below hbW
        have hzA := alloc_size wr (.cells #[dv, tv, .int .i64 (c.size : Int)] 75)
        have k0 := Blk.new wr 75 #[dv, tv, .int .i64 (c.size : Int)]
        have hD2 := hDW.more (V' := fun b => V b ∨ From w.heap.size (wr.alloc (.cells #[dv, tv, .int .i64 (c.size : Int)] 75)) b) (fun b hb => hb.imp id fun e => ⟨e.1, by have := e.2; omega⟩)
          (fun b hu hv => hv.elim (h.apart b hu) fun e => by have := HU.out b hu; have := e.1; omega) fun b hv => hv.elim (fun e => by have := hDW.vlo b (.inl e); omega) fun e => e.2
        have hM2 : Mod U w (wr.alloc (.cells #[dv, tv, .int .i64 (c.size : Int)] 75)) := hM.trans (Mod.below hbW (Nat.le_refl _))
        cases c with
        | app n b =>
          obtain ⟨b1, b2, htq, _⟩ := id htv
          subst htq
          have hnn := neq_func
          have d1 := Blk.cell hD2.blk 1
          simp only [List.getElem?_toArray, List.getElem?_cons_zero, List.getElem?_cons_succ] at d1
          by_cases ht0 : 0 < torn
          · have hd1 : decide (0 < torn) = true := by simpa using ht0
            by_cases hs0 : 0 < b.length
            · have hd2 : decide (0 < (b.length : Int)) = true := by simpa using hs0
              obtain ⟨kt, hkt⟩ : ∃ kt : Nat, (min torn (b.length : Int)).toNat = kt := ⟨_, rfl⟩
              have hmin : (if (b.length : Int) < torn then (b.length : Int) else torn) = (kt : Int) := by subst hkt; split <;> omega
              have hktl : kt ≤ b.length := by subst hkt; omega
              have HLF : Hid (x.lasts keep torn = (Chg.app n b).torn kt (fold (x.waits.take j) x.last)) := by show _ = _; rw [HL.out, if_pos ⟨ht0, hs0⟩]; simp only [Chg.size]; rw [hkt]
              clear hkt
              have hVl2 : ¬ (V ml ∨ From w.heap.size (wr.alloc (.cells #[dv, .func (.func 48) #[] #[ptr b1, ptr b2], .int .i64 ((Chg.app n b).size : Int)] 75)) ml) := fun e => hD2.apart _ hD2.ul e
              have htW := (htv.mod (S := fun _ => False) (Mod.below hbW (Nat.le_refl _)) fun _ _ e => e).mono (V' := fun q => V q ∨ From w.heap.size (wr.alloc (.cells #[dv, .func (.func 48) #[] #[ptr b1, ptr b2], .int .i64 ((Chg.app n b).size : Int)] 75)) q) fun q hb => hb.imp id fun e => ⟨e.1, by have := e.2; omega⟩
              obtain ⟨lb, e, hcall⟩ := tears_any (htW.mod (S := fun _ => False) (Mod.refl _ _).drew fun _ _ e => e) hD2.last.drew hVl2 hD2.drew.vlo (Nat.le_trans hF (by decide)) (Nat.lt_of_le_of_lt hL (by decide)) kt hktl
              injection e with _ _ e
              subst e
              unfold ptr at *
              go_wp2_with fail
              generalize hw0 : wr.alloc (.cells #[dv, .func (.func 48) #[] #[.pointer (some ⟨b1, 0, none⟩), .pointer (some ⟨b2, 0, none⟩)], .int .i64 ((Chg.app n b).size : Int)] 75) = W at *
              have HZ := Lib.hid hzA
              have q1 := k0.cell 1
              have q2 := k0.cell 2
              simp only [List.getElem?_toArray, List.getElem?_cons_zero, List.getElem?_cons_succ] at q1 q2
              have hmin2 : (if ((Chg.app n b).size : Int) < torn then ((Chg.app n b).size : Int) else torn) = (kt : Int) := hmin
              have hTs := torn_size (fold_srt hx.srt (x.waits.take j)) kt n b
              have hTl := torn_len (fold (x.waits.take j) x.last) kt (.app n b)
              have hL' := hx.len j (by omega)
              have hT1 : fsize ((Chg.app n b).torn kt (fold (x.waits.take j) x.last)) ≤ 65536 := by have := HS.out; have := hx.c1; omega
              have hT2 : ((Chg.app n b).torn kt (fold (x.waits.take j) x.last)).length ≤ 1000000 := by omega
              clear hw0 hzA hst1 hst2 e0 e1 e2 hmin hL' hTs hTl
              refine PF.pf_begin (by kernel_rfl) ?_
              refine PF.pf_take0 0 (by kernel_rfl) rfl (fun _ _ _ _ _ h => h) (by kernel_rfl) (fun u => by go_simp; try rfl) ?_
              try simp only [Act.put, List.setIfInBounds_toArray, List.set_cons_zero, List.set_cons_succ]
              refine PF.pf_take1 1 (PF.Same (wr.heap.size) _) (by kernel_rfl) rfl (fun _ _ _ _ _ h => h) (by kernel_rfl) (PF.Same.refl _ _) (fun u hu => by have hcu := hu.cell; go_simp; try rfl) ?_
              try simp only [Act.put, List.setIfInBounds_toArray, List.set_cons_zero, List.set_cons_succ]
              refine PF.pf_take0 2 (by kernel_rfl) rfl (fun _ _ _ _ _ h => h) (by kernel_rfl) (fun u => by go_simp; try rfl) ?_
              try simp only [Act.put, List.setIfInBounds_toArray, List.set_cons_zero, List.set_cons_succ]
              refine PF.pf_take0 3 (by kernel_rfl) rfl (fun _ _ _ _ _ h => h) (by kernel_rfl) (fun u => by go_simp; try rfl) ?_
              try simp only [Act.put, List.setIfInBounds_toArray, List.set_cons_zero, List.set_cons_succ]
              refine PF.pf_take0 4 (by kernel_rfl) rfl (fun _ _ _ _ _ h => h) (by kernel_rfl) (fun u => by go_simp; try rfl) ?_
              try simp only [Act.put, List.setIfInBounds_toArray, List.set_cons_zero, List.set_cons_succ]
              refine PF.pf_take1 5 (PF.Same (d) _) (by kernel_rfl) rfl (fun _ _ _ _ _ h => h) (by kernel_rfl) (PF.Same.refl _ _) (fun u hu => by have hcu := hu.cell; go_simp; try rfl) ?_
              try simp only [Act.put, List.setIfInBounds_toArray, List.set_cons_zero, List.set_cons_succ]
              refine PF.pf_take0 6 (by kernel_rfl) rfl (fun _ _ _ _ _ h => h) (by kernel_rfl) (fun u => by go_simp; try rfl) ?_
              try simp only [Act.put, List.setIfInBounds_toArray, List.set_cons_zero, List.set_cons_succ]
              refine PF.pf_take0 7 (by kernel_rfl) rfl (fun _ _ _ _ _ h => h) (by kernel_rfl) (fun u => by go_simp; try rfl) ?_
              try simp only [Act.put, List.setIfInBounds_toArray, List.set_cons_zero, List.set_cons_succ]
              refine PF.pf_take1 8 (PF.Same (wr.heap.size) _) (by kernel_rfl) rfl (fun _ _ _ _ _ h => h) (by kernel_rfl) (PF.Same.refl _ _) (fun u hu => by have hcu := hu.cell; go_simp; try rfl) ?_
              try simp only [Act.put, List.setIfInBounds_toArray, List.set_cons_zero, List.set_cons_succ]
              refine PF.pf_take0 9 (by kernel_rfl) rfl (fun _ _ _ _ _ h => h) (by kernel_rfl) (fun u => by go_simp; try rfl) ?_
              try simp only [Act.put, List.setIfInBounds_toArray, List.set_cons_zero, List.set_cons_succ]
              refine PF.pf_exec 10 (by kernel_rfl) rfl (by kernel_rfl) (fun K hK => ?_)
              go_simp
              refine hcall.mono ?_
              rintro e w1 ⟨rfl, hdid⟩
              refine hK _ _ (by repeat (first | exact PF.owes_nil | refine PF.owes_left ?_ | refine PF.owes_no (by decide +kernel) ?_ | refine PF.owes_yes (by first | rfl | assumption | go_simp) ?_)) ?_
              clear hK K
              try simp only [Act.put, List.setIfInBounds_toArray, List.set_cons_zero, List.set_cons_succ]
              refine PF.pf_done (by kernel_rfl) ?_
              have hzW := HZ.out
              have hzM := hM2.size
              have hzd := hdid.2.size
              rw [drew_size] at hzd
              have hD3 := (hD2.drew.did hdid (x' := { x with last := (Chg.app n b).torn kt (fold (x.waits.take j) x.last) }) rfl rfl rfl rfl rfl rfl).more (V' := fun b => V b ∨ From w.heap.size w1 b)
                (fun b hb => hb.elim (fun hb => hb.imp id fun e => ⟨e.1, by have := e.2; omega⟩) fun e => .inr ⟨by have := e.1; rw [drew_size] at this; omega, e.2⟩)
                (fun b hu hv => hv.elim (h.apart b hu) fun e => by have := HU.out b hu; have := e.1; omega) fun b hv => hv.elim (fun e => by have := h.vlo b e; omega) fun e => e.2
              have hM3' : Mod U w w1 := (hM2.trans (Mod.refl _ W).drew).join hdid.2 fun b _ e => e ▸ h.ul
              clear hdid hcall hD2 hM2 hD hM
              have hrest := rests_any ⟨mf, ml, _, hD3⟩ (x := { x with last := (Chg.app n b).torn kt (fold (x.waits.take j) x.last) }) ⟨hsm.fs, hT1, hsm.ns, hT2, hsm.nw, hsm.c0, hsm.c1⟩
              unfold pd at hrest
              have HM := Lib.hid hM3'
              clear hD3 hM3'
              go_wp2_with (go_at_call 42; refine hrest.mono ?_; rintro e w9 ⟨rfl, ⟨U3, V3, ⟨mf3, ml3, v3, h3⟩, hM3, hU3, hV3⟩⟩; have d5 : w9.cell? ⟨d, 5, none⟩ = some (.bool x.down) := Blk.cell h3.blk 5; have f5 := Blk.free h3.blk 5)
              go_ret
              refine Ans.mk (q := 0) (by unfold Dk.crash; rw [hdn]; rfl) (To.more HM.out (fun _ => .inl) (fun b e => e.imp id fun e => e.1) (To.more hM3 hU3 hV3 ?_))
              exact To.field (x' := { seen := x.lasts keep torn, last := x.lasts keep torn, waits := [], cap := x.cap, serial := x.serial, down := true }) h3 5 (.bool true) (Blk.put h3.blk 5 _) HLF.out HLF.out rfl
            · have hd2 : decide (0 < (b.length : Int)) = false := decide_eq_false (by omega)
              have HLF : Hid (x.lasts keep torn = fold (x.waits.take j) x.last) := by show _ = _; rw [HL.out, if_neg (by simp only [Chg.size]; omega)]
              unfold ptr at *
              have hrest := rests_any ⟨mf, ml, _, hD2⟩ (x := { x with last := fold (x.waits.take j) x.last }) ⟨hsm.fs, by omega, hsm.ns, by omega, hsm.nw, hsm.c0, hsm.c1⟩
              unfold pd at hrest
              have HM := Lib.hid hM2
              clear hD2 hM2
              go_wp2_with (go_at_call 42; refine hrest.mono ?_; rintro e w9 ⟨rfl, ⟨U3, V3, ⟨mf3, ml3, v3, h3⟩, hM3, hU3, hV3⟩⟩; have d5 : w9.cell? ⟨d, 5, none⟩ = some (.bool x.down) := Blk.cell h3.blk 5; have f5 := Blk.free h3.blk 5)
              go_ret
              refine Ans.mk (q := 0) (by unfold Dk.crash; rw [hdn]; rfl) (To.more HM.out (fun _ => .inl) (fun b e => e.imp id fun e => e.1) (To.more hM3 hU3 hV3 ?_))
              exact To.field (x' := { seen := x.lasts keep torn, last := x.lasts keep torn, waits := [], cap := x.cap, serial := x.serial, down := true }) h3 5 (.bool true) (Blk.put h3.blk 5 _) HLF.out HLF.out rfl
          · have hd1 : decide (0 < torn) = false := by simpa using ht0
            have HLF : Hid (x.lasts keep torn = fold (x.waits.take j) x.last) := by show _ = _; rw [HL.out, if_neg (by omega)]
            unfold ptr at *
            have hrest := rests_any ⟨mf, ml, _, hD2⟩ (x := { x with last := fold (x.waits.take j) x.last }) ⟨hsm.fs, by omega, hsm.ns, by omega, hsm.nw, hsm.c0, hsm.c1⟩
            unfold pd at hrest
            have HM := Lib.hid hM2
            clear hD2 hM2
            go_wp2_with (go_at_call 42; refine hrest.mono ?_; rintro e w9 ⟨rfl, ⟨U3, V3, ⟨mf3, ml3, v3, h3⟩, hM3, hU3, hV3⟩⟩; have d5 : w9.cell? ⟨d, 5, none⟩ = some (.bool x.down) := Blk.cell h3.blk 5; have f5 := Blk.free h3.blk 5)
            go_ret
            refine Ans.mk (q := 0) (by unfold Dk.crash; rw [hdn]; rfl) (To.more HM.out (fun _ => .inl) (fun b e => e.imp id fun e => e.1) (To.more hM3 hU3 hV3 ?_))
            exact To.field (x' := { seen := x.lasts keep torn, last := x.lasts keep torn, waits := [], cap := x.cap, serial := x.serial, down := true }) h3 5 (.bool true) (Blk.put h3.blk 5 _) HLF.out HLF.out rfl
        | put n b =>
          have htv0 : tv = .nilFunc := htv
          subst htv0
          have hnn := neq_nilfunc
          have HLF : Hid (x.lasts keep torn = fold (x.waits.take j) x.last) := by show _ = _; rw [HL.out, if_neg (by simp [Chg.size])]
          have hrest := rests_any ⟨mf, ml, _, hD2⟩ (x := { x with last := fold (x.waits.take j) x.last }) ⟨hsm.fs, by omega, hsm.ns, by omega, hsm.nw, hsm.c0, hsm.c1⟩
          unfold pd at hrest
          have HM := Lib.hid hM2
          clear hD2 hM2
          go_wp2_with (go_at_call 42; refine hrest.mono ?_; rintro e w9 ⟨rfl, ⟨U3, V3, ⟨mf3, ml3, v3, h3⟩, hM3, hU3, hV3⟩⟩; have d5 : w9.cell? ⟨d, 5, none⟩ = some (.bool x.down) := Blk.cell h3.blk 5; have f5 := Blk.free h3.blk 5)
          go_ret
          refine Ans.mk (q := 0) (by unfold Dk.crash; rw [hdn]; rfl) (To.more HM.out (fun _ => .inl) (fun b e => e.imp id fun e => e.1) (To.more hM3 hU3 hV3 ?_))
          exact To.field (x' := { seen := x.lasts keep torn, last := x.lasts keep torn, waits := [], cap := x.cap, serial := x.serial, down := true }) h3 5 (.bool true) (Blk.put h3.blk 5 _) HLF.out HLF.out rfl
        | ren a k =>
          have htv0 : tv = .nilFunc := htv
          subst htv0
          have hnn := neq_nilfunc
          have HLF : Hid (x.lasts keep torn = fold (x.waits.take j) x.last) := by show _ = _; rw [HL.out, if_neg (by simp [Chg.size])]
          have hrest := rests_any ⟨mf, ml, _, hD2⟩ (x := { x with last := fold (x.waits.take j) x.last }) ⟨hsm.fs, by omega, hsm.ns, by omega, hsm.nw, hsm.c0, hsm.c1⟩
          unfold pd at hrest
          have HM := Lib.hid hM2
          clear hD2 hM2
          go_wp2_with (go_at_call 42; refine hrest.mono ?_; rintro e w9 ⟨rfl, ⟨U3, V3, ⟨mf3, ml3, v3, h3⟩, hM3, hU3, hV3⟩⟩; have d5 : w9.cell? ⟨d, 5, none⟩ = some (.bool x.down) := Blk.cell h3.blk 5; have f5 := Blk.free h3.blk 5)
          go_ret
          refine Ans.mk (q := 0) (by unfold Dk.crash; rw [hdn]; rfl) (To.more HM.out (fun _ => .inl) (fun b e => e.imp id fun e => e.1) (To.more hM3 hU3 hV3 ?_))
          exact To.field (x' := { seen := x.lasts keep torn, last := x.lasts keep torn, waits := [], cap := x.cap, serial := x.serial, down := true }) h3 5 (.bool true) (Blk.put h3.blk 5 _) HLF.out HLF.out rfl
        | rem n =>
          have htv0 : tv = .nilFunc := htv
          subst htv0
          have hnn := neq_nilfunc
          have HLF : Hid (x.lasts keep torn = fold (x.waits.take j) x.last) := by show _ = _; rw [HL.out, if_neg (by simp [Chg.size])]
          have hrest := rests_any ⟨mf, ml, _, hD2⟩ (x := { x with last := fold (x.waits.take j) x.last }) ⟨hsm.fs, by omega, hsm.ns, by omega, hsm.nw, hsm.c0, hsm.c1⟩
          unfold pd at hrest
          have HM := Lib.hid hM2
          clear hD2 hM2
          go_wp2_with (go_at_call 42; refine hrest.mono ?_; rintro e w9 ⟨rfl, ⟨U3, V3, ⟨mf3, ml3, v3, h3⟩, hM3, hU3, hV3⟩⟩; have d5 : w9.cell? ⟨d, 5, none⟩ = some (.bool x.down) := Blk.cell h3.blk 5; have f5 := Blk.free h3.blk 5)
          go_ret
          refine Ans.mk (q := 0) (by unfold Dk.crash; rw [hdn]; rfl) (To.more HM.out (fun _ => .inl) (fun b e => e.imp id fun e => e.1) (To.more hM3 hU3 hV3 ?_))
          exact To.field (x' := { seen := x.lasts keep torn, last := x.lasts keep torn, waits := [], cap := x.cap, serial := x.serial, down := true }) h3 5 (.bool true) (Blk.put h3.blk 5 _) HLF.out HLF.out rfl
      · have hlast : x.lasts keep torn = fold (x.waits.take j) x.last := by
          unfold Dk.lasts
          rw [HK.out, List.getElem?_eq_none (by omega)]
        have HL := Lib.hid hlast
        clear hlast
        have hrest := rests_any ⟨mf, ml, _, hD⟩ (x := { x with last := fold (x.waits.take j) x.last }) ⟨hsm.fs, by omega, hsm.ns, by omega, hsm.nw, hsm.c0, hsm.c1⟩
        unfold pd at hrest
        have HM := Lib.hid hM
        clear hD hM
        go_wp2_with (go_at_call 42; refine hrest.mono ?_; rintro e w9 ⟨rfl, ⟨U3, V3, ⟨mf3, ml3, v3, h3⟩, hM3, hU3, hV3⟩⟩; have d5 : w9.cell? ⟨d, 5, none⟩ = some (.bool x.down) := Blk.cell h3.blk 5; have f5 := Blk.free h3.blk 5)
        go_ret
        refine Ans.mk (q := 0) (by unfold Dk.crash; rw [hdn]; rfl) (To.more HM.out (fun _ => .inl) (fun b e => e.imp id fun e => e.1) (To.more hM3 hU3 hV3 ?_))
        exact To.field (x' := { seen := x.lasts keep torn, last := x.lasts keep torn, waits := [], cap := x.cap, serial := x.serial, down := true }) h3 5 (.bool true) (Blk.put h3.blk 5 _) HL.out HL.out rfl
end Go.Proofs.Ytggdkhgpkedbkaa
