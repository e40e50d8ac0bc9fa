/- The document's disk: Crash. -/
import Derived.Test.YtggdkhgpkedbkaaRdH
namespace Go.Proofs.Ytggdkhgpkedbkaa
open Go.RowKit

/-- What lasts when the crash has gone through k of what waits. -/
def crashAt (x : Dk) (keep torn : Int) (k : Nat) : Files := if k ≤ keeps x keep then fold (x.waits.take k) x.last else x.lasts keep torn
theorem crashAt_zero (x : Dk) (keep torn : Int) : crashAt x keep torn 0 = x.last := by simp [crashAt, fold]
theorem crashAt_end (x : Dk) (keep torn : Int) : crashAt x keep torn x.waits.length = x.lasts keep torn := by
  unfold crashAt
  split
  · rename_i h
    have hk := keeps_le x keep
    have e : keeps x keep = x.waits.length := by omega
    unfold Dk.lasts
    rw [e, List.getElem?_eq_none (Nat.le_refl _)]
  · rfl
theorem crashAt_kept {x : Dk} {keep torn : Int} {k : Nat} (hk : k < x.waits.length) (h : (k : Int) < keep) : crashAt x keep torn (k + 1) = (x.waits[k]).done (crashAt x keep torn k) := by
  unfold crashAt
  have h1 : k + 1 ≤ keeps x keep := by unfold keeps; omega
  rw [if_pos h1, if_pos (by omega)]
  exact take_done (List.getElem?_eq_getElem hk) _
theorem crashAt_torn {x : Dk} {keep torn : Int} {k : Nat} (hk : k < x.waits.length) (h : (k : Int) = max keep 0) : crashAt x keep torn (k + 1) =
    if 0 < torn ∧ 0 < (x.waits[k]).size then (x.waits[k]).torn (min torn ((x.waits[k]).size : Int)).toNat (crashAt x keep torn k) else crashAt x keep torn k := by
  have h1 : keeps x keep = k := by unfold keeps; omega
  have e0 : crashAt x keep torn k = fold (x.waits.take k) x.last := if_pos (by omega)
  have e1 : crashAt x keep torn (k + 1) = x.lasts keep torn := if_neg (by omega)
  rw [e0, e1]
  unfold Dk.lasts
  rw [h1, List.getElem?_eq_getElem hk]
theorem crashAt_past {x : Dk} {keep torn : Int} {k : Nat} (hk : k < x.waits.length) (h : ¬ (k : Int) < keep) (h1 : ¬ (k : Int) = max keep 0) : crashAt x keep torn (k + 1) = crashAt x keep torn k := by
  have h1 : keeps x keep < k := by unfold keeps; omega
  unfold crashAt
  rw [if_neg (by omega), if_neg (by omega)]
theorem crashAt_fine {x : Dk} {N : Nat} (hx : Fine N x) (keep torn : Int) {k : Nat} (hk : k ≤ x.waits.length) : Srt (crashAt x keep torn k) ∧ (fsize (crashAt x keep torn k) : Int) ≤ x.cap ∧ (crashAt x keep torn k).length ≤ N + 1 := by
  unfold crashAt
  split
  · exact ⟨fold_srt hx.srt _, hx.size k hk, Nat.le_succ_of_le (hx.len k hk)⟩
  · exact hx.lasts keep torn
theorem Rc.size_eq (c : Rc) : c.chg.size = if c.k = 0 then c.l.length else 0 := by
  unfold Rc.chg
  split
  · rfl
  split
  · rfl
  split <;> rfl
theorem Rc.torn_eq {c : Rc} (h : c.k = 0) (s : Sl) (k : Nat) (F : Files) : c.chg.torn k F = (⟨0, c.n, c.t, s, c.l.take k⟩ : Rc).done F := by
  unfold Rc.chg Rc.done
  rw [if_pos h, if_pos rfl]
  rfl
theorem BytesIn.take {w : World} {V : Nat → Prop} {A : Option Addr} {c : Nat} {l : List UInt8} (h : BytesIn w V (A, l.length, c) l) {k : Nat} (hk : k ≤ l.length) : BytesIn w V (A, k, c) (l.take k) := by
  have hkl : (l.take k).length = k := by simp; omega
  refine ⟨hkl.symm, by rw [hkl]; exact Nat.le_trans hk h.room, h.cap, ?_, h.block⟩
  have h1 := Reads.take h.bytes hk
  unfold Bytes
  rw [hkl, List.map_take]
  simpa using h1
/-- The files that last have been changed. -/
theorem rcrash_step {w w2 : World} {m : Nat} {R : Nat → Prop} {x : Dk} (h0 : Rat w m R x) {A0 : Option Addr} {n0 c0 : Nat} {v1 v2 v3 v4 : Value} {A2 : Option Addr} {c2 : Nat} {D2 : List (Nm × Sb)}
    (hblk : Blk w2 m 66 #[.slice A0 n0 c0, v1, v2, v3, v4]) (hm : Mod (· = m) w w2) (hD2 : FRow w2 (fun b => R b ∨ From w.heap.size w2 b) A2 D2) :
    Blk (w2.setCell ⟨m, 0, none⟩ (.slice A2 D2.length c2)) m 66 #[.slice A2 D2.length c2, v1, v2, v3, v4] ∧
    Mod (· = m) w (w2.setCell ⟨m, 0, none⟩ (.slice A2 D2.length c2)) ∧
    FRow (w2.setCell ⟨m, 0, none⟩ (.slice A2 D2.length c2)) (fun b => R b ∨ From w.heap.size (w2.setCell ⟨m, 0, none⟩ (.slice A2 D2.length c2)) b) A2 D2 := by
  have hm1 : Mod (· = m) w2 (w2.setCell ⟨m, 0, none⟩ (.slice A2 D2.length c2)) := (Mod.refl _ _).setm _ _
  have hlt := h0.lt
  refine ⟨hblk.put 0 _, hm.trans hm1, (hD2.mod hm1 fun b hb => ?_).mono fun b hb => ?_⟩
  · rcases hb with hb | hb
    · exact (h0.off b hb).2
    · have := hb.1
      intro e
      omega
  · rcases hb with hb | hb
    · exact .inl hb
    · exact .inr ⟨hb.1, Nat.lt_of_lt_of_le hb.2 hm1.size⟩
set_option maxRecDepth 100000 in
set_option maxHeartbeats 4000000 in
theorem rcrash_any {w : World} {m : Nat} {R : Nat → Prop} {x : Dk} (h : Rat w m R x) {N : Nat} (hx : Fine N x) (hN : N ≤ 999999) (keep torn : Int) :
    Calls Try.prog 53 #[.pointer (some ⟨m, 0, none⟩), .int .i64 keep, .int .i64 torn] w (RDid w m R (x.crash keep torn)) := by
  have h0 := h
  obtain ⟨A, c, E, B, g, l, h⟩ := h
  have hll : l.length = x.waits.length := by rw [← h.waits, List.length_map]
  have hlN : l.length ≤ 1000000 := by have := hx.nw; omega
  have q4 := h.blk.cell 4
  simp only [List.getElem?_toArray, List.getElem?_cons_zero, List.getElem?_cons_succ] at q4
  cases hdn : x.down
  case true =>
    have HD := Lib.hid hdn
    rw [hdn] at q4
    clear hdn
    go_enter Try.func53, Try.ntmps53
    go_wp2_with fail
    go_ret
    have e : x.crash keep torn = (6, x) := by unfold Dk.crash; rw [HD.out]; rfl
    rw [e]
    exact ⟨rfl, Rst.same h0 (Below.refl _ _)⟩
  have hblk := h.blk
  rw [hdn] at q4 hblk
  have HD := Lib.hid hdn
  clear hdn
  have HH := Lib.hid h0
  have HR := Lib.hid h
  have HX := Lib.hid hx
  go_enter Try.func53, Try.ntmps53
  go_wp2_with fail
  clear q4
  go_loopw [7] (fun i wr => ∃ (k : Nat) (D : List (Nm × Sb)) (AD : Option Addr) (cD : Nat), k ≤ l.length ∧ i = .int .i64 k ∧ Blk wr m 66 #[.slice AD D.length cD, .slice B l.length g, .int .i64 x.cap, .int .u64 x.serial, .bool false] ∧ FRow wr (fun b => R b ∨ From w.heap.size wr b) AD D ∧ fil D = crashAt x keep torn k ∧ Mod (· = m) w wr) (fun i _ => l.length - (intOf i).toNat)
  case atStart => exact ⟨0, E, A, c, by omega, rfl, hblk, h.files.mono fun b => .inl, by rw [crashAt_zero]; exact h.last, Mod.refl _ _⟩
  case round =>
    obtain ⟨k, D, AD, cD, hk, rfl, hB, hD, hf, hM⟩ := hrel
    have q1 := hB.cell 1
    simp only [List.getElem?_toArray, List.getElem?_cons_zero, List.getElem?_cons_succ] at q1
    by_cases hlt : k < l.length
    · have hch : CRow wr R B l := HR.out.chgs.mod hM fun b hb => (HR.out.off b hb).2
      obtain ⟨b, o, hBo, hbl, c0, c1, c2, c3⟩ := hch.at_ hlt
      subst hBo
      have hfit := hch.fits _ (List.getElem_mem hlt)
      have hby := (hch.rows _ (List.getElem_mem hlt)).mono (V' := fun b => R b ∨ From w.heap.size wr b) fun b => .inl
      have hcq : (l[k]).chg = (x.waits[k]'(by omega)) := by simp [← HR.out.waits]
      have hfin := crashAt_fine HX.out keep torn (k := k) (by omega)
      have hkept := crashAt_kept (x := x) (keep := keep) (torn := torn) (k := k) (by omega)
      have htorn := crashAt_torn (x := x) (keep := keep) (torn := torn) (k := k) (by omega)
      have hpast := crashAt_past (x := x) (keep := keep) (torn := torn) (k := k) (by omega)
      rw [← hcq] at hkept htorn
      generalize l[k] = a at c0 c1 c2 c3 hfit hby hkept htorn
      have hsize := Rc.size_eq a
      have hte := fun (h : a.k = 0) => Rc.torn_eq h
      rw [hsize] at htorn
      have hdq := Rc.done_eq (c := a) hfin.1 hfit.ne
      rw [← hdq] at hkept
      have hxl : a.l.length ≤ 1000000 := hfit.small
      obtain ⟨ck, cn, ct, ⟨cA, cle, cc⟩, cl⟩ := a
      have hle := hby.len
      simp only at hle
      subst hle
      have hcl : cl.length ≤ 1000000 := hxl
      have hkc : cl.length ≤ cc := hby.room
      have hcm : cc ≤ 9223372036854775807 := hby.cap
      unfold sv at c3
      simp only at c0 c1 c2 c3 hby hkept htorn hte
      have HK := Lib.hid hkept
      have HT := Lib.hid htorn
      have HP := Lib.hid hpast
      have HF := Lib.hid hf
      have HB := Lib.hid hB
      have HTE := Lib.hid hte
      have hgl : ((fget cn (fil D)).getD []).length ≤ 1000000 := by
        have h1 := flen_le hfin.1 cn
        have h2 := hfin.2.1
        have h3 := HX.out.c1
        unfold flen at h1
        rw [HF.out]; omega
      have hDl : D.length ≤ 1000000 := by rw [← fil_len, HF.out]; have := hfin.2.2; omega
      clear hcq hfin hkept htorn hpast hsize hdq hxl hte hfit hf hch HR h hblk hx
      have hbW := below_new wr (.cells #[.int .i64 ck, .string ⟨cn.toArray⟩, .string ⟨ct.toArray⟩, .slice cA cl.length cc] 84)
      have kb := Blk.new wr 84 #[.int .i64 ck, .string ⟨cn.toArray⟩, .string ⟨ct.toArray⟩, .slice cA cl.length cc]
      have hup : ∀ (W : World), wr.heap.size ≤ W.heap.size → ∀ b, (R b ∨ From w.heap.size wr b) → R b ∨ From w.heap.size W b := fun W hz b hb => hb.imp id fun h => ⟨h.1, Nat.lt_of_lt_of_le h.2 hz⟩
      have hsame : Blk (wr.alloc (.cells #[.int .i64 ck, .string ⟨cn.toArray⟩, .string ⟨ct.toArray⟩, .slice cA cl.length cc] 84)) m 66 #[.slice AD D.length cD, .slice (some ⟨b, o, none⟩) l.length g, .int .i64 x.cap, .int .u64 x.serial, .bool false] := hB.below hbW hB.lt
      have hsameF := (hD.below hbW).mono (hup _ hbW.size)
      have hsameM := hM.trans (Mod.below (S := fun b => b = m) hbW (Nat.le_refl _))
      by_cases hkp : (k : Int) < keep
      · have hd1 : decide ((k : Int) < keep) = true := decide_eq_true hkp
        have hdo := done_any cD (hD.below hbW.drew) hDl ⟨ck, cn, ct, (cA, cl.length, cc), cl⟩ (hby.below_ hbW.drew) hcl hgl
        rw [HF.out, ← HK.out hkp] at hdo
        unfold Rc.val sv at hdo
        simp only at hdo
        go_wp2_with fail
        generalize hw0 : wr.alloc (.cells #[.int .i64 ck, .string ⟨cn.toArray⟩, .string ⟨ct.toArray⟩, .slice cA cl.length cc] 84) = W at *
        have HZ := Lib.hid hbW.size
        have hbW' : Below W.heap.size W W.drew := (Below.refl _ _).drew
        have b0 := kb.cell 0
        have b1 := kb.cell 1
        have b2 := kb.cell 2
        have b3 := kb.cell 3
        have m0 := hsame.cell 0
        simp only [List.getElem?_toArray, List.getElem?_cons_zero, List.getElem?_cons_succ] at b0 b1 b2 b3 m0
        clear hw0 c0 c1 c2 c3 hd1 q1
        refine PF.pf_begin (by kernel_rfl) ?_
        refine PF.pf_take0 0 (by kernel_rfl) rfl (fun _ _ _ _ _ h => h) (by kernel_rfl) (fun u => by go_simp; try rfl) ?_
        try simp only [Act.put, List.setIfInBounds_toArray, List.set_cons_zero, List.set_cons_succ]
        refine PF.pf_take0 1 (by kernel_rfl) rfl (fun _ _ _ _ _ h => h) (by kernel_rfl) (fun u => by go_simp; try rfl) ?_
        try simp only [Act.put, List.setIfInBounds_toArray, List.set_cons_zero, List.set_cons_succ]
        refine PF.pf_take0 2 (by kernel_rfl) rfl (fun _ _ _ _ _ h => h) (by kernel_rfl) (fun u => by go_simp; try rfl) ?_
        try simp only [Act.put, List.setIfInBounds_toArray, List.set_cons_zero, List.set_cons_succ]
        refine PF.pf_take0 3 (by kernel_rfl) rfl (fun _ _ _ _ _ h => h) (by kernel_rfl) (fun u => by go_simp; try rfl) ?_
        try simp only [Act.put, List.setIfInBounds_toArray, List.set_cons_zero, List.set_cons_succ]
        refine PF.pf_take1 4 (PF.Same (m) _) (by kernel_rfl) rfl (fun _ _ _ _ _ h => h) (by kernel_rfl) (PF.Same.refl _ _) (fun u hu => by have hcu := hu.cell; go_simp; try rfl) ?_
        try simp only [Act.put, List.setIfInBounds_toArray, List.set_cons_zero, List.set_cons_succ]
        refine PF.pf_take1 5 (PF.Same (wr.heap.size) _) (by kernel_rfl) rfl (fun _ _ _ _ _ h => h) (by kernel_rfl) (PF.Same.refl _ _) (fun u hu => by have hcu := hu.cell; go_simp; try rfl) ?_
        try simp only [Act.put, List.setIfInBounds_toArray, List.set_cons_zero, List.set_cons_succ]
        refine PF.pf_exec 6 (by kernel_rfl) rfl (by kernel_rfl) (fun K hK => ?_)
        go_simp
        refine hdo.mono ?_
        rintro e w2 ⟨D2, hf2, ⟨A2, c2', rfl, hD2⟩, hb2⟩
        have kb2 := hsame.below (hbW'.trans hb2) hsame.lt
        have n0 := kb2.cell 0
        have g0 := kb2.free 0
        simp only [List.getElem?_toArray, List.getElem?_cons_zero, List.getElem?_cons_succ] at n0
        refine hK _ _ (by repeat (first | exact PF.owes_nil | refine PF.owes_left ?_ | refine PF.owes_no (by decide +kernel) ?_ | refine PF.owes_yes (by first | rfl | assumption | go_simp) ?_)) ?_
        clear hK K
        try simp only [Act.put, List.setIfInBounds_toArray, List.set_cons_zero, List.set_cons_succ]
        refine PF.pf_take0 7 (by kernel_rfl) rfl (fun _ _ _ _ _ h => h) (by kernel_rfl) (fun u => by go_simp; try rfl) ?_
        try simp only [Act.put, List.setIfInBounds_toArray, List.set_cons_zero, List.set_cons_succ]
        refine PF.pf_take0 8 (by kernel_rfl) rfl (fun _ _ _ _ _ h => h) (by kernel_rfl) (fun u => by go_simp; try rfl) ?_
        try simp only [Act.put, List.setIfInBounds_toArray, List.set_cons_zero, List.set_cons_succ]
        refine PF.pf_exec 9 (by kernel_rfl) rfl (by kernel_rfl) (fun K hK => ?_)
        go_simp
        refine hK _ _ (by repeat (first | exact PF.owes_nil | refine PF.owes_left ?_ | refine PF.owes_no (by decide +kernel) ?_ | refine PF.owes_yes (by first | rfl | assumption | go_simp) ?_)) ?_
        clear hK K
        try simp only [Act.put, List.setIfInBounds_toArray, List.set_cons_zero, List.set_cons_succ]
        refine PF.pf_done (by kernel_rfl) ?_
        have HZ2 := Lib.hid hb2.size
        obtain ⟨hB2, hM2, hD2'⟩ := rcrash_step HH.out kb2 (hsameM.trans (Mod.below (S := fun b => b = m) (hbW'.trans hb2) (Nat.le_refl _))) (c2 := c2') (hD2.mono fun b hb => by
          rcases hb with (hb | hb) | hb
          · exact .inl hb
          · exact .inr ⟨hb.1, by have h1 := hb.2; have h2 := HZ.out; have h3 := HZ2.out; rw [drew_size] at h3; omega⟩
          · exact .inr ⟨by have h1 := hb.1; have h2 := HZ.out; have h3 := hM.size; rw [drew_size] at h1; omega, hb.2⟩)
        go_wp2_with fail
        go_roundw
        case rel => exact ⟨k + 1, D2, A2, c2', by omega, by go_num, hB2, hD2', hf2, hM2⟩
        case measure => simp [intOf]; omega
      · have hd1 : decide ((k : Int) < keep) = false := decide_eq_false hkp
        by_cases hkm : (k : Int) = max keep 0
        · have hdk : ((k : Int) == max keep 0) = true := by simpa using hkm
          have HKM := Lib.hid hkm
          clear hkm
          by_cases hck : ck = 0
          · subst hck
            by_cases ht0 : 0 < torn
            · have hd2 : decide (0 < torn) = true := decide_eq_true ht0
              by_cases hl0 : 0 < cl.length
              · have hd3 : decide (0 < (cl.length : Int)) = true := decide_eq_true (by omega)
                obtain ⟨kt, hkt⟩ : ∃ kt : Nat, (min torn (cl.length : Int)).toNat = kt := ⟨_, rfl⟩
                have hmin : min torn (cl.length : Int) = (kt : Int) := by omega
                have hktl : kt ≤ cl.length := by omega
                have hktc : kt ≤ cc := by omega
                have HS : Hid (crashAt x keep torn (k + 1) = Rc.done ⟨0, cn, ct, (cA, kt, cc), cl.take kt⟩ (fil D)) := by
                  show _ = _
                  rw [HF.out, HT.out HKM.out, if_pos ⟨ht0, by rw [if_pos rfl]; exact hl0⟩, if_pos rfl, hkt]
                  exact HTE.out rfl _ _ _
                clear hkt
                clear HT HTE
                go_wp2_with fail
                clear hbW kb hsame hsameF hsameM
                have hbW := below_new wr (.cells #[.int .i64 0, .string ⟨cn.toArray⟩, .string ⟨ct.toArray⟩, .slice cA kt cc] 84)
                have kb := Blk.new wr 84 #[.int .i64 0, .string ⟨cn.toArray⟩, .string ⟨ct.toArray⟩, .slice cA kt cc]
                have hsame := hB.below hbW hB.lt
                have hsameM := hM.trans (Mod.below (S := fun b => b = m) hbW (Nat.le_refl _))
                have htl : (cl.take kt).length = kt := by simp; omega
                have hdo := done_any cD (hD.below hbW.drew) hDl ⟨0, cn, ct, (cA, kt, cc), cl.take kt⟩ ((hby.take hktl).below_ hbW.drew) (by show (cl.take kt).length ≤ 1000000; omega) hgl
                rw [← HS.out] at hdo
                unfold Rc.val sv at hdo
                simp only at hdo
                clear htl
                generalize hw0 : wr.alloc (.cells #[.int .i64 0, .string ⟨cn.toArray⟩, .string ⟨ct.toArray⟩, .slice cA kt cc] 84) = W at *
                have HZ := Lib.hid hbW.size
                have hbW' : Below W.heap.size W W.drew := (Below.refl _ _).drew
                have b0 := kb.cell 0
                have b1 := kb.cell 1
                have b2 := kb.cell 2
                have b3 := kb.cell 3
                have m0 := hsame.cell 0
                simp only [List.getElem?_toArray, List.getElem?_cons_zero, List.getElem?_cons_succ] at b0 b1 b2 b3 m0
                clear hw0 c0 c1 c2 c3 hd1 q1 hdk hd2 hd3 hmin
                refine PF.pf_begin (by kernel_rfl) ?_
                refine PF.pf_take0 0 (by kernel_rfl) rfl (fun _ _ _ _ _ h => h) (by kernel_rfl) (fun u => by go_simp; try rfl) ?_
                try simp only [Act.put, List.setIfInBounds_toArray, List.set_cons_zero, List.set_cons_succ]
                refine PF.pf_take0 1 (by kernel_rfl) rfl (fun _ _ _ _ _ h => h) (by kernel_rfl) (fun u => by go_simp; try rfl) ?_
                try simp only [Act.put, List.setIfInBounds_toArray, List.set_cons_zero, List.set_cons_succ]
                refine PF.pf_take0 2 (by kernel_rfl) rfl (fun _ _ _ _ _ h => h) (by kernel_rfl) (fun u => by go_simp; try rfl) ?_
                try simp only [Act.put, List.setIfInBounds_toArray, List.set_cons_zero, List.set_cons_succ]
                refine PF.pf_take0 3 (by kernel_rfl) rfl (fun _ _ _ _ _ h => h) (by kernel_rfl) (fun u => by go_simp; try rfl) ?_
                try simp only [Act.put, List.setIfInBounds_toArray, List.set_cons_zero, List.set_cons_succ]
                refine PF.pf_take1 4 (PF.Same (m) _) (by kernel_rfl) rfl (fun _ _ _ _ _ h => h) (by kernel_rfl) (PF.Same.refl _ _) (fun u hu => by have hcu := hu.cell; go_simp; try rfl) ?_
                try simp only [Act.put, List.setIfInBounds_toArray, List.set_cons_zero, List.set_cons_succ]
                refine PF.pf_take1 5 (PF.Same (wr.heap.size) _) (by kernel_rfl) rfl (fun _ _ _ _ _ h => h) (by kernel_rfl) (PF.Same.refl _ _) (fun u hu => by have hcu := hu.cell; go_simp; try rfl) ?_
                try simp only [Act.put, List.setIfInBounds_toArray, List.set_cons_zero, List.set_cons_succ]
                refine PF.pf_exec 6 (by kernel_rfl) rfl (by kernel_rfl) (fun K hK => ?_)
                go_simp
                refine hdo.mono ?_
                rintro e w2 ⟨D2, hf2, ⟨A2, c2', rfl, hD2⟩, hb2⟩
                have kb2 := hsame.below (hbW'.trans hb2) hsame.lt
                have n0 := kb2.cell 0
                have g0 := kb2.free 0
                simp only [List.getElem?_toArray, List.getElem?_cons_zero, List.getElem?_cons_succ] at n0
                refine hK _ _ (by repeat (first | exact PF.owes_nil | refine PF.owes_left ?_ | refine PF.owes_no (by decide +kernel) ?_ | refine PF.owes_yes (by first | rfl | assumption | go_simp) ?_)) ?_
                clear hK K
                try simp only [Act.put, List.setIfInBounds_toArray, List.set_cons_zero, List.set_cons_succ]
                refine PF.pf_take0 7 (by kernel_rfl) rfl (fun _ _ _ _ _ h => h) (by kernel_rfl) (fun u => by go_simp; try rfl) ?_
                try simp only [Act.put, List.setIfInBounds_toArray, List.set_cons_zero, List.set_cons_succ]
                refine PF.pf_take0 8 (by kernel_rfl) rfl (fun _ _ _ _ _ h => h) (by kernel_rfl) (fun u => by go_simp; try rfl) ?_
                try simp only [Act.put, List.setIfInBounds_toArray, List.set_cons_zero, List.set_cons_succ]
                refine PF.pf_exec 9 (by kernel_rfl) rfl (by kernel_rfl) (fun K hK => ?_)
                go_simp
                refine hK _ _ (by repeat (first | exact PF.owes_nil | refine PF.owes_left ?_ | refine PF.owes_no (by decide +kernel) ?_ | refine PF.owes_yes (by first | rfl | assumption | go_simp) ?_)) ?_
                clear hK K
                try simp only [Act.put, List.setIfInBounds_toArray, List.set_cons_zero, List.set_cons_succ]
                refine PF.pf_done (by kernel_rfl) ?_
                have HZ2 := Lib.hid hb2.size
                obtain ⟨hB2, hM2, hD2'⟩ := rcrash_step HH.out kb2 (hsameM.trans (Mod.below (S := fun b => b = m) (hbW'.trans hb2) (Nat.le_refl _))) (c2 := c2') (hD2.mono fun b hb => by
                  rcases hb with (hb | hb) | hb
                  · exact .inl hb
                  · exact .inr ⟨hb.1, by have h1 := hb.2; have h2 := HZ.out; have h3 := HZ2.out; rw [drew_size] at h3; omega⟩
                  · exact .inr ⟨by have h1 := hb.1; have h2 := HZ.out; have h3 := hM.size; rw [drew_size] at h1; omega, hb.2⟩)
                go_wp2_with fail
                go_roundw
                case rel => exact ⟨k + 1, D2, A2, c2', by omega, by go_num, hB2, hD2', hf2, hM2⟩
                case measure => simp [intOf]; omega
              · have hd3 : decide (0 < (cl.length : Int)) = false := decide_eq_false (by omega)
                have HS : Hid (fil D = crashAt x keep torn (k + 1)) := by show _ = _; rw [HF.out, HT.out HKM.out, if_neg (by rw [if_pos rfl]; omega)]
                have hd4 : decide (0 < cl.length) = false := decide_eq_false hl0
                go_wp2_with fail
                go_roundw
                case rel => exact ⟨k + 1, D, AD, cD, by omega, by go_num, hsame, hsameF, HS.out, hsameM⟩
                case measure => simp [intOf]; omega
            · have hd2 : decide (0 < torn) = false := decide_eq_false ht0
              have HS : Hid (fil D = crashAt x keep torn (k + 1)) := by show _ = _; rw [HF.out, HT.out HKM.out, if_neg (by omega)]
              go_wp2_with fail
              go_roundw
              case rel => exact ⟨k + 1, D, AD, cD, by omega, by go_num, hsame, hsameF, HS.out, hsameM⟩
              case measure => simp [intOf]; omega
          · have HS : Hid (fil D = crashAt x keep torn (k + 1)) := by show _ = _; rw [HF.out, HT.out HKM.out, if_neg (by rw [if_neg hck]; omega)]
            have hd2 : (ck == 0) = false := by simpa using hck
            clear hck
            go_wp2_with fail
            go_roundw
            case rel => exact ⟨k + 1, D, AD, cD, by omega, by go_num, hsame, hsameF, HS.out, hsameM⟩
            case measure => simp [intOf]; omega
        · have HS : Hid (fil D = crashAt x keep torn (k + 1)) := by show _ = _; rw [HF.out, HP.out hkp hkm]
          have hdk : ((k : Int) == max keep 0) = false := by simpa using hkm
          clear hkm
          go_wp2_with fail
          go_roundw
          case rel => exact ⟨k + 1, D, AD, cD, by omega, by go_num, hsame, hsameF, HS.out, hsameM⟩
          case measure => simp [intOf]; omega
    · obtain rfl : k = l.length := by omega
      have f1 := hB.free 1
      have f4 := hB.free 4
      have q4 := hB.cell 4
      simp only [List.getElem?_toArray, List.getElem?_cons_zero, List.getElem?_cons_succ] at q4
      rw [hll, crashAt_end] at hf
      have HF := Lib.hid hf
      have HLL := Lib.hid hll
      clear hf hll
      go_wp2_with fail
      go_ret
      have e : x.crash keep torn = (0, { seen := x.lasts keep torn, last := x.lasts keep torn, waits := [], cap := x.cap, serial := x.serial, down := true }) := by unfold Dk.crash; rw [HD.out]; rfl
      rw [e]
      have hm1 : Mod (· = m) wr ((wr.setCell ⟨m, 1, none⟩ (.slice none 0 0)).setCell ⟨m, 4, none⟩ (.bool true)) := ((Mod.refl _ _).setm _ _).setm _ _
      have hlt := HH.out.lt
      refine ⟨rfl, Rst.mk (l := []) HH.out (hM.trans hm1) ((hB.put 1 _).put 4 _) ((hD.mod hm1 fun b hb => ?_).mono fun b hb => ?_) HF.out (CRow.nil _ _) rfl⟩
      · rcases hb with hb | hb
        · exact (HH.out.off b hb).2
        · have := hb.1
          intro e
          omega
      · rcases hb with hb | hb
        · exact .inl hb
        · exact .inr ⟨hb.1, Nat.lt_of_lt_of_le hb.2 hm1.size⟩
end Go.Proofs.Ytggdkhgpkedbkaa
