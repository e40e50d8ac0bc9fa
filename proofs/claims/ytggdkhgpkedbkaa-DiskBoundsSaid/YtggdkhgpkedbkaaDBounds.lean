/- DiskBounds, walked. -/
import Derived.Test.YtggdkhgpkedbkaaKeep
namespace Go.Proofs.Ytggdkhgpkedbkaa.DiskBounds
open Go.RowKit

theorem cap_act' {a : Ac} {x : Dk} {cap : Int} (h : x.cap = cap) : (a.does x).cap = cap := (cap_act a x).trans h
set_option maxRecDepth 100000 in
set_option maxHeartbeats 32000000 in
theorem walk {w : World} (x0 : Int64) (A1 : Option Addr) (l1 : List Ac) (c1 : Nat) (b1 : Acts w A1 l1) (s1 : l1.length ≤ 9223372036854775806) :
    Calls Try.prog 5 #[.int .i64 x0.toInt, .slice A1 l1.length c1] w fun e w' => e = .returned (.bool true) ∧ Below w.heap.size w w' := by
  generalize x0.toInt = cap
  have hnew := (Held.nil w).new cap
  go_enter Try.func5, Try.ntmps5
  go_wp2_with fail
  refine hnew.mono ?_
  rintro e w1 ⟨hb1, ⟨_, rfl⟩ | ⟨hcap, d, rfl, h1⟩⟩
  · go_wp2_with fail
    refine (run_awake _).mono ?_
    rintro e w2 ⟨rfl, hb2⟩
    go_wp2_with fail
    go_ret
    exact ⟨rfl, hb1.trans (hb2.mono hb1.size)⟩
  unfold pd
  have hmany := many_any A1 c1 l1 w1 (b1.below hb1) s1
  clear hnew
  by_cases hm : 400 < costs l1
  · rw [decide_eq_true hm] at hmany
    go_wp2_with (first
      | (go_at_call 10; refine hmany.mono ?_; rintro e w2 ⟨rfl, hb2⟩)
      | (go_at_call 11; refine (run_awake _).mono ?_; rintro e w3 ⟨rfl, hb3⟩))
    go_ret
    exact ⟨rfl, (hb1.trans (hb2.mono hb1.size)).trans (hb3.mono (Nat.le_trans hb1.size hb2.size))⟩
  · rw [decide_eq_false hm] at hmany
    have hlen : l1.length ≤ 400 := by have := costs_len l1; omega
    have HHD : Hid (∀ w2, Below w1.heap.size w1 w2 → Held w w2 (fun _ => False) [(d, Dk.new cap)]) := fun w2 hb2 => (h1.below hb2).less fun _ e => e.elim
    clear hm
    go_wp2_with (go_at_call 10; refine hmany.mono ?_; rintro e w2 ⟨rfl, hb2⟩)
    have h2 := HHD.out w2 hb2
    have b1' := b1.below (hb1.trans (hb2.mono hb1.size))
    clear hmany h1 HHD
    go_loopw [7] (fun i wr => ∃ (k : Nat) (x : Dk), k ≤ l1.length ∧ i = .int .i64 k ∧ Held w wr (fun _ => False) [(d, x)] ∧ Fine k x ∧ Nms x ∧ x.cap = cap) (fun i _ => l1.length - (intOf i).toNat)
    case atStart => exact ⟨0, _, by omega, rfl, h2, Fine.new hcap.1 hcap.2, Nms.new _, rfl⟩
    case round =>
      obtain ⟨k, x, hk, rfl, hh, hx, hnm, hxc⟩ := hrel
      by_cases hlt : k < l1.length
      · have hact := b1.below hh.bel
        obtain ⟨b, o, rfl, had, c0, c1', c2, c3, c4, c5⟩ := hact.at_ hlt
        have hok := hact.2 _ (List.getElem_mem hlt)
        have hx' := hx.act l1[k]
        have hnm' := hnm.act l1[k]
        have hxc' := cap_act l1[k] x
        have hdo : l1[k].does x = l1[k].does x := rfl
        conv at hdo => rhs; unfold Ac.does
        have HDO := Lib.hid hdo
        clear hdo
        generalize l1[k] = a at c0 c1' c2 c3 c4 c5 hok hx' hnm' hxc' HDO
        have hsm := hx.small (by omega)
        have hsm' := hx'.small (by omega)
        have hle' := hx'.seen_le
        rw [hxc', hxc] at hle'
        have hll : (a.does x).seen.length ≤ (a.does x).seen.length := Nat.le_refl _
        have hnn : Nok a.n := Nat.le_trans hok.ln (by decide)
        have hnt : Nok a.t := Nat.le_trans hok.lt (by decide)
        have hnb : a.b.length ≤ 9223372036854775807 := Nat.le_trans hok.lb (by decide)
        clear hact hll
        -- the box, the copy
        obtain ⟨bx, hbx⟩ : ∃ o, o = Obj.cells #[.int .i64 a.k.toInt, .string ⟨a.n.toArray⟩, .string ⟨a.t.toArray⟩, .slice a.A a.b.length a.c, .int .i64 a.p.toInt, .int .i64 a.q.toInt] 32 := ⟨_, rfl⟩
        have hbl1 := below_new wr bx
        have hh1 := hh.below hbl1
        obtain ⟨K1, hK1⟩ : ∃ K1 : Nat → Prop, K1 = fun b => False ∨ From wr.heap.size (wr.alloc bx) b := ⟨_, rfl⟩
        have hKb : K1 wr.heap.size := by rw [hK1]; exact .inr ⟨Nat.le_refl _, by simp⟩
        rw [← hK1] at hh1
        clear hK1
        have hcp := hh1.copy hsm
        have kb : Blk (wr.alloc bx) wr.heap.size 32 #[.int .i64 a.k.toInt, .string ⟨a.n.toArray⟩, .string ⟨a.t.toArray⟩, .slice a.A a.b.length a.c, .int .i64 a.p.toInt, .int .i64 a.q.toInt] := by rw [hbx]; exact Blk.new _ _ _
        subst hbx
        unfold pd at hcp
        go_wp2_with fail
        refine hcp.mono ?_
        rintro e w3 ⟨c, rfl, h3, hb3⟩
        have hKl : ∀ b, K1 b → b < w3.heap.size := h3.kl
        have h3 := h3.perm (List.Perm.swap _ _ _)
        have kb3 := kb.below hb3 kb.lt
        have hok3 := hok.below (hbl1.trans (hb3.mono hbl1.size))
        have HK3 := Lib.hid kb3
        have hkl : wr.heap.size < w3.heap.size := kb3.lt
        have q0 := kb3.cell 0
        have q1 := kb3.cell 1
        have q2 := kb3.cell 2
        have q3 := kb3.cell 3
        have q4 := kb3.cell 4
        have q5 := kb3.cell 5
        simp only [List.getElem?_toArray, List.getElem?_cons_zero, List.getElem?_cons_succ] at q0 q1 q2 q3 q4 q5
        have o0 := h3.append hsm a.n hnn a.A a.c a.b hok3.bytes hnb
        have o1 := h3.put hsm a.n hnn a.A a.c a.b hok3.bytes hnb
        have o2 := h3.rename hsm a.n a.t hnn hnt
        have o3 := h3.remove hsm a.n hnn
        have oD := does_act h3 hx (by omega) a hok3
        unfold Ac.val pd at *
        generalize a.k.toInt = kk at *
        clear hok hok3 hh hh1 h3 hcp hxc' hbl1 hb3 kb kb3 hnb hnn hnt b1'
        by_cases e0 : kk = 0
        · subst e0
          have hX : (x.append a.n a.b).2 = a.does x := by rw [HDO.out]; rfl
          unfold Did at o0
          rw [hX] at o0
          go_wp2_with fail
          refine o0.mono ?_
          rintro e w4 ⟨rfl, h4, k4⟩
          clear o0 o1 o2 o3 oD
          by_cases hq : (x.append a.n a.b).1 = 0
          · rw [hq]
            clear hX hq
            have hby := h4.all hsm'
            obtain ⟨sz, hsz⟩ : ∃ sz : Int, (if (a.does x).down then (0 : Int) else (fsize (a.does x).seen : Int)) = sz := ⟨_, rfl⟩
            have hsz2 : decide (cap < sz) = false := by rw [decide_eq_false_iff_not, ← hsz]; split <;> omega
            rw [hsz] at hby
            clear hsz
            unfold pd at hby
            go_wp2_with fail
            refine hby.mono ?_
            rintro e w5 ⟨rfl, hb5⟩
            have k5 : Kept K1 w3 w5 := ⟨Nat.le_trans k4.1 hb5.size, fun b hb => (hb5.block b (Nat.lt_of_lt_of_le (hKl b hb) k4.1)).trans (k4.2 b hb)⟩
            have b0 : w5.cell? ⟨wr.heap.size, 0, none⟩ = some (.int .i64 0) := (World.cell?_of_block (k5.2 _ hKb)).trans q0
            have h5 := (h4.below hb5).less (K' := fun _ => False) fun _ e => e.elim
            clear hby h4 k4
            go_wp2_with fail
            go_roundw
            case rel => exact ⟨k + 1, _, by omega, by go_num, h5.drop (by simp), hx', hnm', cap_act' hxc⟩
            case measure => simp [intOf]; omega
          · have hq' : ((x.append a.n a.b).1 != 0) = true := by simpa using hq
            have hXX : a.does x = x := hX.symm.trans (err_append hq)
            generalize (x.append a.n a.b).1 = q at hq' ⊢
            clear hX hq
            have hby := h4.all hsm'
            obtain ⟨sz, hsz⟩ : ∃ sz : Int, (if (a.does x).down then (0 : Int) else (fsize (a.does x).seen : Int)) = sz := ⟨_, rfl⟩
            have hsz2 : decide (cap < sz) = false := by rw [decide_eq_false_iff_not, ← hsz]; split <;> omega
            rw [hsz] at hby
            clear hsz
            unfold pd at hby
            go_wp2_with fail
            refine hby.mono ?_
            rintro e w5 ⟨rfl, hb5⟩
            have k5 : Kept K1 w3 w5 := ⟨Nat.le_trans k4.1 hb5.size, fun b hb => (hb5.block b (Nat.lt_of_lt_of_le (hKl b hb) k4.1)).trans (k4.2 b hb)⟩
            have b0 : w5.cell? ⟨wr.heap.size, 0, none⟩ = some (.int .i64 0) := (World.cell?_of_block (k5.2 _ hKb)).trans q0
            have h5 := (h4.below hb5).less (K' := fun _ => False) fun _ e => e.elim
            clear hby h4 k4
            have hal := alike_any h5 hsm' hsm (by rw [hXX]) (by rw [hXX]) hnm'.nok
            unfold pd at hal
            go_wp2_with fail
            refine hal.mono ?_
            rintro e w6 ⟨rfl, hb6⟩
            have h6 := (h5.below hb6).less (K' := fun _ => False) fun _ e => e.elim
            have wa1 := h6.waits
            have wa2 := (h6.perm (List.Perm.swap _ _ _)).waits
            have dn1 := h6.isdown
            have dn2 := (h6.perm (List.Perm.swap _ _ _)).isdown
            rw [hXX] at wa1 dn1
            unfold pd at wa1 wa2 dn1 dn2
            generalize (if x.down = true then (0 : Int) else (x.waits.length : Int)) = wz at *
            generalize x.down = dz at *
            clear hal h5
            go_wp2_with fail
            refine wa1.mono ?_
            rintro e w7 ⟨rfl, rfl⟩
            go_wp2_with fail
            refine wa2.mono ?_
            rintro e w7 ⟨rfl, rfl⟩
            go_wp2_with fail
            refine dn1.mono ?_
            rintro e w7 ⟨rfl, rfl⟩
            go_wp2_with fail
            refine dn2.mono ?_
            rintro e w7 ⟨rfl, rfl⟩
            clear wa1 wa2 dn1 dn2
            go_wp2_with fail
            go_roundw
            case rel => exact ⟨k + 1, _, by omega, by go_num, h6.drop (by simp), hx', hnm', cap_act' hxc⟩
            case measure => simp [intOf]; omega
        by_cases e1 : kk = 1
        · subst e1
          have hX : (x.put a.n a.b).2 = a.does x := by rw [HDO.out]; rfl
          unfold Did at o1
          rw [hX] at o1
          go_wp2_with fail
          refine o1.mono ?_
          rintro e w4 ⟨rfl, h4, k4⟩
          clear o0 o1 o2 o3 oD
          by_cases hq : (x.put a.n a.b).1 = 0
          · rw [hq]
            clear hX hq
            have hby := h4.all hsm'
            obtain ⟨sz, hsz⟩ : ∃ sz : Int, (if (a.does x).down then (0 : Int) else (fsize (a.does x).seen : Int)) = sz := ⟨_, rfl⟩
            have hsz2 : decide (cap < sz) = false := by rw [decide_eq_false_iff_not, ← hsz]; split <;> omega
            rw [hsz] at hby
            clear hsz
            unfold pd at hby
            go_wp2_with fail
            refine hby.mono ?_
            rintro e w5 ⟨rfl, hb5⟩
            have k5 : Kept K1 w3 w5 := ⟨Nat.le_trans k4.1 hb5.size, fun b hb => (hb5.block b (Nat.lt_of_lt_of_le (hKl b hb) k4.1)).trans (k4.2 b hb)⟩
            have b0 : w5.cell? ⟨wr.heap.size, 0, none⟩ = some (.int .i64 1) := (World.cell?_of_block (k5.2 _ hKb)).trans q0
            have h5 := (h4.below hb5).less (K' := fun _ => False) fun _ e => e.elim
            clear hby h4 k4
            go_wp2_with fail
            go_roundw
            case rel => exact ⟨k + 1, _, by omega, by go_num, h5.drop (by simp), hx', hnm', cap_act' hxc⟩
            case measure => simp [intOf]; omega
          · have hq' : ((x.put a.n a.b).1 != 0) = true := by simpa using hq
            have hXX : a.does x = x := hX.symm.trans (err_put hq)
            generalize (x.put a.n a.b).1 = q at hq' ⊢
            clear hX hq
            have hby := h4.all hsm'
            obtain ⟨sz, hsz⟩ : ∃ sz : Int, (if (a.does x).down then (0 : Int) else (fsize (a.does x).seen : Int)) = sz := ⟨_, rfl⟩
            have hsz2 : decide (cap < sz) = false := by rw [decide_eq_false_iff_not, ← hsz]; split <;> omega
            rw [hsz] at hby
            clear hsz
            unfold pd at hby
            go_wp2_with fail
            refine hby.mono ?_
            rintro e w5 ⟨rfl, hb5⟩
            have k5 : Kept K1 w3 w5 := ⟨Nat.le_trans k4.1 hb5.size, fun b hb => (hb5.block b (Nat.lt_of_lt_of_le (hKl b hb) k4.1)).trans (k4.2 b hb)⟩
            have b0 : w5.cell? ⟨wr.heap.size, 0, none⟩ = some (.int .i64 1) := (World.cell?_of_block (k5.2 _ hKb)).trans q0
            have h5 := (h4.below hb5).less (K' := fun _ => False) fun _ e => e.elim
            clear hby h4 k4
            have hal := alike_any h5 hsm' hsm (by rw [hXX]) (by rw [hXX]) hnm'.nok
            unfold pd at hal
            go_wp2_with fail
            refine hal.mono ?_
            rintro e w6 ⟨rfl, hb6⟩
            have h6 := (h5.below hb6).less (K' := fun _ => False) fun _ e => e.elim
            have wa1 := h6.waits
            have wa2 := (h6.perm (List.Perm.swap _ _ _)).waits
            have dn1 := h6.isdown
            have dn2 := (h6.perm (List.Perm.swap _ _ _)).isdown
            rw [hXX] at wa1 dn1
            unfold pd at wa1 wa2 dn1 dn2
            generalize (if x.down = true then (0 : Int) else (x.waits.length : Int)) = wz at *
            generalize x.down = dz at *
            clear hal h5
            go_wp2_with fail
            refine wa1.mono ?_
            rintro e w7 ⟨rfl, rfl⟩
            go_wp2_with fail
            refine wa2.mono ?_
            rintro e w7 ⟨rfl, rfl⟩
            go_wp2_with fail
            refine dn1.mono ?_
            rintro e w7 ⟨rfl, rfl⟩
            go_wp2_with fail
            refine dn2.mono ?_
            rintro e w7 ⟨rfl, rfl⟩
            clear wa1 wa2 dn1 dn2
            go_wp2_with fail
            go_roundw
            case rel => exact ⟨k + 1, _, by omega, by go_num, h6.drop (by simp), hx', hnm', cap_act' hxc⟩
            case measure => simp [intOf]; omega
        by_cases e2 : kk = 2
        · subst e2
          have hX : (x.rename a.n a.t).2 = a.does x := by rw [HDO.out]; rfl
          unfold Did at o2
          rw [hX] at o2
          go_wp2_with fail
          refine o2.mono ?_
          rintro e w4 ⟨rfl, h4, k4⟩
          clear o0 o1 o2 o3 oD
          by_cases hq : (x.rename a.n a.t).1 = 0
          · rw [hq]
            clear hX hq
            have hby := h4.all hsm'
            obtain ⟨sz, hsz⟩ : ∃ sz : Int, (if (a.does x).down then (0 : Int) else (fsize (a.does x).seen : Int)) = sz := ⟨_, rfl⟩
            have hsz2 : decide (cap < sz) = false := by rw [decide_eq_false_iff_not, ← hsz]; split <;> omega
            rw [hsz] at hby
            clear hsz
            unfold pd at hby
            go_wp2_with fail
            refine hby.mono ?_
            rintro e w5 ⟨rfl, hb5⟩
            have k5 : Kept K1 w3 w5 := ⟨Nat.le_trans k4.1 hb5.size, fun b hb => (hb5.block b (Nat.lt_of_lt_of_le (hKl b hb) k4.1)).trans (k4.2 b hb)⟩
            have b0 : w5.cell? ⟨wr.heap.size, 0, none⟩ = some (.int .i64 2) := (World.cell?_of_block (k5.2 _ hKb)).trans q0
            have h5 := (h4.below hb5).less (K' := fun _ => False) fun _ e => e.elim
            clear hby h4 k4
            go_wp2_with fail
            go_roundw
            case rel => exact ⟨k + 1, _, by omega, by go_num, h5.drop (by simp), hx', hnm', cap_act' hxc⟩
            case measure => simp [intOf]; omega
          · have hq' : ((x.rename a.n a.t).1 != 0) = true := by simpa using hq
            have hXX : a.does x = x := hX.symm.trans (err_rename hq)
            generalize (x.rename a.n a.t).1 = q at hq' ⊢
            clear hX hq
            have hby := h4.all hsm'
            obtain ⟨sz, hsz⟩ : ∃ sz : Int, (if (a.does x).down then (0 : Int) else (fsize (a.does x).seen : Int)) = sz := ⟨_, rfl⟩
            have hsz2 : decide (cap < sz) = false := by rw [decide_eq_false_iff_not, ← hsz]; split <;> omega
            rw [hsz] at hby
            clear hsz
            unfold pd at hby
            go_wp2_with fail
            refine hby.mono ?_
            rintro e w5 ⟨rfl, hb5⟩
            have k5 : Kept K1 w3 w5 := ⟨Nat.le_trans k4.1 hb5.size, fun b hb => (hb5.block b (Nat.lt_of_lt_of_le (hKl b hb) k4.1)).trans (k4.2 b hb)⟩
            have b0 : w5.cell? ⟨wr.heap.size, 0, none⟩ = some (.int .i64 2) := (World.cell?_of_block (k5.2 _ hKb)).trans q0
            have h5 := (h4.below hb5).less (K' := fun _ => False) fun _ e => e.elim
            clear hby h4 k4
            have hal := alike_any h5 hsm' hsm (by rw [hXX]) (by rw [hXX]) hnm'.nok
            unfold pd at hal
            go_wp2_with fail
            refine hal.mono ?_
            rintro e w6 ⟨rfl, hb6⟩
            have h6 := (h5.below hb6).less (K' := fun _ => False) fun _ e => e.elim
            have wa1 := h6.waits
            have wa2 := (h6.perm (List.Perm.swap _ _ _)).waits
            have dn1 := h6.isdown
            have dn2 := (h6.perm (List.Perm.swap _ _ _)).isdown
            rw [hXX] at wa1 dn1
            unfold pd at wa1 wa2 dn1 dn2
            generalize (if x.down = true then (0 : Int) else (x.waits.length : Int)) = wz at *
            generalize x.down = dz at *
            clear hal h5
            go_wp2_with fail
            refine wa1.mono ?_
            rintro e w7 ⟨rfl, rfl⟩
            go_wp2_with fail
            refine wa2.mono ?_
            rintro e w7 ⟨rfl, rfl⟩
            go_wp2_with fail
            refine dn1.mono ?_
            rintro e w7 ⟨rfl, rfl⟩
            go_wp2_with fail
            refine dn2.mono ?_
            rintro e w7 ⟨rfl, rfl⟩
            clear wa1 wa2 dn1 dn2
            go_wp2_with fail
            go_roundw
            case rel => exact ⟨k + 1, _, by omega, by go_num, h6.drop (by simp), hx', hnm', cap_act' hxc⟩
            case measure => simp [intOf]; omega
        by_cases e3 : kk = 3
        · subst e3
          have hX : (x.remove a.n).2 = a.does x := by rw [HDO.out]; rfl
          unfold Did at o3
          rw [hX] at o3
          go_wp2_with fail
          refine o3.mono ?_
          rintro e w4 ⟨rfl, h4, k4⟩
          clear o0 o1 o2 o3 oD
          by_cases hq : (x.remove a.n).1 = 0
          · rw [hq]
            clear hX hq
            have hby := h4.all hsm'
            obtain ⟨sz, hsz⟩ : ∃ sz : Int, (if (a.does x).down then (0 : Int) else (fsize (a.does x).seen : Int)) = sz := ⟨_, rfl⟩
            have hsz2 : decide (cap < sz) = false := by rw [decide_eq_false_iff_not, ← hsz]; split <;> omega
            rw [hsz] at hby
            clear hsz
            unfold pd at hby
            go_wp2_with fail
            refine hby.mono ?_
            rintro e w5 ⟨rfl, hb5⟩
            have k5 : Kept K1 w3 w5 := ⟨Nat.le_trans k4.1 hb5.size, fun b hb => (hb5.block b (Nat.lt_of_lt_of_le (hKl b hb) k4.1)).trans (k4.2 b hb)⟩
            have b0 : w5.cell? ⟨wr.heap.size, 0, none⟩ = some (.int .i64 3) := (World.cell?_of_block (k5.2 _ hKb)).trans q0
            have h5 := (h4.below hb5).less (K' := fun _ => False) fun _ e => e.elim
            clear hby h4 k4
            go_wp2_with fail
            go_roundw
            case rel => exact ⟨k + 1, _, by omega, by go_num, h5.drop (by simp), hx', hnm', cap_act' hxc⟩
            case measure => simp [intOf]; omega
          · have hq' : ((x.remove a.n).1 != 0) = true := by simpa using hq
            have hXX : a.does x = x := hX.symm.trans (err_remove hq)
            generalize (x.remove a.n).1 = q at hq' ⊢
            clear hX hq
            have hby := h4.all hsm'
            obtain ⟨sz, hsz⟩ : ∃ sz : Int, (if (a.does x).down then (0 : Int) else (fsize (a.does x).seen : Int)) = sz := ⟨_, rfl⟩
            have hsz2 : decide (cap < sz) = false := by rw [decide_eq_false_iff_not, ← hsz]; split <;> omega
            rw [hsz] at hby
            clear hsz
            unfold pd at hby
            go_wp2_with fail
            refine hby.mono ?_
            rintro e w5 ⟨rfl, hb5⟩
            have k5 : Kept K1 w3 w5 := ⟨Nat.le_trans k4.1 hb5.size, fun b hb => (hb5.block b (Nat.lt_of_lt_of_le (hKl b hb) k4.1)).trans (k4.2 b hb)⟩
            have b0 : w5.cell? ⟨wr.heap.size, 0, none⟩ = some (.int .i64 3) := (World.cell?_of_block (k5.2 _ hKb)).trans q0
            have h5 := (h4.below hb5).less (K' := fun _ => False) fun _ e => e.elim
            clear hby h4 k4
            have hal := alike_any h5 hsm' hsm (by rw [hXX]) (by rw [hXX]) hnm'.nok
            unfold pd at hal
            go_wp2_with fail
            refine hal.mono ?_
            rintro e w6 ⟨rfl, hb6⟩
            have h6 := (h5.below hb6).less (K' := fun _ => False) fun _ e => e.elim
            have wa1 := h6.waits
            have wa2 := (h6.perm (List.Perm.swap _ _ _)).waits
            have dn1 := h6.isdown
            have dn2 := (h6.perm (List.Perm.swap _ _ _)).isdown
            rw [hXX] at wa1 dn1
            unfold pd at wa1 wa2 dn1 dn2
            generalize (if x.down = true then (0 : Int) else (x.waits.length : Int)) = wz at *
            generalize x.down = dz at *
            clear hal h5
            go_wp2_with fail
            refine wa1.mono ?_
            rintro e w7 ⟨rfl, rfl⟩
            go_wp2_with fail
            refine wa2.mono ?_
            rintro e w7 ⟨rfl, rfl⟩
            go_wp2_with fail
            refine dn1.mono ?_
            rintro e w7 ⟨rfl, rfl⟩
            go_wp2_with fail
            refine dn2.mono ?_
            rintro e w7 ⟨rfl, rfl⟩
            clear wa1 wa2 dn1 dn2
            go_wp2_with fail
            go_roundw
            case rel => exact ⟨k + 1, _, by omega, by go_num, h6.drop (by simp), hx', hnm', cap_act' hxc⟩
            case measure => simp [intOf]; omega
        have f0 : (kk == 0) = false := by simpa using e0
        have f1 : (kk == 1) = false := by simpa using e1
        have f2 : (kk == 2) = false := by simpa using e2
        have f3 : (kk == 3) = false := by simpa using e3
        have HE : Hid (¬ kk = 0 ∧ ¬ kk = 1 ∧ ¬ kk = 2 ∧ ¬ kk = 3) := ⟨e0, e1, e2, e3⟩
        clear e0 e1 e2 e3 o0 o1 o2 o3
        go_wp2_with fail
        refine oD.mono ?_
        rintro e w4 ⟨rfl, h4, k4⟩
        clear oD
        by_cases e5 : kk = 5
        · subst e5
          have hXX : a.does x = x := by rw [HDO.out]; rfl
          have hby := h4.all hsm'
          obtain ⟨sz, hsz⟩ : ∃ sz : Int, (if (a.does x).down then (0 : Int) else (fsize (a.does x).seen : Int)) = sz := ⟨_, rfl⟩
          have hsz2 : decide (cap < sz) = false := by rw [decide_eq_false_iff_not, ← hsz]; split <;> omega
          rw [hsz] at hby
          clear hsz
          unfold pd at hby
          go_wp2_with fail
          refine hby.mono ?_
          rintro e w5 ⟨rfl, hb5⟩
          have k5 : Kept K1 w3 w5 := ⟨Nat.le_trans k4.1 hb5.size, fun b hb => (hb5.block b (Nat.lt_of_lt_of_le (hKl b hb) k4.1)).trans (k4.2 b hb)⟩
          have b0 : w5.cell? ⟨wr.heap.size, 0, none⟩ = some (.int .i64 5) := (World.cell?_of_block (k5.2 _ hKb)).trans q0
          have h5 := (h4.below hb5).less (K' := fun _ => False) fun _ e => e.elim
          clear hby h4 k4
          have hal := alike_any h5 hsm' hsm (by rw [hXX]) (by rw [hXX]) hnm'.nok
          unfold pd at hal
          go_wp2_with fail
          refine hal.mono ?_
          rintro e w6 ⟨rfl, hb6⟩
          have h6 := (h5.below hb6).less (K' := fun _ => False) fun _ e => e.elim
          have wa1 := h6.waits
          have wa2 := (h6.perm (List.Perm.swap _ _ _)).waits
          have dn1 := h6.isdown
          have dn2 := (h6.perm (List.Perm.swap _ _ _)).isdown
          rw [hXX] at wa1 dn1
          unfold pd at wa1 wa2 dn1 dn2
          generalize (if x.down = true then (0 : Int) else (x.waits.length : Int)) = wz at *
          generalize x.down = dz at *
          clear hal h5
          go_wp2_with fail
          refine wa1.mono ?_
          rintro e w7 ⟨rfl, rfl⟩
          go_wp2_with fail
          refine wa2.mono ?_
          rintro e w7 ⟨rfl, rfl⟩
          go_wp2_with fail
          refine dn1.mono ?_
          rintro e w7 ⟨rfl, rfl⟩
          go_wp2_with fail
          refine dn2.mono ?_
          rintro e w7 ⟨rfl, rfl⟩
          clear wa1 wa2 dn1 dn2
          go_wp2_with fail
          go_roundw
          case rel => exact ⟨k + 1, _, by omega, by go_num, h6.drop (by simp), hx', hnm', cap_act' hxc⟩
          case measure => simp [intOf]; omega
        · have f5 : (kk == 5) = false := by simpa using e5
          clear e5
          have hby := h4.all hsm'
          obtain ⟨sz, hsz⟩ : ∃ sz : Int, (if (a.does x).down then (0 : Int) else (fsize (a.does x).seen : Int)) = sz := ⟨_, rfl⟩
          have hsz2 : decide (cap < sz) = false := by rw [decide_eq_false_iff_not, ← hsz]; split <;> omega
          rw [hsz] at hby
          clear hsz
          unfold pd at hby
          go_wp2_with fail
          refine hby.mono ?_
          rintro e w5 ⟨rfl, hb5⟩
          have k5 : Kept K1 w3 w5 := ⟨Nat.le_trans k4.1 hb5.size, fun b hb => (hb5.block b (Nat.lt_of_lt_of_le (hKl b hb) k4.1)).trans (k4.2 b hb)⟩
          have b0 : w5.cell? ⟨wr.heap.size, 0, none⟩ = some (.int .i64 kk) := (World.cell?_of_block (k5.2 _ hKb)).trans q0
          have h5 := (h4.below hb5).less (K' := fun _ => False) fun _ e => e.elim
          clear hby h4 k4
          go_wp2_with fail
          go_roundw
          case rel => exact ⟨k + 1, _, by omega, by go_num, h5.drop (by simp), hx', hnm', cap_act' hxc⟩
          case measure => simp [intOf]; omega
      · obtain rfl : k = l1.length := by omega
        have hcall := run_awake wr
        have hbl := hh.bel
        have hle := hh.le
        clear hh
        go_wp2_with (go_at_call 11; refine hcall.mono ?_; rintro e w8 ⟨rfl, hb8⟩)
        go_ret
        exact ⟨rfl, hbl.trans (hb8.mono hle)⟩
end Go.Proofs.Ytggdkhgpkedbkaa.DiskBounds
