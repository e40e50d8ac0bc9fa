/- Two disks with the same files are alike. -/
import Derived.Test.YtggdkhgpkedbkaaNames
namespace Go.Proofs.Ytggdkhgpkedbkaa
open Go.RowKit

theorem Held.names {w0 w : World} {K : Nat → Prop} {L : List (Nat × Dk)} {d : Nat} {x : Dk} (h : Held w0 w K ((d, x) :: L)) (hx : Small x) : Calls Try.prog 22 #[pd d] w (NamesPost w (if x.down then [] else x.seen.map (·.1))) := by
  obtain ⟨U, V, hd⟩ := h.dsk
  exact names_any hd hx
theorem Held.all {w0 w : World} {K : Nat → Prop} {L : List (Nat × Dk)} {d : Nat} {x : Dk} (h : Held w0 w K ((d, x) :: L)) (hx : Small x) : Calls Try.prog 23 #[pd d] w fun e w' => e = .returned (.int .i64 (if x.down then 0 else (fsize x.seen : Int))) ∧ Below w.heap.size w w' := by
  obtain ⟨U, V, hd⟩ := h.dsk
  exact all_any hd hx
theorem Held.isdown {w0 w : World} {K : Nat → Prop} {L : List (Nat × Dk)} {d : Nat} {x : Dk} (h : Held w0 w K ((d, x) :: L)) : Calls Try.prog 26 #[pd d] w fun e w' => e = .returned (.bool x.down) ∧ w = w' := by
  obtain ⟨U, V, hd⟩ := h.dsk
  exact down_any hd
theorem own_name {w : World} {base : Nat} {e : TypeId} {g c : Nat} {ns : List Nm} (h : w.ownsRow base e 1 (.slice (some ⟨g, 0, none⟩) ns.length c) ns.length (ns.map nv)) {k : Nat} (hk : k < ns.length) : w.cell? ⟨g, k, none⟩ = some (.string ⟨ns[k].toArray⟩) := by
  rw [h.cellAt k (by simpa using hk), List.getElem?_map, List.getElem?_eq_getElem hk]
  rfl
set_option maxRecDepth 100000 in
set_option maxHeartbeats 8000000 in
theorem alike_any {w0 w : World} {K : Nat → Prop} {L : List (Nat × Dk)} {a b : Nat} {x y : Dk} (h : Held w0 w K ((a, x) :: (b, y) :: L)) (hx : Small x) (hy : Small y) (h1 : x.seen = y.seen) (h2 : x.down = y.down) (hl : ∀ p ∈ x.seen, Nok p.1) :
    Calls Try.prog 21 #[pd a, pd b] w fun e w' => e = .returned (.bool true) ∧ Below w.heap.size w w' := by
  have hnx := h.names hx
  rw [h1, h2] at hnx
  have hlen : (if y.down then [] else y.seen.map (·.1)).length ≤ 1000000 := by split <;> simp; exact hy.ns
  have hnl : ∀ n ∈ (if y.down then [] else y.seen.map (·.1)), Nok n := by
    intro n hn
    split at hn
    · cases hn
    · obtain ⟨p, hp, rfl⟩ := List.mem_map.1 hn
      exact hl p (h1 ▸ hp)
  have hsm : ∀ n, x.read n = y.read n := fun n => by unfold Dk.read; rw [h1, h2]
  have HSM := Lib.hid hsm
  have HNL := Lib.hid hnl
  clear hsm hnl
  unfold pd at *
  go_enter Try.func21, Try.ntmps21
  go_wp2_with fail
  refine hnx.mono ?_
  rintro e w1 ⟨⟨A1, c1, rfl, o1⟩, bl1⟩
  have k1 := (h.below bl1).less (K' := K) fun _ => .inl
  have hny := (k1.perm (List.Perm.swap _ _ _)).names hy
  unfold pd at hny
  clear hnx
  generalize (if y.down then [] else y.seen.map (·.1)) = ns at *
  go_wp2_with fail
  refine hny.mono ?_
  rintro e w2 ⟨⟨A2, c2, rfl, o2⟩, bl2⟩
  have k2 := (k1.below bl2).less (K' := K) fun _ => .inl
  have o1' := own_call o1 bl2
  have hbx := k2.all hx
  rw [h1, h2] at hbx
  unfold pd at hbx
  clear hny k1 o1
  go_wp2_with fail
  refine hbx.mono ?_
  rintro e w3 ⟨rfl, bl3⟩
  have k3 := (k2.below bl3).less (K' := K) fun _ => .inl
  have hby := (k3.perm (List.Perm.swap _ _ _)).all hy
  unfold pd at hby
  have o1 := own_call o1' bl3
  have o2' := own_call o2 bl3
  clear hbx k2 o1' o2
  generalize (if y.down then (0 : Int) else (fsize y.seen : Int)) = sz at *
  go_wp2_with fail
  refine hby.mono ?_
  rintro e w4 ⟨rfl, bl4⟩
  have k4 := (k3.below bl4).less (K' := K) fun _ => .inl
  have o1' := own_call o1 bl4
  have o2 := own_call o2' bl4
  have HB : Hid (Below w.heap.size w w4) := bl1.trans ((bl2.mono bl1.size).trans ((bl3.mono (Nat.le_trans bl1.size bl2.size)).trans (bl4.mono (Nat.le_trans bl1.size (Nat.le_trans bl2.size bl3.size)))))
  clear hby k3 o1 o2' bl1 bl2 bl3 bl4
  go_wp2_with fail
  go_loopw [7] (fun i wr => ∃ k : Nat, k ≤ ns.length ∧ i = .int .i64 k ∧ Below w4.heap.size w4 wr) (fun i _ => ns.length - (intOf i).toNat)
  case atStart => exact ⟨0, by omega, rfl, Below.refl _ _⟩
  case round =>
    obtain ⟨k, hk, rfl, hb⟩ := hrel
    by_cases hlt : k < ns.length
    · have k5 := (k4.below hb).less (K' := K) fun _ => .inl
      obtain ⟨g1, c1', e1, _, _, _⟩ := own_ptr o1' (by omega)
      obtain ⟨g2, c2', e2, _, _, _⟩ := own_ptr o2 (by omega)
      injection e1 with e1 _ e1'
      injection e2 with e2 _ e2'
      subst e1 e1' e2 e2'
      have gl1 := (o1'.lt g1 rfl).2
      have gl2 := (o2.lt g2 rfl).2
      have n1 := own_name (own_call o1' hb) hlt
      have n2 := own_name (own_call o2 hb) hlt
      have hnk := HNL.out _ (List.getElem_mem hlt)
      have hr1 := k5.tell hx ns[k] hnk
      have hsmk := HSM.out ns[k]
      rw [hsmk] at hr1
      generalize ns[k] = nm at *
      clear hsmk
      unfold pd at hr1
      go_wp2_with fail
      refine hr1.mono ?_
      rintro e w5 ⟨A5, c5, K5, rfl, k6, i5, _, _, bl5⟩
      have hr2 := (k6.perm (List.Perm.swap _ _ _)).tell hy nm hnk
      have n1' := (bl5.cell (p := ⟨g1, k, none⟩) (Nat.lt_of_lt_of_le gl1 hb.size)).trans n1
      have n2' := (bl5.cell (p := ⟨g2, k, none⟩) (Nat.lt_of_lt_of_le gl2 hb.size)).trans n2
      unfold pd at hr2
      clear hr1 n1 n2
      generalize y.read nm = r at *
      go_wp2_with fail
      refine hr2.mono ?_
      rintro e w6 ⟨A6, c6, K6, rfl, _, i6, f6, _, bl6⟩
      have i5' := f6 _ _ i5
      have HB6 : Hid (Below w4.heap.size w4 w6) := (hb.trans (bl5.mono hb.size)).trans (bl6.mono (Nat.le_trans hb.size bl5.size))
      have n1 := (bl6.cell (p := ⟨g1, k, none⟩) (Nat.lt_of_lt_of_le gl1 (Nat.le_trans hb.size bl5.size))).trans n1'
      have n2 := (bl6.cell (p := ⟨g2, k, none⟩) (Nat.lt_of_lt_of_le gl2 (Nat.le_trans hb.size bl5.size))).trans n2'
      have HI5 := Lib.hid i5'.bytes
      have HI6 := Lib.hid i6.bytes
      clear hr2 i5 i6 i5' f6 n1' n2' k6 k5 k4 bl5 bl6 hb
      go_wp2_with fail
      refine PF.pf_begin (by kernel_rfl) ?_
      refine PF.pf_take0 0 (by kernel_rfl) rfl (fun _ _ _ _ _ h => h) (by kernel_rfl) (fun u => by go_simp; try rfl) ?_
      try simp only [Act.put, List.setIfInBounds_toArray, List.set_cons_zero, List.set_cons_succ]
      refine PF.pf_take0 1 (by kernel_rfl) rfl (fun _ _ _ _ _ h => h) (by kernel_rfl) (fun u => by go_simp; try rfl) ?_
      try simp only [Act.put, List.setIfInBounds_toArray, List.set_cons_zero, List.set_cons_succ]
      refine PF.pf_take0 2 (by kernel_rfl) rfl (fun _ _ _ _ _ h => h) (by kernel_rfl) (fun u => by go_simp; try rfl) ?_
      try simp only [Act.put, List.setIfInBounds_toArray, List.set_cons_zero, List.set_cons_succ]
      refine PF.pf_take1 3 (PF.Same (g1) _) (by kernel_rfl) rfl (fun _ _ _ _ _ h => h) (by kernel_rfl) (PF.Same.refl _ _) (fun u hu => by have hcu := hu.cell; go_simp; try rfl) ?_
      try simp only [Act.put, List.setIfInBounds_toArray, List.set_cons_zero, List.set_cons_succ]
      refine PF.pf_take0 4 (by kernel_rfl) rfl (fun _ _ _ _ _ h => h) (by kernel_rfl) (fun u => by go_simp; try rfl) ?_
      try simp only [Act.put, List.setIfInBounds_toArray, List.set_cons_zero, List.set_cons_succ]
      refine PF.pf_take0 5 (by kernel_rfl) rfl (fun _ _ _ _ _ h => h) (by kernel_rfl) (fun u => by go_simp; try rfl) ?_
      try simp only [Act.put, List.setIfInBounds_toArray, List.set_cons_zero, List.set_cons_succ]
      refine PF.pf_take0 6 (by kernel_rfl) rfl (fun _ _ _ _ _ h => h) (by kernel_rfl) (fun u => by go_simp; try rfl) ?_
      try simp only [Act.put, List.setIfInBounds_toArray, List.set_cons_zero, List.set_cons_succ]
      refine PF.pf_take1 7 (PF.Same (g2) _) (by kernel_rfl) rfl (fun _ _ _ _ _ h => h) (by kernel_rfl) (PF.Same.refl _ _) (fun u hu => by have hcu := hu.cell; go_simp; try rfl) ?_
      try simp only [Act.put, List.setIfInBounds_toArray, List.set_cons_zero, List.set_cons_succ]
      refine PF.pf_take0 8 (by kernel_rfl) rfl (fun _ _ _ _ _ h => h) (by kernel_rfl) (fun u => by go_simp; try rfl) ?_
      try simp only [Act.put, List.setIfInBounds_toArray, List.set_cons_zero, List.set_cons_succ]
      refine PF.pf_take0 9 (by kernel_rfl) rfl (fun _ _ _ _ _ h => h) (by kernel_rfl) (fun u => by go_simp; try rfl) ?_
      try simp only [Act.put, List.setIfInBounds_toArray, List.set_cons_zero, List.set_cons_succ]
      refine PF.pf_take0 10 (by kernel_rfl) rfl (fun _ _ _ _ _ h => h) (by kernel_rfl) (fun u => by go_simp; try rfl) ?_
      try simp only [Act.put, List.setIfInBounds_toArray, List.set_cons_zero, List.set_cons_succ]
      refine PF.pf_take0 11 (by kernel_rfl) rfl (fun _ _ _ _ _ h => h) (by kernel_rfl) (fun u => by go_simp; try rfl) ?_
      try simp only [Act.put, List.setIfInBounds_toArray, List.set_cons_zero, List.set_cons_succ]
      refine PF.pf_take0 12 (by kernel_rfl) rfl (fun _ _ _ _ _ h => h) (by kernel_rfl) (fun u => by go_simp; try rfl) ?_
      try simp only [Act.put, List.setIfInBounds_toArray, List.set_cons_zero, List.set_cons_succ]
      refine PF.pf_take0 13 (by kernel_rfl) rfl (fun _ _ _ _ _ h => h) (by kernel_rfl) (fun u => by go_simp; try rfl) ?_
      try simp only [Act.put, List.setIfInBounds_toArray, List.set_cons_zero, List.set_cons_succ]
      refine PF.pf_take0 14 (by kernel_rfl) rfl (fun _ _ _ _ _ h => h) (by kernel_rfl) (fun u => by go_simp; try rfl) ?_
      try simp only [Act.put, List.setIfInBounds_toArray, List.set_cons_zero, List.set_cons_succ]
      refine PF.pf_take0 15 (by kernel_rfl) rfl (fun _ _ _ _ _ h => h) (by kernel_rfl) (fun u => by go_simp; try rfl) ?_
      try simp only [Act.put, List.setIfInBounds_toArray, List.set_cons_zero, List.set_cons_succ]
      refine PF.pf_take1 16 (fun u => Bytes u A5 r.1) (by kernel_rfl) rfl (fun _ _ _ _ _ h => h) (by kernel_rfl) (HI5.out) (fun u hu => by (have hcv := conv_str (P := Try.prog) (c := c5) Try.underlying23 Try.underlying5 Try.underlying9 hu rfl; go_simp; rfl)) ?_
      try simp only [Act.put, List.setIfInBounds_toArray, List.set_cons_zero, List.set_cons_succ]
      refine PF.pf_take0 17 (by kernel_rfl) rfl (fun _ _ _ _ _ h => h) (by kernel_rfl) (fun u => by go_simp; try rfl) ?_
      try simp only [Act.put, List.setIfInBounds_toArray, List.set_cons_zero, List.set_cons_succ]
      refine PF.pf_take1 18 (fun u => Bytes u A6 r.1) (by kernel_rfl) rfl (fun _ _ _ _ _ h => h) (by kernel_rfl) (HI6.out) (fun u hu => by (have hcv := conv_str (P := Try.prog) (c := c6) Try.underlying23 Try.underlying5 Try.underlying9 hu rfl; go_simp; rfl)) ?_
      try simp only [Act.put, List.setIfInBounds_toArray, List.set_cons_zero, List.set_cons_succ]
      refine PF.pf_take0 19 (by kernel_rfl) rfl (fun _ _ _ _ _ h => h) (by kernel_rfl) (fun u => by go_simp; try rfl) ?_
      try simp only [Act.put, List.setIfInBounds_toArray, List.set_cons_zero, List.set_cons_succ]
      refine PF.pf_take0 20 (by kernel_rfl) rfl (fun _ _ _ _ _ h => h) (by kernel_rfl) (fun u => by go_simp; try rfl) ?_
      try simp only [Act.put, List.setIfInBounds_toArray, List.set_cons_zero, List.set_cons_succ]
      refine PF.pf_done (by kernel_rfl) ?_
      go_wp2_with fail
      go_roundw
      case rel => exact ⟨k + 1, by omega, by go_num, HB6.out.drew⟩
      case measure => simp [intOf]; omega
    · obtain rfl : k = ns.length := by omega
      go_wp2_with fail
      go_ret
      exact ⟨rfl, HB.out.trans (hb.mono HB.out.size)⟩
end Go.Proofs.Ytggdkhgpkedbkaa
