/- Whether both disks stand alike. -/
import Derived.Test.YtggdkhgpkedbkaaRdL
namespace Go.Proofs.Ytggdkhgpkedbkaa
open Go.RowKit

theorem Held.cap_ {w0 w : World} {K : Nat → Prop} {L : List (Nat × Dk)} {d : Nat} {x : Dk} (h : Held w0 w K ((d, x) :: L)) : Calls Try.prog 33 #[pd d] w fun e w' => e = .returned (.int .i64 x.cap) ∧ w = w' := by
  obtain ⟨U, V, hd⟩ := h.dsk
  exact capacity_any hd
/-- What a row's file is read as. -/
theorem fil_read {x : Dk} {E : List (Nm × Sb)} (hd : x.down = false) (hE : fil E = x.seen) (hs : Srt x.seen) (hn : ∀ p ∈ x.seen, isName p.1 = true) {k : Nat} (hk : k < E.length) : x.read E[k].1 = (E[k].2.2, 0) ∧ flen E[k].1 x.seen = E[k].2.2.length ∧ Nok E[k].1 := by
  have hm : (E[k].1, E[k].2.2) ∈ x.seen := by
    rw [← hE]
    exact List.mem_map.2 ⟨E[k], List.getElem_mem hk, rfl⟩
  have hg := (fget_some hs).2 hm
  have hi := hn _ hm
  refine ⟨?_, ?_, name_nok hi⟩
  · rw [read_up' hd hi, hg]
    rfl
  · unfold flen
    rw [hg]
    rfl
set_option maxRecDepth 100000 in
set_option maxHeartbeats 16000000 in
theorem stands_any {w0 w : World} {K P : Nat → Prop} {L M : List (Nat × Dk)} {d m : Nat} {x : Dk} (h : Both w0 w K P ((d, x) :: L) ((m, x) :: M)) {N : Nat} (hx : Fine N x) (hN : N ≤ 1000000) (hn : Nms x) :
    Calls Try.prog 30 #[pd d, .pointer (some ⟨m, 0, none⟩)] w fun e w' => e = .returned (.bool true) ∧ Below w.heap.size w w' := by
  have hsm := hx.small hN
  have hB := h.drew
  obtain ⟨R, ⟨A, c, E, B, g, l, hr⟩, _⟩ := hB.doc.rat
  have hlw : l.length = x.waits.length := by rw [← hr.waits, List.length_map]
  have hlN : x.waits.length ≤ 1000000 := by have := hx.nw; omega
  have c1 := hB.real.serial
  have c2 := hB.real.cap_
  have c3 := hB.real.isdown
  have q0 := hr.blk.cell 3
  have q1 := hr.blk.cell 2
  have q2 := hr.blk.cell 4
  simp only [List.getElem?_toArray, List.getElem?_cons_zero, List.getElem?_cons_succ] at q0 q1 q2
  have cs := hB.doc.seen hx hN
  have HH := Lib.hid hB
  have HR := Lib.hid hr
  have HX := Lib.hid hx
  have HN := Lib.hid hn
  have HLW := Lib.hid hlw
  have HML := Lib.hid hr.blk.lt
  clear h hr hx hn hlw hB
  unfold pd at *
  go_enter Try.func30, Try.ntmps30
  go_wp2_with fail
  refine PF.pf_begin (by kernel_rfl) ?_
  refine PF.pf_take0 0 (by kernel_rfl) rfl (fun _ _ _ _ _ h => h) (by kernel_rfl) (fun u => by go_simp; try rfl) ?_
  try simp only [Act.put, List.setIfInBounds_toArray, List.set_cons_zero, List.set_cons_succ]
  refine PF.pf_take0 2 (by kernel_rfl) rfl (fun _ _ _ _ _ h => h) (by kernel_rfl) (fun u => by go_simp; try rfl) ?_
  try simp only [Act.put, List.setIfInBounds_toArray, List.set_cons_zero, List.set_cons_succ]
  refine PF.pf_take0 3 (by kernel_rfl) rfl (fun _ _ _ _ _ h => h) (by kernel_rfl) (fun u => by go_simp; try rfl) ?_
  try simp only [Act.put, List.setIfInBounds_toArray, List.set_cons_zero, List.set_cons_succ]
  refine PF.pf_take0 4 (by kernel_rfl) rfl (fun _ _ _ _ _ h => h) (by kernel_rfl) (fun u => by go_simp; try rfl) ?_
  try simp only [Act.put, List.setIfInBounds_toArray, List.set_cons_zero, List.set_cons_succ]
  refine PF.pf_take1 5 (PF.Same (m) _) (by kernel_rfl) rfl (fun _ _ _ _ _ h => h) (by kernel_rfl) (PF.Same.refl _ _) (fun u hu => by have hcu := hu.cell; go_simp; try rfl) ?_
  try simp only [Act.put, List.setIfInBounds_toArray, List.set_cons_zero, List.set_cons_succ]
  refine PF.pf_exec 1 (by kernel_rfl) rfl (by kernel_rfl) (fun K hK => ?_)
  go_simp
  refine c1.mono ?_
  rintro e w1 ⟨rfl, rfl⟩
  refine hK _ _ (by repeat (first | exact PF.owes_nil | refine PF.owes_left ?_ | refine PF.owes_no (by decide +kernel) ?_ | refine PF.owes_yes (by rfl) ?_)) ?_
  clear hK K
  try simp only [Act.put, List.setIfInBounds_toArray, List.set_cons_zero, List.set_cons_succ]
  refine PF.pf_take0 6 (by kernel_rfl) rfl (fun _ _ _ _ _ h => h) (by kernel_rfl) (fun u => by go_simp; try rfl) ?_
  try simp only [Act.put, List.setIfInBounds_toArray, List.set_cons_zero, List.set_cons_succ]
  refine PF.pf_take0 7 (by kernel_rfl) rfl (fun _ _ _ _ _ h => h) (by kernel_rfl) (fun u => by go_simp; try rfl) ?_
  try simp only [Act.put, List.setIfInBounds_toArray, List.set_cons_zero, List.set_cons_succ]
  refine PF.pf_take0 8 (by kernel_rfl) rfl (fun _ _ _ _ _ h => h) (by kernel_rfl) (fun u => by go_simp; try rfl) ?_
  try simp only [Act.put, List.setIfInBounds_toArray, List.set_cons_zero, List.set_cons_succ]
  refine PF.pf_take0 10 (by kernel_rfl) rfl (fun _ _ _ _ _ h => h) (by kernel_rfl) (fun u => by go_simp; try rfl) ?_
  try simp only [Act.put, List.setIfInBounds_toArray, List.set_cons_zero, List.set_cons_succ]
  refine PF.pf_take0 11 (by kernel_rfl) rfl (fun _ _ _ _ _ h => h) (by kernel_rfl) (fun u => by go_simp; try rfl) ?_
  try simp only [Act.put, List.setIfInBounds_toArray, List.set_cons_zero, List.set_cons_succ]
  refine PF.pf_take0 12 (by kernel_rfl) rfl (fun _ _ _ _ _ h => h) (by kernel_rfl) (fun u => by go_simp; try rfl) ?_
  try simp only [Act.put, List.setIfInBounds_toArray, List.set_cons_zero, List.set_cons_succ]
  refine PF.pf_take1 13 (PF.Same (m) _) (by kernel_rfl) rfl (fun _ _ _ _ _ h => h) (by kernel_rfl) (PF.Same.refl _ _) (fun u hu => by have hcu := hu.cell; go_simp; try rfl) ?_
  try simp only [Act.put, List.setIfInBounds_toArray, List.set_cons_zero, List.set_cons_succ]
  refine PF.pf_exec 9 (by kernel_rfl) rfl (by kernel_rfl) (fun K hK => ?_)
  go_simp
  refine c2.mono ?_
  rintro e w1 ⟨rfl, rfl⟩
  refine hK _ _ (by repeat (first | exact PF.owes_nil | refine PF.owes_left ?_ | refine PF.owes_no (by decide +kernel) ?_ | refine PF.owes_yes (by rfl) ?_)) ?_
  clear hK K
  try simp only [Act.put, List.setIfInBounds_toArray, List.set_cons_zero, List.set_cons_succ]
  refine PF.pf_take0 14 (by kernel_rfl) rfl (fun _ _ _ _ _ h => h) (by kernel_rfl) (fun u => by go_simp; try rfl) ?_
  try simp only [Act.put, List.setIfInBounds_toArray, List.set_cons_zero, List.set_cons_succ]
  refine PF.pf_take0 15 (by kernel_rfl) rfl (fun _ _ _ _ _ h => h) (by kernel_rfl) (fun u => by go_simp; try rfl) ?_
  try simp only [Act.put, List.setIfInBounds_toArray, List.set_cons_zero, List.set_cons_succ]
  refine PF.pf_take0 16 (by kernel_rfl) rfl (fun _ _ _ _ _ h => h) (by kernel_rfl) (fun u => by go_simp; try rfl) ?_
  try simp only [Act.put, List.setIfInBounds_toArray, List.set_cons_zero, List.set_cons_succ]
  refine PF.pf_take0 17 (by kernel_rfl) rfl (fun _ _ _ _ _ h => h) (by kernel_rfl) (fun u => by go_simp; try rfl) ?_
  try simp only [Act.put, List.setIfInBounds_toArray, List.set_cons_zero, List.set_cons_succ]
  refine PF.pf_take0 19 (by kernel_rfl) rfl (fun _ _ _ _ _ h => h) (by kernel_rfl) (fun u => by go_simp; try rfl) ?_
  try simp only [Act.put, List.setIfInBounds_toArray, List.set_cons_zero, List.set_cons_succ]
  refine PF.pf_take0 20 (by kernel_rfl) rfl (fun _ _ _ _ _ h => h) (by kernel_rfl) (fun u => by go_simp; try rfl) ?_
  try simp only [Act.put, List.setIfInBounds_toArray, List.set_cons_zero, List.set_cons_succ]
  refine PF.pf_take0 21 (by kernel_rfl) rfl (fun _ _ _ _ _ h => h) (by kernel_rfl) (fun u => by go_simp; try rfl) ?_
  try simp only [Act.put, List.setIfInBounds_toArray, List.set_cons_zero, List.set_cons_succ]
  refine PF.pf_take1 22 (PF.Same (m) _) (by kernel_rfl) rfl (fun _ _ _ _ _ h => h) (by kernel_rfl) (PF.Same.refl _ _) (fun u hu => by have hcu := hu.cell; go_simp; try rfl) ?_
  try simp only [Act.put, List.setIfInBounds_toArray, List.set_cons_zero, List.set_cons_succ]
  refine PF.pf_exec 18 (by kernel_rfl) rfl (by kernel_rfl) (fun K hK => ?_)
  go_simp
  refine c3.mono ?_
  rintro e w1 ⟨rfl, rfl⟩
  refine hK _ _ (by repeat (first | exact PF.owes_nil | refine PF.owes_left ?_ | refine PF.owes_no (by decide +kernel) ?_ | refine PF.owes_yes (by rfl) ?_)) ?_
  clear hK K
  try simp only [Act.put, List.setIfInBounds_toArray, List.set_cons_zero, List.set_cons_succ]
  refine PF.pf_take0 23 (by kernel_rfl) rfl (fun _ _ _ _ _ h => h) (by kernel_rfl) (fun u => by go_simp; try rfl) ?_
  try simp only [Act.put, List.setIfInBounds_toArray, List.set_cons_zero, List.set_cons_succ]
  refine PF.pf_take0 24 (by kernel_rfl) rfl (fun _ _ _ _ _ h => h) (by kernel_rfl) (fun u => by go_simp; try rfl) ?_
  try simp only [Act.put, List.setIfInBounds_toArray, List.set_cons_zero, List.set_cons_succ]
  refine PF.pf_done (by kernel_rfl) ?_
  clear c1 c2 c3 q0 q1 q2
  go_wp2_with fail
  refine cs.mono ?_
  rintro e w2 ⟨E1, hE, ⟨A1, cc, rfl, hF⟩, hb2⟩
  have hB2 := HH.out.below hb2
  have HHE := Lib.hid hE
  have cn := hB2.real.names hsm
  obtain ⟨ns, hns⟩ : ∃ ns, ns = (if x.down then [] else x.seen.map (·.1)) := ⟨_, rfl⟩
  rw [← hns] at cn
  have HNS := Lib.hid hns
  clear hns
  unfold pd at cn
  clear cs hE
  go_wp2_with fail
  refine cn.mono ?_
  rintro e w3 ⟨⟨A2, cc2, rfl, o2⟩, hb3⟩
  have hB3 := hB2.below hb3
  have q4 := ((HR.out.blk.below hb2 HR.out.blk.lt).below hb3 (Nat.lt_of_lt_of_le HR.out.blk.lt hb2.size)).cell 4
  simp only [List.getElem?_toArray, List.getElem?_cons_zero, List.getElem?_cons_succ] at q4
  have HB3 := Lib.hid hB3
  have HB23 : Hid (Below w.heap.size w w3) := (Below.refl _ w).drew.trans (hb2.trans (hb3.mono hb2.size))
  have hF3 := hF.below hb3
  have HBD : Hid (Below w.drew.heap.size w.drew w3) := hb2.trans (hb3.mono hb2.size)
  clear hb2 hb3 hB2 hF cn
  cases hdn : x.down
  case true =>
    rw [hdn] at q4
    obtain rfl : ns = [] := by rw [HNS.out, hdn]; rfl
    have ca := hB3.real.all hsm
    simp only [hdn, if_true] at ca
    have HD := Lib.hid hdn
    unfold pd at ca
    clear hdn
    go_wp2_with fail
    refine ca.mono ?_
    rintro e w4 ⟨rfl, hb4⟩
    have cw := (hB3.below hb4).real.waits
    simp only [HD.out, if_true] at cw
    unfold pd at cw
    clear ca
    go_wp2_with fail
    refine cw.mono ?_
    rintro e w5 ⟨rfl, rfl⟩
    go_wp2_with fail
    go_ret
    exact ⟨rfl, HB23.out.trans (hb4.mono HB23.out.size)⟩
  case false =>
    rw [hdn] at q4
    have hnse : ns = E1.map (·.1) := by
      rw [HNS.out, hdn, ← HHE.out]
      simp [fil, fmap]
    have hnl : ns.length = E1.length := by rw [hnse, List.length_map]
    have hcell : ∀ k, k < E1.length → ∃ g, A2 = some ⟨g, 0, none⟩ ∧ g < w3.heap.size ∧ ∀ (hk : k < E1.length), w3.cell? ⟨g, k, none⟩ = some (.string ⟨E1[k].1.toArray⟩) := fun k hk => by
      obtain ⟨g, c', e, _, _, _⟩ := own_ptr o2 (by omega)
      injection e with e _ _
      refine ⟨g, e, (o2.lt g (by rw [e]; rfl)).2, fun hk => ?_⟩
      subst e
      have h1 := own_name o2 (k := k) (by omega)
      rw [h1]
      simp only [hnse, List.getElem_map]
    have HCE := Lib.hid hcell
    have HE1 : E1.length ≤ 1000000 := by rw [← fil_len, HHE.out]; exact hsm.ns
    rw [hnl]
    have ca := hB3.drew.real.all hsm
    simp only [hdn, Bool.false_eq_true, if_false] at ca
    have q5 := (HR.out.blk.below HBD.out HR.out.blk.lt).cell 1
    simp only [List.getElem?_toArray, List.getElem?_cons_zero, List.getElem?_cons_succ] at q5
    rw [HLW.out] at q5
    have HD := Lib.hid hdn
    unfold pd at ca
    clear hdn hnse hnl hcell o2
    go_wp2_with fail
    refine PF.pf_begin (by kernel_rfl) ?_
    refine PF.pf_take0 0 (by kernel_rfl) rfl (fun _ _ _ _ _ h => h) (by kernel_rfl) (fun u => by go_simp; try rfl) ?_
    try simp only [Act.put, List.setIfInBounds_toArray, List.set_cons_zero, List.set_cons_succ]
    refine PF.pf_take0 1 (by kernel_rfl) rfl (fun _ _ _ _ _ h => h) (by kernel_rfl) (fun u => by go_simp; try rfl) ?_
    try simp only [Act.put, List.setIfInBounds_toArray, List.set_cons_zero, List.set_cons_succ]
    refine PF.pf_take0 2 (by kernel_rfl) rfl (fun _ _ _ _ _ h => h) (by kernel_rfl) (fun u => by go_simp; try rfl) ?_
    try simp only [Act.put, List.setIfInBounds_toArray, List.set_cons_zero, List.set_cons_succ]
    refine PF.pf_take0 3 (by kernel_rfl) rfl (fun _ _ _ _ _ h => h) (by kernel_rfl) (fun u => by go_simp; try rfl) ?_
    try simp only [Act.put, List.setIfInBounds_toArray, List.set_cons_zero, List.set_cons_succ]
    refine PF.pf_take0 4 (by kernel_rfl) rfl (fun _ _ _ _ _ h => h) (by kernel_rfl) (fun u => by go_simp; try rfl) ?_
    try simp only [Act.put, List.setIfInBounds_toArray, List.set_cons_zero, List.set_cons_succ]
    refine PF.pf_take0 5 (by kernel_rfl) rfl (fun _ _ _ _ _ h => h) (by kernel_rfl) (fun u => by go_simp; try rfl) ?_
    try simp only [Act.put, List.setIfInBounds_toArray, List.set_cons_zero, List.set_cons_succ]
    refine PF.pf_take0 6 (by kernel_rfl) rfl (fun _ _ _ _ _ h => h) (by kernel_rfl) (fun u => by go_simp; try rfl) ?_
    try simp only [Act.put, List.setIfInBounds_toArray, List.set_cons_zero, List.set_cons_succ]
    refine PF.pf_take0 8 (by kernel_rfl) rfl (fun _ _ _ _ _ h => h) (by kernel_rfl) (fun u => by go_simp; try rfl) ?_
    try simp only [Act.put, List.setIfInBounds_toArray, List.set_cons_zero, List.set_cons_succ]
    refine PF.pf_exec 7 (by kernel_rfl) rfl (by kernel_rfl) (fun K hK => ?_)
    go_simp
    refine ca.mono ?_
    rintro e w4 ⟨rfl, hb4⟩
    have q6 := (hb4.cell (p := ⟨m, 1, none⟩) (Nat.lt_of_lt_of_le HML.out HB23.out.size)).trans q5
    have csz := sizeof_any cc ((hF3.below (Below.refl _ w3).drew).below hb4) (by omega) (by rw [HHE.out]; have := HX.out.seen_le; have := HX.out.c1; omega)
    rw [HHE.out] at csz
    have cw := (hB3.drew.below hb4).real.waits
    simp only [HD.out, Bool.false_eq_true, if_false] at cw
    unfold pd at cw
    refine hK _ _ (by repeat (first | exact PF.owes_nil | refine PF.owes_left ?_ | refine PF.owes_no (by decide +kernel) ?_ | refine PF.owes_yes (by exact hb4.block _ (Nat.lt_of_lt_of_le HML.out HB23.out.size)) ?_)) ?_
    clear hK K
    try simp only [Act.put, List.setIfInBounds_toArray, List.set_cons_zero, List.set_cons_succ]
    refine PF.pf_exec 9 (by kernel_rfl) rfl (by kernel_rfl) (fun K hK => ?_)
    go_simp
    refine csz.mono ?_
    rintro e w5 ⟨rfl, rfl⟩
    refine hK _ _ (by repeat (first | exact PF.owes_nil | refine PF.owes_left ?_ | refine PF.owes_no (by decide +kernel) ?_ | refine PF.owes_yes (by rfl) ?_)) ?_
    clear hK K
    try simp only [Act.put, List.setIfInBounds_toArray, List.set_cons_zero, List.set_cons_succ]
    refine PF.pf_take0 10 (by kernel_rfl) rfl (fun _ _ _ _ _ h => h) (by kernel_rfl) (fun u => by go_simp; try rfl) ?_
    try simp only [Act.put, List.setIfInBounds_toArray, List.set_cons_zero, List.set_cons_succ]
    refine PF.pf_take0 11 (by kernel_rfl) rfl (fun _ _ _ _ _ h => h) (by kernel_rfl) (fun u => by go_simp; try rfl) ?_
    try simp only [Act.put, List.setIfInBounds_toArray, List.set_cons_zero, List.set_cons_succ]
    refine PF.pf_take0 12 (by kernel_rfl) rfl (fun _ _ _ _ _ h => h) (by kernel_rfl) (fun u => by go_simp; try rfl) ?_
    try simp only [Act.put, List.setIfInBounds_toArray, List.set_cons_zero, List.set_cons_succ]
    refine PF.pf_take0 13 (by kernel_rfl) rfl (fun _ _ _ _ _ h => h) (by kernel_rfl) (fun u => by go_simp; try rfl) ?_
    try simp only [Act.put, List.setIfInBounds_toArray, List.set_cons_zero, List.set_cons_succ]
    refine PF.pf_take0 15 (by kernel_rfl) rfl (fun _ _ _ _ _ h => h) (by kernel_rfl) (fun u => by go_simp; try rfl) ?_
    try simp only [Act.put, List.setIfInBounds_toArray, List.set_cons_zero, List.set_cons_succ]
    refine PF.pf_take0 16 (by kernel_rfl) rfl (fun _ _ _ _ _ h => h) (by kernel_rfl) (fun u => by go_simp; try rfl) ?_
    try simp only [Act.put, List.setIfInBounds_toArray, List.set_cons_zero, List.set_cons_succ]
    refine PF.pf_take0 17 (by kernel_rfl) rfl (fun _ _ _ _ _ h => h) (by kernel_rfl) (fun u => by go_simp; try rfl) ?_
    try simp only [Act.put, List.setIfInBounds_toArray, List.set_cons_zero, List.set_cons_succ]
    refine PF.pf_take1 18 (PF.Same (m) _) (by kernel_rfl) rfl (fun _ _ _ _ _ h => h) (by kernel_rfl) (PF.Same.refl _ _) (fun u hu => by have hcu := hu.cell; go_simp; try rfl) ?_
    try simp only [Act.put, List.setIfInBounds_toArray, List.set_cons_zero, List.set_cons_succ]
    refine PF.pf_take0 19 (by kernel_rfl) rfl (fun _ _ _ _ _ h => h) (by kernel_rfl) (fun u => by go_simp; try rfl) ?_
    try simp only [Act.put, List.setIfInBounds_toArray, List.set_cons_zero, List.set_cons_succ]
    refine PF.pf_exec 14 (by kernel_rfl) rfl (by kernel_rfl) (fun K hK => ?_)
    go_simp
    refine cw.mono ?_
    rintro e w5 ⟨rfl, rfl⟩
    refine hK _ _ (by repeat (first | exact PF.owes_nil | refine PF.owes_left ?_ | refine PF.owes_no (by decide +kernel) ?_ | refine PF.owes_yes (by rfl) ?_)) ?_
    clear hK K
    try simp only [Act.put, List.setIfInBounds_toArray, List.set_cons_zero, List.set_cons_succ]
    refine PF.pf_take0 20 (by kernel_rfl) rfl (fun _ _ _ _ _ h => h) (by kernel_rfl) (fun u => by go_simp; try rfl) ?_
    try simp only [Act.put, List.setIfInBounds_toArray, List.set_cons_zero, List.set_cons_succ]
    refine PF.pf_take0 21 (by kernel_rfl) rfl (fun _ _ _ _ _ h => h) (by kernel_rfl) (fun u => by go_simp; try rfl) ?_
    try simp only [Act.put, List.setIfInBounds_toArray, List.set_cons_zero, List.set_cons_succ]
    refine PF.pf_done (by kernel_rfl) ?_
    have HB4 := Lib.hid (hB3.drew.below hb4)
    have HBW : Hid (Below w.heap.size w w4) := HB23.out.trans (((Below.refl _ w3).drew.trans hb4).mono HB23.out.size)
    have hF4 := (hF3.below (Below.refl _ w3).drew).below hb4
    have HF4 := Lib.hid hF4
    have HB34 : Hid (Below w3.heap.size w3 w4) := (Below.refl _ w3).drew.trans hb4
    clear ca csz cw q4 q5 q6 hF4 hF3 hb4 hB3
    go_wp2_with fail
    go_loopw [7] (fun i wr => ∃ k : Nat, k ≤ E1.length ∧ i = .int .i64 k ∧ Below w4.heap.size w4 wr) (fun i _ => E1.length - (intOf i).toNat)
    case atStart => exact ⟨0, by omega, rfl, Below.refl _ _⟩
    case round =>
      obtain ⟨k, hk, rfl, hb⟩ := hrel
      by_cases hlt : k < E1.length
      · obtain ⟨b, o, rfl, hbl, c0, c1⟩ := (HF4.out.below hb).at_ hlt
        obtain ⟨g, rfl, hgl, hnc⟩ := HCE.out k hlt
        have n1 := ((HB34.out.trans (hb.mono HB34.out.size)).cell (p := ⟨g, k, none⟩) hgl).trans (hnc hlt)
        obtain ⟨hfr, hfl, hfo⟩ := fil_read HD.out HHE.out HX.out.srts HN.out.seen hlt
        have hB6 := HB4.out.below hb
        have cr := hB6.real.read hsm _ hfo
        rw [hfr] at cr
        have hby := (HF4.out.below hb).rows _ (List.getElem_mem hlt)
        have HGL := Lib.hid (Nat.lt_of_lt_of_le hgl (HB34.out.trans (hb.mono HB34.out.size)).size)
        clear hfr hnc hgl
        generalize E1[k] = p at c0 c1 n1 hfl hfo cr hby
        obtain ⟨pn, ⟨⟨pA, pm, pc⟩, pl⟩⟩ := p
        obtain rfl : pm = pl.length := hby.len
        unfold sv at c1
        unfold pd at cr
        simp only at c0 c1 n1 hfl hfo cr hby
        go_wp2_with fail
        refine cr.mono ?_
        rintro e w6 ⟨⟨A6, c6, rfl, o6⟩, hb6⟩
        simp only at o6 ⊢
        have m0 := (hb6.cell (p := ⟨b, o + k * 2, none⟩) hbl).trans c0
        have m1 := (hb6.cell (p := ⟨b, o + k * 2 + 1, none⟩) hbl).trans c1
        have m2 := (hb6.cell (p := ⟨g, k, none⟩) HGL.out).trans n1
        have HI6 : Hid (Bytes w6 A6 pl) := Reads.of_own o6
        have HIp : Hid (Bytes w6 pA pl) := hby.bytes.below hb6
        have cz := ((hB6.below hb6).drew).real.size pn hfo
        simp only [HD.out, Bool.false_eq_true, if_false] at cz
        rw [hfl] at cz
        unfold pd at cz
        have HB6 : Hid (Below w4.heap.size w4 w6) := hb.trans (hb6.mono hb.size)
        clear cr c0 c1 n1 o6 hby hB6 hfl
        go_wp2_with fail
        refine PF.pf_begin (by kernel_rfl) ?_
        refine PF.pf_take0 0 (by kernel_rfl) rfl (fun _ _ _ _ _ h => h) (by kernel_rfl) (fun u => by go_simp; try rfl) ?_
        try simp only [Act.put, List.setIfInBounds_toArray, List.set_cons_zero, List.set_cons_succ]
        refine PF.pf_take0 1 (by kernel_rfl) rfl (fun _ _ _ _ _ h => h) (by kernel_rfl) (fun u => by go_simp; try rfl) ?_
        try simp only [Act.put, List.setIfInBounds_toArray, List.set_cons_zero, List.set_cons_succ]
        refine PF.pf_take0 2 (by kernel_rfl) rfl (fun _ _ _ _ _ h => h) (by kernel_rfl) (fun u => by go_simp; try rfl) ?_
        try simp only [Act.put, List.setIfInBounds_toArray, List.set_cons_zero, List.set_cons_succ]
        refine PF.pf_take1 3 (PF.Same (g) _) (by kernel_rfl) rfl (fun _ _ _ _ _ h => h) (by kernel_rfl) (PF.Same.refl _ _) (fun u hu => by have hcu := hu.cell; go_simp; try rfl) ?_
        try simp only [Act.put, List.setIfInBounds_toArray, List.set_cons_zero, List.set_cons_succ]
        refine PF.pf_take0 4 (by kernel_rfl) rfl (fun _ _ _ _ _ h => h) (by kernel_rfl) (fun u => by go_simp; try rfl) ?_
        try simp only [Act.put, List.setIfInBounds_toArray, List.set_cons_zero, List.set_cons_succ]
        refine PF.pf_take0 5 (by kernel_rfl) rfl (fun _ _ _ _ _ h => h) (by kernel_rfl) (fun u => by go_simp; try rfl) ?_
        try simp only [Act.put, List.setIfInBounds_toArray, List.set_cons_zero, List.set_cons_succ]
        refine PF.pf_take0 6 (by kernel_rfl) rfl (fun _ _ _ _ _ h => h) (by kernel_rfl) (fun u => by go_simp; try rfl) ?_
        try simp only [Act.put, List.setIfInBounds_toArray, List.set_cons_zero, List.set_cons_succ]
        refine PF.pf_take0 7 (by kernel_rfl) rfl (fun _ _ _ _ _ h => h) (by kernel_rfl) (fun u => by go_simp; try rfl) ?_
        try simp only [Act.put, List.setIfInBounds_toArray, List.set_cons_zero, List.set_cons_succ]
        refine PF.pf_take1 8 (PF.Same (b) _) (by kernel_rfl) rfl (fun _ _ _ _ _ h => h) (by kernel_rfl) (PF.Same.refl _ _) (fun u hu => by have hcu := hu.cell; go_simp; try rfl) ?_
        try simp only [Act.put, List.setIfInBounds_toArray, List.set_cons_zero, List.set_cons_succ]
        refine PF.pf_take0 9 (by kernel_rfl) rfl (fun _ _ _ _ _ h => h) (by kernel_rfl) (fun u => by go_simp; try rfl) ?_
        try simp only [Act.put, List.setIfInBounds_toArray, List.set_cons_zero, List.set_cons_succ]
        refine PF.pf_take0 10 (by kernel_rfl) rfl (fun _ _ _ _ _ h => h) (by kernel_rfl) (fun u => by go_simp; try rfl) ?_
        try simp only [Act.put, List.setIfInBounds_toArray, List.set_cons_zero, List.set_cons_succ]
        refine PF.pf_take0 11 (by kernel_rfl) rfl (fun _ _ _ _ _ h => h) (by kernel_rfl) (fun u => by go_simp; try rfl) ?_
        try simp only [Act.put, List.setIfInBounds_toArray, List.set_cons_zero, List.set_cons_succ]
        refine PF.pf_take0 12 (by kernel_rfl) rfl (fun _ _ _ _ _ h => h) (by kernel_rfl) (fun u => by go_simp; try rfl) ?_
        try simp only [Act.put, List.setIfInBounds_toArray, List.set_cons_zero, List.set_cons_succ]
        refine PF.pf_take0 13 (by kernel_rfl) rfl (fun _ _ _ _ _ h => h) (by kernel_rfl) (fun u => by go_simp; try rfl) ?_
        try simp only [Act.put, List.setIfInBounds_toArray, List.set_cons_zero, List.set_cons_succ]
        refine PF.pf_take0 14 (by kernel_rfl) rfl (fun _ _ _ _ _ h => h) (by kernel_rfl) (fun u => by go_simp; try rfl) ?_
        try simp only [Act.put, List.setIfInBounds_toArray, List.set_cons_zero, List.set_cons_succ]
        refine PF.pf_take0 15 (by kernel_rfl) rfl (fun _ _ _ _ _ h => h) (by kernel_rfl) (fun u => by go_simp; try rfl) ?_
        try simp only [Act.put, List.setIfInBounds_toArray, List.set_cons_zero, List.set_cons_succ]
        refine PF.pf_take1 16 (fun u => Bytes u A6 pl) (by kernel_rfl) rfl (fun _ _ _ _ _ h => h) (by kernel_rfl) (HI6.out) (fun u hu => by (have hcv := conv_str (P := Try.prog) (c := c6) Try.underlying23 Try.underlying5 Try.underlying9 hu rfl; go_simp; rfl)) ?_
        try simp only [Act.put, List.setIfInBounds_toArray, List.set_cons_zero, List.set_cons_succ]
        refine PF.pf_take0 17 (by kernel_rfl) rfl (fun _ _ _ _ _ h => h) (by kernel_rfl) (fun u => by go_simp; try rfl) ?_
        try simp only [Act.put, List.setIfInBounds_toArray, List.set_cons_zero, List.set_cons_succ]
        refine PF.pf_take0 18 (by kernel_rfl) rfl (fun _ _ _ _ _ h => h) (by kernel_rfl) (fun u => by go_simp; try rfl) ?_
        try simp only [Act.put, List.setIfInBounds_toArray, List.set_cons_zero, List.set_cons_succ]
        refine PF.pf_take0 19 (by kernel_rfl) rfl (fun _ _ _ _ _ h => h) (by kernel_rfl) (fun u => by go_simp; try rfl) ?_
        try simp only [Act.put, List.setIfInBounds_toArray, List.set_cons_zero, List.set_cons_succ]
        refine PF.pf_take0 20 (by kernel_rfl) rfl (fun _ _ _ _ _ h => h) (by kernel_rfl) (fun u => by go_simp; try rfl) ?_
        try simp only [Act.put, List.setIfInBounds_toArray, List.set_cons_zero, List.set_cons_succ]
        refine PF.pf_take1 21 (PF.Same (b) _) (by kernel_rfl) rfl (fun _ _ _ _ _ h => h) (by kernel_rfl) (PF.Same.refl _ _) (fun u hu => by have hcu := hu.cell; go_simp; try rfl) ?_
        try simp only [Act.put, List.setIfInBounds_toArray, List.set_cons_zero, List.set_cons_succ]
        refine PF.pf_take1 22 (fun u => Bytes u pA pl) (by kernel_rfl) rfl (fun _ _ _ _ _ h => h) (by kernel_rfl) (HIp.out) (fun u hu => by (have hcv := conv_str (P := Try.prog) (c := pc) Try.underlying23 Try.underlying5 Try.underlying9 hu rfl; go_simp; rfl)) ?_
        try simp only [Act.put, List.setIfInBounds_toArray, List.set_cons_zero, List.set_cons_succ]
        refine PF.pf_take0 23 (by kernel_rfl) rfl (fun _ _ _ _ _ h => h) (by kernel_rfl) (fun u => by go_simp; try rfl) ?_
        try simp only [Act.put, List.setIfInBounds_toArray, List.set_cons_zero, List.set_cons_succ]
        refine PF.pf_take0 24 (by kernel_rfl) rfl (fun _ _ _ _ _ h => h) (by kernel_rfl) (fun u => by go_simp; try rfl) ?_
        try simp only [Act.put, List.setIfInBounds_toArray, List.set_cons_zero, List.set_cons_succ]
        refine PF.pf_take0 25 (by kernel_rfl) rfl (fun _ _ _ _ _ h => h) (by kernel_rfl) (fun u => by go_simp; try rfl) ?_
        try simp only [Act.put, List.setIfInBounds_toArray, List.set_cons_zero, List.set_cons_succ]
        refine PF.pf_take0 26 (by kernel_rfl) rfl (fun _ _ _ _ _ h => h) (by kernel_rfl) (fun u => by go_simp; try rfl) ?_
        try simp only [Act.put, List.setIfInBounds_toArray, List.set_cons_zero, List.set_cons_succ]
        refine PF.pf_take0 27 (by kernel_rfl) rfl (fun _ _ _ _ _ h => h) (by kernel_rfl) (fun u => by go_simp; try rfl) ?_
        try simp only [Act.put, List.setIfInBounds_toArray, List.set_cons_zero, List.set_cons_succ]
        refine PF.pf_take0 28 (by kernel_rfl) rfl (fun _ _ _ _ _ h => h) (by kernel_rfl) (fun u => by go_simp; try rfl) ?_
        try simp only [Act.put, List.setIfInBounds_toArray, List.set_cons_zero, List.set_cons_succ]
        refine PF.pf_take0 29 (by kernel_rfl) rfl (fun _ _ _ _ _ h => h) (by kernel_rfl) (fun u => by go_simp; try rfl) ?_
        try simp only [Act.put, List.setIfInBounds_toArray, List.set_cons_zero, List.set_cons_succ]
        refine PF.pf_take1 30 (PF.Same (g) _) (by kernel_rfl) rfl (fun _ _ _ _ _ h => h) (by kernel_rfl) (PF.Same.refl _ _) (fun u hu => by have hcu := hu.cell; go_simp; try rfl) ?_
        try simp only [Act.put, List.setIfInBounds_toArray, List.set_cons_zero, List.set_cons_succ]
        refine PF.pf_take0 32 (by kernel_rfl) rfl (fun _ _ _ _ _ h => h) (by kernel_rfl) (fun u => by go_simp; try rfl) ?_
        try simp only [Act.put, List.setIfInBounds_toArray, List.set_cons_zero, List.set_cons_succ]
        refine PF.pf_take0 33 (by kernel_rfl) rfl (fun _ _ _ _ _ h => h) (by kernel_rfl) (fun u => by go_simp; try rfl) ?_
        try simp only [Act.put, List.setIfInBounds_toArray, List.set_cons_zero, List.set_cons_succ]
        refine PF.pf_exec 31 (by kernel_rfl) rfl (by kernel_rfl) (fun K hK => ?_)
        go_simp
        refine cz.mono ?_
        rintro e w7 ⟨rfl, rfl⟩
        refine hK _ _ (by repeat (first | exact PF.owes_nil | refine PF.owes_left ?_ | refine PF.owes_no (by decide +kernel) ?_ | refine PF.owes_yes (by rfl) ?_)) ?_
        clear hK K
        try simp only [Act.put, List.setIfInBounds_toArray, List.set_cons_zero, List.set_cons_succ]
        refine PF.pf_take0 34 (by kernel_rfl) rfl (fun _ _ _ _ _ h => h) (by kernel_rfl) (fun u => by go_simp; try rfl) ?_
        try simp only [Act.put, List.setIfInBounds_toArray, List.set_cons_zero, List.set_cons_succ]
        refine PF.pf_take0 35 (by kernel_rfl) rfl (fun _ _ _ _ _ h => h) (by kernel_rfl) (fun u => by go_simp; try rfl) ?_
        try simp only [Act.put, List.setIfInBounds_toArray, List.set_cons_zero, List.set_cons_succ]
        refine PF.pf_done (by kernel_rfl) ?_
        go_wp2_with fail
        go_roundw
        case rel => exact ⟨k + 1, by omega, by go_num, HB6.out.drew⟩
        case measure => simp [intOf]; omega
      · obtain rfl : k = E1.length := by omega
        go_wp2_with fail
        go_ret
        exact ⟨rfl, HBW.out.trans (hb.mono HBW.out.size)⟩
end Go.Proofs.Ytggdkhgpkedbkaa
