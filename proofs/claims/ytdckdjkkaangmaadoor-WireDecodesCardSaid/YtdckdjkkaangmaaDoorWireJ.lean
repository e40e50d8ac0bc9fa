/- The writing walker: small numbers, a text, a list. -/
import Derived.Test.YtdckdjkkaangmaaDoorWireI
namespace Go.Proofs.YtdckdjkkaangmaaDoor
set_option linter.unusedVariables false
set_option linter.unusedSimpArgs false
set_option maxRecDepth 100000
open Go.RowKit

set_option maxHeartbeats 8000000 in
theorem wints_any {w : World} {K : Nat → Prop} {xb wb pb : Nat} {T : TypeId} {cs : Array Value} {S : WS} (h : WSt w K xb wb pb T cs S) (os : List Nat) (A : Option Addr) (c : Nat) (hA : Reads w 1 A os.length (os.map (pc pb))) (hn : os.length ≤ 1000000)
    (hB : ∀ ad, A = some ad → K ad.block) (ho : ∀ o ∈ os, IsInt cs o) (hl : S.1.length ≤ 1000000000) :
    Calls Tryd.prog 115 #[.pointer (some ⟨xb, 0, none⟩), .slice A os.length c] w (WTo w K xb wb pb T cs (os.foldl (gInt cs) S)) := by
  go_enter Tryd.func115, Tryd.ntmps115
  go_wp2_with fail
  go_loopw [8] (fun i wr => ∃ k : Nat, k ≤ os.length ∧ i = .int .i64 k ∧ WSt wr K xb wb pb T cs ((os.take k).foldl (gInt cs) S) ∧ ((os.take k).foldl (gInt cs) S).1.length ≤ S.1.length + 10 * k ∧ Mod (fun b => ¬ K b) w wr) (fun i _ => os.length - (intOf i).toNat)
  case atStart => exact ⟨0, by omega, rfl, h, by simp, Mod.refl _ _⟩
  case round =>
    obtain ⟨k, hk, rfl, hS, hL, hM⟩ := hrel
    by_cases hlt : k < os.length
    · have hA2 := Reads.mod hA hM fun ad e hn => hn (hB ad e)
      obtain ⟨b, o, rfl, hbl, hc⟩ := Reads.flat hA2 (by omega) (by decide)
      have c0 : wr.cell? ⟨b, o + k, none⟩ = some (.pointer (some ⟨pb, os[k], none⟩)) := by
        exact hc k (pc pb os[k]) (by rw [List.getElem?_map, List.getElem?_eq_getElem hlt]; rfl)
      have hF := gfold_take (g := gInt cs) hlt S
      obtain ⟨n, hn1, hn2, hn3⟩ := ho _ (List.getElem_mem hlt)
      generalize (os.take k).foldl (gInt cs) S = R at hS hF hL
      generalize os[k] = j at c0 hF hn1
      obtain ⟨x, hx⟩ : ∃ x : Nat, x = (max n 0).toNat := ⟨_, rfl⟩
      have hmx : max n 0 = (x : Int) := by omega
      have hmi : (if n < 0 then (0 : Int) else n) = (x : Int) := by rw [← hmx]; split <;> omega
      have hxl : x < 18446744073709551616 := by omega
      have hwx : IntKind.u64.wrap (x : Int) = (x : Int) := by rw [IntKind.wrap_u64]; omega
      have hsl := short_len' x hxl
      have m0 := hS.me.cell 0
      have m1 := hS.me.cell 1
      have f1 := hS.me.free 1
      have p0 := hS.pk.cell j
      rw [hn1] at p0
      simp only [List.getElem?_toArray, List.getElem?_cons_zero, List.getElem?_cons_succ] at m0 m1
      have hcn : gInt cs R j = (R.1 ++ short x, R.2 || decide (n < 0) || decide (255 < n)) := by
        unfold gInt cellN
        rw [hn1]
        simp only
        rw [← hx]
      rw [hcn] at hF
      have HF := Lib.hid hF
      have HS := Lib.hid hS
      have HM := Lib.hid hM
      have HX := Lib.hid hx
      clear hF hS hM hA hA2 h hc hn1 hcn hx
      cases hbd : R.2
      · have HB := Lib.hid hbd
        rw [hbd] at m1
        clear hbd
        by_cases h0 : n < 0
        · have hd0 : decide (n < 0) = true := decide_eq_true h0
          have hz0 := hd0
          obtain ⟨hS1, hM1⟩ := HS.out.bad true
          have HBD : Hid ((R.2 || decide (n < 0) || decide (255 < n)) = true) := by show _ = _; rw [HB.out, hz0]; rfl
          have hS1' := hS1.same (Below.refl _ _).drew
          obtain ⟨row, hr1, hr2, hr3⟩ := hS1'.wr
          have hu := wuint_any wb row R.1 x hxl _ hr1 (by omega)
          have a0 := hS1'.me.cell 0
          have a1 := hS1'.pk.cell j
          have p1 := HS.out.pk.cell j
          rw [← p1, p0] at a1
          simp only [List.getElem?_toArray, List.getElem?_cons_zero, List.getElem?_cons_succ] at a0
          have HR := Lib.hid hr1
          have HR2 := Lib.hid hr2
          have HR3 := Lib.hid hr3
          have HS1 := Lib.hid hS1'
          have HM1 := Lib.hid (HM.out.trans (hM1.drew))
          clear hS1 hM1 hS1' hr1 hr2 hr3 p1
          go_wp2_with fail
          generalize wr.setCell ⟨xb, 1, none⟩ (.bool true) = w1 at *
          clear m0 m1 p0 f1 c0 hz0 hd0 h0
          refine PF.pf_begin (by kernel_rfl) ?_
          refine PF.pf_take0 0 (by kernel_rfl) rfl (fun _ _ _ _ _ h => h) (by kernel_rfl) (fun u => by go_simp; try rfl) ?_
          try simp only [Act.put, pz0, pz1, pz2]
          refine PF.pf_take0 1 (by kernel_rfl) rfl (fun _ _ _ _ _ h => h) (by kernel_rfl) (fun u => by go_simp; try rfl) ?_
          try simp only [Act.put, pz0, pz1, pz2]
          refine PF.pf_take0 2 (by kernel_rfl) rfl (fun _ _ _ _ _ h => h) (by kernel_rfl) (fun u => by go_simp; try rfl) ?_
          try simp only [Act.put, pz0, pz1, pz2]
          refine PF.pf_take1 3 (PF.Same (xb) _) (by kernel_rfl) rfl (fun _ _ _ _ _ h => h) (by kernel_rfl) (PF.Same.refl _ _) (fun u hu => by have hcu := hu.cell; go_simp; try rfl) ?_
          try simp only [Act.put, pz0, pz1, pz2]
          refine PF.pf_take0 4 (by kernel_rfl) rfl (fun _ _ _ _ _ h => h) (by kernel_rfl) (fun u => by go_simp; try rfl) ?_
          try simp only [Act.put, pz0, pz1, pz2]
          refine PF.pf_take0 5 (by kernel_rfl) rfl (fun _ _ _ _ _ h => h) (by kernel_rfl) (fun u => by go_simp; try rfl) ?_
          try simp only [Act.put, pz0, pz1, pz2]
          refine PF.pf_take1 6 (PF.Same (pb) _) (by kernel_rfl) rfl (fun _ _ _ _ _ h => h) (by kernel_rfl) (PF.Same.refl _ _) (fun u hu => by have hcu := hu.cell; go_simp; try rfl) ?_
          try simp only [Act.put, pz0, pz1, pz2]
          refine PF.pf_take0 7 (by kernel_rfl) rfl (fun _ _ _ _ _ h => h) (by kernel_rfl) (fun u => by go_simp; try rfl) ?_
          try simp only [Act.put, pz0, pz1, pz2]
          refine PF.pf_take0 8 (by kernel_rfl) rfl (fun _ _ _ _ _ h => h) (by kernel_rfl) (fun u => by go_simp; try rfl) ?_
          try simp only [Act.put, pz0, pz1, pz2]
          refine PF.pf_exec 9 (by kernel_rfl) rfl (by kernel_rfl) (fun K hK => ?_)
          go_simp
          refine hu.mono ?_
          rintro e w2 ⟨rfl, hw2⟩
          refine hK _ _ (by repeat (first | exact PF.owes_nil | refine PF.owes_left ?_ | refine PF.owes_no (by decide +kernel) ?_ | refine PF.owes_yes (by first | rfl | assumption | go_simp) ?_)) ?_
          clear hK K
          try simp only [Act.put, pz0, pz1, pz2]
          refine PF.pf_done (by kernel_rfl) ?_
          obtain ⟨hS2, hM2⟩ := HS1.out.wrote HR.out HR2.out HR3.out hw2
          have HS2 := Lib.hid hS2
          have HM2 := Lib.hid (HM1.out.trans hM2)
          clear hu hw2 hS2 hM2
          go_wp2_with fail
          go_roundw
          case rel => exact ⟨k + 1, by omega, by go_num, by rw [HF.out, HBD.out]; exact HS2.out, by rw [HF.out]; simp only [List.length_append]; omega, HM2.out⟩
          case measure => simp [intOf]; omega
        have hd0 : decide (n < 0) = false := decide_eq_false h0
        by_cases h5 : 255 < n
        · have hd5 : decide (255 < n) = true := decide_eq_true h5
          have hz0 := hd0
          have hz5 := hd5
          obtain ⟨hS1, hM1⟩ := HS.out.bad true
          have HBD : Hid ((R.2 || decide (n < 0) || decide (255 < n)) = true) := by show _ = _; rw [HB.out, hz0, hz5]; rfl
          have hS1' := hS1.same (Below.refl _ _).drew
          obtain ⟨row, hr1, hr2, hr3⟩ := hS1'.wr
          have hu := wuint_any wb row R.1 x hxl _ hr1 (by omega)
          have a0 := hS1'.me.cell 0
          have a1 := hS1'.pk.cell j
          have p1 := HS.out.pk.cell j
          rw [← p1, p0] at a1
          simp only [List.getElem?_toArray, List.getElem?_cons_zero, List.getElem?_cons_succ] at a0
          have HR := Lib.hid hr1
          have HR2 := Lib.hid hr2
          have HR3 := Lib.hid hr3
          have HS1 := Lib.hid hS1'
          have HM1 := Lib.hid (HM.out.trans (hM1.drew))
          clear hS1 hM1 hS1' hr1 hr2 hr3 p1
          go_wp2_with fail
          generalize wr.setCell ⟨xb, 1, none⟩ (.bool true) = w1 at *
          clear m0 m1 p0 f1 c0 hz0 hz5 hd0 hd5 h0 h5
          refine PF.pf_begin (by kernel_rfl) ?_
          refine PF.pf_take0 0 (by kernel_rfl) rfl (fun _ _ _ _ _ h => h) (by kernel_rfl) (fun u => by go_simp; try rfl) ?_
          try simp only [Act.put, pz0, pz1, pz2]
          refine PF.pf_take0 1 (by kernel_rfl) rfl (fun _ _ _ _ _ h => h) (by kernel_rfl) (fun u => by go_simp; try rfl) ?_
          try simp only [Act.put, pz0, pz1, pz2]
          refine PF.pf_take0 2 (by kernel_rfl) rfl (fun _ _ _ _ _ h => h) (by kernel_rfl) (fun u => by go_simp; try rfl) ?_
          try simp only [Act.put, pz0, pz1, pz2]
          refine PF.pf_take1 3 (PF.Same (xb) _) (by kernel_rfl) rfl (fun _ _ _ _ _ h => h) (by kernel_rfl) (PF.Same.refl _ _) (fun u hu => by have hcu := hu.cell; go_simp; try rfl) ?_
          try simp only [Act.put, pz0, pz1, pz2]
          refine PF.pf_take0 4 (by kernel_rfl) rfl (fun _ _ _ _ _ h => h) (by kernel_rfl) (fun u => by go_simp; try rfl) ?_
          try simp only [Act.put, pz0, pz1, pz2]
          refine PF.pf_take0 5 (by kernel_rfl) rfl (fun _ _ _ _ _ h => h) (by kernel_rfl) (fun u => by go_simp; try rfl) ?_
          try simp only [Act.put, pz0, pz1, pz2]
          refine PF.pf_take1 6 (PF.Same (pb) _) (by kernel_rfl) rfl (fun _ _ _ _ _ h => h) (by kernel_rfl) (PF.Same.refl _ _) (fun u hu => by have hcu := hu.cell; go_simp; try rfl) ?_
          try simp only [Act.put, pz0, pz1, pz2]
          refine PF.pf_take0 7 (by kernel_rfl) rfl (fun _ _ _ _ _ h => h) (by kernel_rfl) (fun u => by go_simp; try rfl) ?_
          try simp only [Act.put, pz0, pz1, pz2]
          refine PF.pf_take0 8 (by kernel_rfl) rfl (fun _ _ _ _ _ h => h) (by kernel_rfl) (fun u => by go_simp; try rfl) ?_
          try simp only [Act.put, pz0, pz1, pz2]
          refine PF.pf_exec 9 (by kernel_rfl) rfl (by kernel_rfl) (fun K hK => ?_)
          go_simp
          refine hu.mono ?_
          rintro e w2 ⟨rfl, hw2⟩
          refine hK _ _ (by repeat (first | exact PF.owes_nil | refine PF.owes_left ?_ | refine PF.owes_no (by decide +kernel) ?_ | refine PF.owes_yes (by first | rfl | assumption | go_simp) ?_)) ?_
          clear hK K
          try simp only [Act.put, pz0, pz1, pz2]
          refine PF.pf_done (by kernel_rfl) ?_
          obtain ⟨hS2, hM2⟩ := HS1.out.wrote HR.out HR2.out HR3.out hw2
          have HS2 := Lib.hid hS2
          have HM2 := Lib.hid (HM1.out.trans hM2)
          clear hu hw2 hS2 hM2
          go_wp2_with fail
          go_roundw
          case rel => exact ⟨k + 1, by omega, by go_num, by rw [HF.out, HBD.out]; exact HS2.out, by rw [HF.out]; simp only [List.length_append]; omega, HM2.out⟩
          case measure => simp [intOf]; omega
        have hd5 : decide (255 < n) = false := decide_eq_false h5
        have hz0 := hd0
        have hz5 := hd5
        obtain ⟨hS1, hM1⟩ := HS.out.bad false
        have HBD : Hid ((R.2 || decide (n < 0) || decide (255 < n)) = false) := by show _ = _; rw [HB.out, hz0, hz5]; rfl
        have hS1' := hS1.same (Below.refl _ _).drew
        obtain ⟨row, hr1, hr2, hr3⟩ := hS1'.wr
        have hu := wuint_any wb row R.1 x hxl _ hr1 (by omega)
        have a0 := hS1'.me.cell 0
        have a1 := hS1'.pk.cell j
        have p1 := HS.out.pk.cell j
        rw [← p1, p0] at a1
        simp only [List.getElem?_toArray, List.getElem?_cons_zero, List.getElem?_cons_succ] at a0
        have HR := Lib.hid hr1
        have HR2 := Lib.hid hr2
        have HR3 := Lib.hid hr3
        have HS1 := Lib.hid hS1'
        have HM1 := Lib.hid (HM.out.trans (hM1.drew))
        clear hS1 hM1 hS1' hr1 hr2 hr3 p1
        go_wp2_with fail
        generalize wr.setCell ⟨xb, 1, none⟩ (.bool false) = w1 at *
        clear m0 m1 p0 f1 c0 hz0 hz5 hd0 hd5 h0 h5
        refine PF.pf_begin (by kernel_rfl) ?_
        refine PF.pf_take0 0 (by kernel_rfl) rfl (fun _ _ _ _ _ h => h) (by kernel_rfl) (fun u => by go_simp; try rfl) ?_
        try simp only [Act.put, pz0, pz1, pz2]
        refine PF.pf_take0 1 (by kernel_rfl) rfl (fun _ _ _ _ _ h => h) (by kernel_rfl) (fun u => by go_simp; try rfl) ?_
        try simp only [Act.put, pz0, pz1, pz2]
        refine PF.pf_take0 2 (by kernel_rfl) rfl (fun _ _ _ _ _ h => h) (by kernel_rfl) (fun u => by go_simp; try rfl) ?_
        try simp only [Act.put, pz0, pz1, pz2]
        refine PF.pf_take1 3 (PF.Same (xb) _) (by kernel_rfl) rfl (fun _ _ _ _ _ h => h) (by kernel_rfl) (PF.Same.refl _ _) (fun u hu => by have hcu := hu.cell; go_simp; try rfl) ?_
        try simp only [Act.put, pz0, pz1, pz2]
        refine PF.pf_take0 4 (by kernel_rfl) rfl (fun _ _ _ _ _ h => h) (by kernel_rfl) (fun u => by go_simp; try rfl) ?_
        try simp only [Act.put, pz0, pz1, pz2]
        refine PF.pf_take0 5 (by kernel_rfl) rfl (fun _ _ _ _ _ h => h) (by kernel_rfl) (fun u => by go_simp; try rfl) ?_
        try simp only [Act.put, pz0, pz1, pz2]
        refine PF.pf_take1 6 (PF.Same (pb) _) (by kernel_rfl) rfl (fun _ _ _ _ _ h => h) (by kernel_rfl) (PF.Same.refl _ _) (fun u hu => by have hcu := hu.cell; go_simp; try rfl) ?_
        try simp only [Act.put, pz0, pz1, pz2]
        refine PF.pf_take0 7 (by kernel_rfl) rfl (fun _ _ _ _ _ h => h) (by kernel_rfl) (fun u => by go_simp; try rfl) ?_
        try simp only [Act.put, pz0, pz1, pz2]
        refine PF.pf_take0 8 (by kernel_rfl) rfl (fun _ _ _ _ _ h => h) (by kernel_rfl) (fun u => by go_simp; try rfl) ?_
        try simp only [Act.put, pz0, pz1, pz2]
        refine PF.pf_exec 9 (by kernel_rfl) rfl (by kernel_rfl) (fun K hK => ?_)
        go_simp
        refine hu.mono ?_
        rintro e w2 ⟨rfl, hw2⟩
        refine hK _ _ (by repeat (first | exact PF.owes_nil | refine PF.owes_left ?_ | refine PF.owes_no (by decide +kernel) ?_ | refine PF.owes_yes (by first | rfl | assumption | go_simp) ?_)) ?_
        clear hK K
        try simp only [Act.put, pz0, pz1, pz2]
        refine PF.pf_done (by kernel_rfl) ?_
        obtain ⟨hS2, hM2⟩ := HS1.out.wrote HR.out HR2.out HR3.out hw2
        have HS2 := Lib.hid hS2
        have HM2 := Lib.hid (HM1.out.trans hM2)
        clear hu hw2 hS2 hM2
        go_wp2_with fail
        go_roundw
        case rel => exact ⟨k + 1, by omega, by go_num, by rw [HF.out, HBD.out]; exact HS2.out, by rw [HF.out]; simp only [List.length_append]; omega, HM2.out⟩
        case measure => simp [intOf]; omega
      · have HB := Lib.hid hbd
        rw [hbd] at m1
        clear hbd
        skip
        obtain ⟨hS1, hM1⟩ := HS.out.bad true
        have HBD : Hid ((R.2 || decide (n < 0) || decide (255 < n)) = true) := by show _ = _; rw [HB.out]; simp
        have hS1' := hS1.same (Below.refl _ _).drew
        obtain ⟨row, hr1, hr2, hr3⟩ := hS1'.wr
        have hu := wuint_any wb row R.1 x hxl _ hr1 (by omega)
        have a0 := hS1'.me.cell 0
        have a1 := hS1'.pk.cell j
        have p1 := HS.out.pk.cell j
        rw [← p1, p0] at a1
        simp only [List.getElem?_toArray, List.getElem?_cons_zero, List.getElem?_cons_succ] at a0
        have HR := Lib.hid hr1
        have HR2 := Lib.hid hr2
        have HR3 := Lib.hid hr3
        have HS1 := Lib.hid hS1'
        have HM1 := Lib.hid (HM.out.trans (hM1.drew))
        clear hS1 hM1 hS1' hr1 hr2 hr3 p1
        go_wp2_with fail
        generalize wr.setCell ⟨xb, 1, none⟩ (.bool true) = w1 at *
        clear m0 m1 p0 f1 c0 
        refine PF.pf_begin (by kernel_rfl) ?_
        refine PF.pf_take0 0 (by kernel_rfl) rfl (fun _ _ _ _ _ h => h) (by kernel_rfl) (fun u => by go_simp; try rfl) ?_
        try simp only [Act.put, pz0, pz1, pz2]
        refine PF.pf_take0 1 (by kernel_rfl) rfl (fun _ _ _ _ _ h => h) (by kernel_rfl) (fun u => by go_simp; try rfl) ?_
        try simp only [Act.put, pz0, pz1, pz2]
        refine PF.pf_take0 2 (by kernel_rfl) rfl (fun _ _ _ _ _ h => h) (by kernel_rfl) (fun u => by go_simp; try rfl) ?_
        try simp only [Act.put, pz0, pz1, pz2]
        refine PF.pf_take1 3 (PF.Same (xb) _) (by kernel_rfl) rfl (fun _ _ _ _ _ h => h) (by kernel_rfl) (PF.Same.refl _ _) (fun u hu => by have hcu := hu.cell; go_simp; try rfl) ?_
        try simp only [Act.put, pz0, pz1, pz2]
        refine PF.pf_take0 4 (by kernel_rfl) rfl (fun _ _ _ _ _ h => h) (by kernel_rfl) (fun u => by go_simp; try rfl) ?_
        try simp only [Act.put, pz0, pz1, pz2]
        refine PF.pf_take0 5 (by kernel_rfl) rfl (fun _ _ _ _ _ h => h) (by kernel_rfl) (fun u => by go_simp; try rfl) ?_
        try simp only [Act.put, pz0, pz1, pz2]
        refine PF.pf_take1 6 (PF.Same (pb) _) (by kernel_rfl) rfl (fun _ _ _ _ _ h => h) (by kernel_rfl) (PF.Same.refl _ _) (fun u hu => by have hcu := hu.cell; go_simp; try rfl) ?_
        try simp only [Act.put, pz0, pz1, pz2]
        refine PF.pf_take0 7 (by kernel_rfl) rfl (fun _ _ _ _ _ h => h) (by kernel_rfl) (fun u => by go_simp; try rfl) ?_
        try simp only [Act.put, pz0, pz1, pz2]
        refine PF.pf_take0 8 (by kernel_rfl) rfl (fun _ _ _ _ _ h => h) (by kernel_rfl) (fun u => by go_simp; try rfl) ?_
        try simp only [Act.put, pz0, pz1, pz2]
        refine PF.pf_exec 9 (by kernel_rfl) rfl (by kernel_rfl) (fun K hK => ?_)
        go_simp
        refine hu.mono ?_
        rintro e w2 ⟨rfl, hw2⟩
        refine hK _ _ (by repeat (first | exact PF.owes_nil | refine PF.owes_left ?_ | refine PF.owes_no (by decide +kernel) ?_ | refine PF.owes_yes (by first | rfl | assumption | go_simp) ?_)) ?_
        clear hK K
        try simp only [Act.put, pz0, pz1, pz2]
        refine PF.pf_done (by kernel_rfl) ?_
        obtain ⟨hS2, hM2⟩ := HS1.out.wrote HR.out HR2.out HR3.out hw2
        have HS2 := Lib.hid hS2
        have HM2 := Lib.hid (HM1.out.trans hM2)
        clear hu hw2 hS2 hM2
        go_wp2_with fail
        go_roundw
        case rel => exact ⟨k + 1, by omega, by go_num, by rw [HF.out, HBD.out]; exact HS2.out, by rw [HF.out]; simp only [List.length_append]; omega, HM2.out⟩
        case measure => simp [intOf]; omega
    · obtain rfl : k = os.length := by omega
      rw [List.take_length] at hS
      have HS := Lib.hid hS
      clear hS
      go_wp2_with fail
      go_end0
      exact ⟨rfl, HS.out, hM⟩
end Go.Proofs.YtdckdjkkaangmaaDoor
