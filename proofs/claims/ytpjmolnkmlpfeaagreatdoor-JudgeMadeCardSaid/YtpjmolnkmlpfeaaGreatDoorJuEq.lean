/- Rows of bytes, of numbers, compared (as WireP, without the packets). -/
import Derived.Test.YtpjmolnkmlpfeaaGreatDoorJR
import Derived.Test.YtpjmolnkmlpfeaaGreatDoorJC
namespace Go.Proofs.YtpjmolnkmlpfeaaGreatDoor
set_option linter.unusedVariables false
set_option linter.unusedSimpArgs false
set_option maxRecDepth 100000
open Go.RowKit

theorem same_more {α : Type} {xs ys : List α} {k : Nat} (h1 : k < xs.length) (h2 : k < ys.length) (ht : xs.take k = ys.take k) (he : xs[k] = ys[k]) : xs.take (k + 1) = ys.take (k + 1) := by
  rw [List.take_succ_eq_append_getElem h1, List.take_succ_eq_append_getElem h2, ht, he]
set_option maxHeartbeats 1000000 in
theorem eqb_any (A B : Option Addr) (c d : Nat) (xs ys : List UInt8) (w : World) (hA : Bytes w A xs) (hB : Bytes w B ys) (hn : xs.length ≤ 9223372036854775806) (hm : ys.length ≤ 9223372036854775806) :
    Calls Tryz.prog 57 #[.slice A xs.length c, .slice B ys.length d] w fun e w' => e = .returned (.bool (decide (xs = ys))) ∧ ∃ q, w' = w.drewN q := by
  by_cases hl : xs.length = ys.length
  · have hd : ((xs.length : Int) != (ys.length : Int)) = false := by simp [hl]
    have hd2 : (xs.length != ys.length) = false := by simp [hl]
    have HL := Lib.hid hl
    clear hl
    go_enter Tryz.func57, Tryz.ntmps57
    go_wp2_with fail
    clear hd hd2
    go_loopw [13] (fun i wr => ∃ k q : Nat, k ≤ xs.length ∧ i = .int .i64 k ∧ xs.take k = ys.take k ∧ wr = w.drewN q) (fun i _ => xs.length - (intOf i).toNat)
    case atStart => exact ⟨0, 0, by omega, rfl, rfl, rfl⟩
    case round =>
      obtain ⟨k, q, hk, rfl, htk, rfl⟩ := hrel
      have HT := Lib.hid htk
      clear htk
      by_cases hlt : k < xs.length
      · have hlt2 : k < ys.length := by have := HL.out; omega
        have hlt3 : (k : Int) < (ys.length : Int) := by omega
        obtain ⟨b, o, rfl, hbl, hc⟩ := Bytes.flat hA (by omega)
        obtain ⟨b', o', rfl, hbl', hc'⟩ := Bytes.flat hB (by omega)
        have c0 := hc k hlt
        have d0 := hc' k hlt2
        have HS := Lib.hid (same_more hlt hlt2 HT.out)
        have HNE : Hid (xs[k] ≠ ys[k] → xs ≠ ys) := fun h e => h (by subst e; rfl)
        generalize xs[k] = x at c0 HS HNE
        generalize ys[k] = y at d0 HS HNE
        clear hc hc'
        by_cases he : x = y
        · subst he
          have HS2 := Lib.hid (HS.out rfl)
          clear HS HNE
          go_wp2_with fail
          refine PF.pf_begin (by kernel_rfl) ?_
          refine PF.pf_take0 0 (by kernel_rfl) rfl (fun _ _ _ _ _ h => h) (by kernel_rfl) (fun u => by go_simp; try rfl) ?_
          try simp only [Act.put, pz0, pz1, pz2]
          refine PF.pf_take0 1 (by kernel_rfl) rfl (fun _ _ _ _ _ h => h) (by kernel_rfl) (fun u => by go_simp; try rfl) ?_
          try simp only [Act.put, pz0, pz1, pz2]
          refine PF.pf_take0 2 (by kernel_rfl) rfl (fun _ _ _ _ _ h => h) (by kernel_rfl) (fun u => by go_simp; try rfl) ?_
          try simp only [Act.put, pz0, pz1, pz2]
          refine PF.pf_take1 3 (PF.Same (b) _) (by kernel_rfl) rfl (fun _ _ _ _ _ h => h) (by kernel_rfl) (PF.Same.refl _ _) (fun u hu => by have hcu := hu.cell; go_simp; try rfl) ?_
          try simp only [Act.put, pz0, pz1, pz2]
          refine PF.pf_take0 4 (by kernel_rfl) rfl (fun _ _ _ _ _ h => h) (by kernel_rfl) (fun u => by go_simp; try rfl) ?_
          try simp only [Act.put, pz0, pz1, pz2]
          refine PF.pf_take0 5 (by kernel_rfl) rfl (fun _ _ _ _ _ h => h) (by kernel_rfl) (fun u => by go_simp; try rfl) ?_
          try simp only [Act.put, pz0, pz1, pz2]
          refine PF.pf_take0 6 (by kernel_rfl) rfl (fun _ _ _ _ _ h => h) (by kernel_rfl) (fun u => by go_simp; try rfl) ?_
          try simp only [Act.put, pz0, pz1, pz2]
          refine PF.pf_take1 7 (PF.Same (b') _) (by kernel_rfl) rfl (fun _ _ _ _ _ h => h) (by kernel_rfl) (PF.Same.refl _ _) (fun u hu => by have hcu := hu.cell; go_simp; try rfl) ?_
          try simp only [Act.put, pz0, pz1, pz2]
          refine PF.pf_take0 8 (by kernel_rfl) rfl (fun _ _ _ _ _ h => h) (by kernel_rfl) (fun u => by go_simp; try rfl) ?_
          try simp only [Act.put, pz0, pz1, pz2]
          refine PF.pf_done (by kernel_rfl) ?_
          go_wp2_with fail
          go_roundw
          case rel => exact ⟨k + 1, q + 1, by omega, by go_num, HS2.out, rfl⟩
          case measure => simp [intOf]; omega
        · have e1 : ((x.toNat : Int) != (y.toNat : Int)) = true := by simp; intro h; exact he (UInt8.toNat_inj.1 (by omega))
          have e2 : (x.toNat != y.toNat) = true := by simp; intro h; exact he (UInt8.toNat_inj.1 (by omega))
          have e3 : ¬ x.toNat = y.toNat := by intro h; exact he (UInt8.toNat_inj.1 (by omega))
          have HE := Lib.hid he
          clear he
          go_wp2_with fail
          refine PF.pf_begin (by kernel_rfl) ?_
          refine PF.pf_take0 0 (by kernel_rfl) rfl (fun _ _ _ _ _ h => h) (by kernel_rfl) (fun u => by go_simp; try rfl) ?_
          try simp only [Act.put, pz0, pz1, pz2]
          refine PF.pf_take0 1 (by kernel_rfl) rfl (fun _ _ _ _ _ h => h) (by kernel_rfl) (fun u => by go_simp; try rfl) ?_
          try simp only [Act.put, pz0, pz1, pz2]
          refine PF.pf_take0 2 (by kernel_rfl) rfl (fun _ _ _ _ _ h => h) (by kernel_rfl) (fun u => by go_simp; try rfl) ?_
          try simp only [Act.put, pz0, pz1, pz2]
          refine PF.pf_take1 3 (PF.Same (b) _) (by kernel_rfl) rfl (fun _ _ _ _ _ h => h) (by kernel_rfl) (PF.Same.refl _ _) (fun u hu => by have hcu := hu.cell; go_simp; try rfl) ?_
          try simp only [Act.put, pz0, pz1, pz2]
          refine PF.pf_take0 4 (by kernel_rfl) rfl (fun _ _ _ _ _ h => h) (by kernel_rfl) (fun u => by go_simp; try rfl) ?_
          try simp only [Act.put, pz0, pz1, pz2]
          refine PF.pf_take0 5 (by kernel_rfl) rfl (fun _ _ _ _ _ h => h) (by kernel_rfl) (fun u => by go_simp; try rfl) ?_
          try simp only [Act.put, pz0, pz1, pz2]
          refine PF.pf_take0 6 (by kernel_rfl) rfl (fun _ _ _ _ _ h => h) (by kernel_rfl) (fun u => by go_simp; try rfl) ?_
          try simp only [Act.put, pz0, pz1, pz2]
          refine PF.pf_take1 7 (PF.Same (b') _) (by kernel_rfl) rfl (fun _ _ _ _ _ h => h) (by kernel_rfl) (PF.Same.refl _ _) (fun u hu => by have hcu := hu.cell; go_simp; try rfl) ?_
          try simp only [Act.put, pz0, pz1, pz2]
          refine PF.pf_take0 8 (by kernel_rfl) rfl (fun _ _ _ _ _ h => h) (by kernel_rfl) (fun u => by go_simp; try rfl) ?_
          try simp only [Act.put, pz0, pz1, pz2]
          refine PF.pf_done (by kernel_rfl) ?_
          go_wp2_with fail
          go_ret
          exact ⟨ret_bool (by symm; rw [decide_eq_false_iff_not]; exact HNE.out HE.out), q + 1, rfl⟩
      · obtain rfl : k = xs.length := by omega
        go_wp2_with fail
        go_ret
        exact ⟨ret_bool (by symm; rw [decide_eq_true_iff]; have h := HT.out; rw [List.take_length] at h; rw [h, HL.out, List.take_length]), q, rfl⟩
  · have hd : ((xs.length : Int) != (ys.length : Int)) = true := by simp; omega
    have hd2 : (xs.length != ys.length) = true := by simp; omega
    have HL := Lib.hid hl
    clear hl
    go_enter Tryz.func57, Tryz.ntmps57
    go_wp2_with fail
    go_ret
    exact ⟨ret_bool (by symm; rw [decide_eq_false_iff_not]; exact fun e => HL.out (by rw [e])), 0, rfl⟩
end Go.Proofs.YtpjmolnkmlpfeaaGreatDoor
