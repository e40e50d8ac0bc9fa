/- The document's Is: it ends, with some answer. -/
import Derived.Test.YtpjmolnkmlpfeaaGreatDoorJuLh
import Derived.Test.YtpjmolnkmlpfeaaGreatDoorJuSh
namespace Go.Proofs.YtpjmolnkmlpfeaaGreatDoor
set_option linter.unusedVariables false
set_option linter.unusedSimpArgs false
set_option maxRecDepth 100000
open Go.RowKit

theorem nt_callA {w : World} {b o : Nat} {x : NtV} (h : w.rangeAt b o (ntL x)) : w.rangeAt b (o + 1) (calL x.n.call x.vc) := nt_callR h
theorem nt_repA {w : World} {b o : Nat} {x : NtV} (h : w.rangeAt b o (ntL x)) : w.rangeAt b (o + 10) (repL x.n.rep x.vr) := fun j v hv => by
  have hj : j < 9 := (List.getElem?_eq_some_iff.1 hv).1
  have := h (10 + j) v (by
    rw [← hv]
    match j, hj with
    | 0, _ | 1, _ | 2, _ | 3, _ | 4, _ | 5, _ | 6, _ | 7, _ | 8, _ => rfl)
  rw [Nat.add_assoc]
  exact this
set_option maxRecDepth 100000 in
set_option maxHeartbeats 16000000 in
theorem ris_some {w : World} {A : Option Addr} {l : List NtV} {c : Nat} (hr : Reads w 19 A l.length (l.flatMap ntL)) (hin : ∀ x ∈ l, NtIn w x) (hl : l.length ≤ 1000000) :
    Calls Tryz.prog 19 #[.slice A l.length c] w fun e w' => (∃ b, e = .returned (.bool b)) ∧ Below w.heap.size w w' := by
  have HR := Lib.hid hr
  have HIN := Lib.hid hin
  clear hr hin
  go_enter Tryz.func19, Tryz.ntmps19
  go_wp2_with fail
  go_loopw [3] (fun i wr => ∃ k : Nat, k ≤ l.length ∧ i = .int .i64 k ∧ Below w.heap.size w wr) (fun i _ => l.length - (intOf i).toNat)
  case atStart => exact ⟨0, by omega, rfl, Below.refl _ _⟩
  case round =>
    obtain ⟨k, hk, rfl, hb⟩ := hrel
    have HB := Lib.hid hb
    clear hb
    by_cases hlt : k < l.length
    · obtain ⟨b, o, rfl, hbl, hrg⟩ := rows_range ntL_len (by decide) (HR.out.below (HB.out.mono (Nat.le_refl _))) hlt
      have hxk := HIN.out _ (List.getElem_mem hlt)
      obtain ⟨xk, hxk0⟩ : ∃ xk, xk = l[k] := ⟨_, rfl⟩
      rw [← hxk0] at hrg hxk
      have HXE : Hid (∃ h : k < l.length, xk = l[k]) := ⟨hlt, hxk0⟩
      have hok : xk.vc.oneCell' = true := hxk.vc.one
      have hor : xk.vr.oneCell' = true := hxk.vr.one
      have HRG := Lib.hid hrg
      have HXK := Lib.hid hxk
      clear hrg hxk hbl hxk0
      go_wp2_with (first
        | (refine wpList_load_rg rfl (ty := 25) rfl (vs := calL xk.n.call xk.vc) rfl (nt_callA HRG.out) Tryz.underlying25 rfl (infoj_call9 rfl) ?_)
        | (refine wpList_alloc_blk rfl rfl zero_call ?_; intro g4 w2 e4 hB2 hb2)
        | (refine wpList_store_blk (cs := (calL xk.n.call xk.vc).toArray) rfl rfl rfl rfl hB2 rfl (info_call rfl) (calL_one hok) ?_; intro w3 hB3 hm3; refine Hid.out ?_))
      refine Lib.hid ?_
      have HB4 := Lib.hid hB3
      have HT3 : Hid (Below w.heap.size w w3) := by
        have h1 := HB.out.trans (hb2.mono HB.out.size)
        exact h1.trans (hm3.to_below h1.size fun b hb e => by have := HB.out.size; omega)
      have HG4 : Hid (w.heap.size ≤ g4) := by show _ ≤ _; have := HB.out.size; omega
      clear e4 hB2 hb2 hB3 hm3
      go_wp2_with fail
      go_loopw [5, 6, 7] (fun p q i wi => ∃ (j qn : Nat) (pn : Int), j ≤ k ∧ i = .int .i64 j ∧ q = .int .i64 (qn : Int) ∧ qn ≤ j ∧ p = .int .i64 pn ∧ -1 ≤ pn ∧ pn < l.length ∧ Below w.heap.size w wi ∧ Blk wi g4 25 (calL xk.n.call xk.vc).toArray) (fun _ _ i _ => k - (intOf i).toNat)
      case atStart => exact ⟨0, 0, -1, by omega, rfl, rfl, by omega, rfl, by omega, by omega, HT3.out, HB4.out⟩
      case round =>
        obtain ⟨j, qn, pn, hjk, rfl, rfl, hqj, rfl, hp1, hp2, hbi, hB⟩ := hrel
        obtain ⟨wi, rfl⟩ : ∃ wo : World, wo = wr := ⟨_, rfl⟩
        have HBI := Lib.hid hbi
        have HBB := Lib.hid hB
        have HPQ : Hid (qn ≤ j ∧ -1 ≤ pn ∧ pn < l.length) := ⟨hqj, hp1, hp2⟩
        clear hbi hB hp1 hp2 HT3 HB4
        by_cases hjl : j < k
        · obtain ⟨b2, o2, e2, _, hrj⟩ := rows_range ntL_len (by decide) (HR.out.below (HBI.out.mono (Nat.le_refl _))) (show j < l.length by omega)
          have hjlen : j < l.length := by omega
          injection e2 with e2
          injection e2 with e3 e4
          subst e3 e4
          generalize l[j] = x at hrj
          have HRJ := Lib.hid hrj
          clear hrj
          by_cases hid : idOf x.n.call = idOf xk.n.call
          · have did : decide (idOf x.n.call = idOf xk.n.call) = true := decide_eq_true hid
            clear hid
            by_cases h1 : x.n.kind = 1
            · have p1 : (x.n.kind == 1) = true := beq_iff_eq.2 h1
              have p2 : (x.n.kind == 2) = false := beq_eq_false_iff_ne.2 (by omega)
              clear h1
              go_wp2_with fail
              refine PF.pf_begin (by kernel_rfl) ?_
              refine PF.pf_take0 0 (by kernel_rfl) rfl (fun _ _ _ _ _ h => h) (by kernel_rfl) (fun u => by go_simp; try rfl) ?_
              try simp only [Act.put, pz0, pz1, pz2]
              refine PF.pf_take0 1 (by kernel_rfl) rfl (fun _ _ _ _ _ h => h) (by kernel_rfl) (fun u => by go_simp; try rfl) ?_
              try simp only [Act.put, pz0, pz1, pz2]
              refine PF.pf_take0 2 (by kernel_rfl) rfl (fun _ _ _ _ _ h => h) (by kernel_rfl) (fun u => by go_simp; try rfl) ?_
              try simp only [Act.put, pz0, pz1, pz2]
              refine PF.pf_take0 3 (by kernel_rfl) rfl (fun _ _ _ _ _ h => h) (by kernel_rfl) (fun u => by go_simp; try rfl) ?_
              try simp only [Act.put, pz0, pz1, pz2]
              refine PF.pf_take1 4 ((fun u => u.rangeAt b (o + j * 19 + 1) (calL x.n.call x.vc))) (by kernel_rfl) rfl (fun _ _ _ _ _ h => h) (by kernel_rfl) ((nt_callA HRJ.out)) (fun u hu => by (exact exec_load_rg rfl rfl hu Tryz.underlying25 rfl (infoj_call9 rfl))) ?_
              try simp only [Act.put, pz0, pz1, pz2]
              refine PF.pf_take1 5 ((fun u => Blk u g4 25 (calL xk.n.call xk.vc).toArray)) (by kernel_rfl) rfl (fun _ _ _ _ _ h => h) (by kernel_rfl) (HBB.out) (fun u hu => by (exact exec_load_blk rfl rfl hu Tryz.underlying25 rfl (info_call rfl))) ?_
              try simp only [Act.put, pz0, pz1, pz2]
              refine PF.pf_exec 6 (by kernel_rfl) rfl (by kernel_rfl) (fun K hK => ?_)
              go_simp
              refine (sameid_any (C := x.n.call) (D := xk.n.call)).mono ?_
              rintro e v9 ⟨rfl, hb⟩
              have hb := ((Below.refl wi.heap.size wi).drew).trans hb
              rw [did]
              have HRJ := Lib.hid (rg_below HRJ.out hb)
              have HBB := Lib.hid (HBB.out.below hb HBB.out.lt)
              have HBI := Lib.hid (HBI.out.trans (hb.mono HBI.out.size))
              have q0 : v9.cell? ⟨b, o + j * 19, none⟩ = some (.int .i64 x.n.kind) := nt_cell HRJ.out (j := 0) rfl
              clear hb
              refine hK _ _ (by repeat (first | exact PF.owes_nil | refine PF.owes_left ?_ | refine PF.owes_no (by decide +kernel) ?_ | refine PF.owes_yes (by first | exact nt_callA HRJ.out | exact HBB.out) ?_)) ?_
              clear hK K
              try simp only [Act.put, pz0, pz1, pz2]
              refine PF.pf_take0 7 (by kernel_rfl) rfl (fun _ _ _ _ _ h => h) (by kernel_rfl) (fun u => by go_simp; try rfl) ?_
              try simp only [Act.put, pz0, pz1, pz2]
              refine PF.pf_take0 8 (by kernel_rfl) rfl (fun _ _ _ _ _ h => h) (by kernel_rfl) (fun u => by go_simp; try rfl) ?_
              try simp only [Act.put, pz0, pz1, pz2]
              refine PF.pf_take0 9 (by kernel_rfl) rfl (fun _ _ _ _ _ h => h) (by kernel_rfl) (fun u => by go_simp; try rfl) ?_
              try simp only [Act.put, pz0, pz1, pz2]
              refine PF.pf_take0 10 (by kernel_rfl) rfl (fun _ _ _ _ _ h => h) (by kernel_rfl) (fun u => by go_simp; try rfl) ?_
              try simp only [Act.put, pz0, pz1, pz2]
              refine PF.pf_take0 11 (by kernel_rfl) rfl (fun _ _ _ _ _ h => h) (by kernel_rfl) (fun u => by go_simp; try rfl) ?_
              try simp only [Act.put, pz0, pz1, pz2]
              refine PF.pf_take1 12 (PF.Same (b) _) (by kernel_rfl) rfl (fun _ _ _ _ _ h => h) (by kernel_rfl) (PF.Same.refl _ _) (fun u hu => by have hcu := hu.cell; go_simp; try rfl) ?_
              try simp only [Act.put, pz0, pz1, pz2]
              refine PF.pf_take0 13 (by kernel_rfl) rfl (fun _ _ _ _ _ h => h) (by kernel_rfl) (fun u => by go_simp; try rfl) ?_
              try simp only [Act.put, pz0, pz1, pz2]
              refine PF.pf_take0 14 (by kernel_rfl) rfl (fun _ _ _ _ _ h => h) (by kernel_rfl) (fun u => by go_simp; try rfl) ?_
              try simp only [Act.put, pz0, pz1, pz2]
              refine PF.pf_done (by kernel_rfl) ?_
              clear q0
              go_wp2_with fail
              refine PF.pf_begin (by kernel_rfl) ?_
              refine PF.pf_take0 0 (by kernel_rfl) rfl (fun _ _ _ _ _ h => h) (by kernel_rfl) (fun u => by go_simp; try rfl) ?_
              try simp only [Act.put, pz0, pz1, pz2]
              refine PF.pf_take0 1 (by kernel_rfl) rfl (fun _ _ _ _ _ h => h) (by kernel_rfl) (fun u => by go_simp; try rfl) ?_
              try simp only [Act.put, pz0, pz1, pz2]
              refine PF.pf_take0 2 (by kernel_rfl) rfl (fun _ _ _ _ _ h => h) (by kernel_rfl) (fun u => by go_simp; try rfl) ?_
              try simp only [Act.put, pz0, pz1, pz2]
              refine PF.pf_take0 3 (by kernel_rfl) rfl (fun _ _ _ _ _ h => h) (by kernel_rfl) (fun u => by go_simp; try rfl) ?_
              try simp only [Act.put, pz0, pz1, pz2]
              refine PF.pf_take1 4 ((fun u => u.rangeAt b (o + j * 19 + 1) (calL x.n.call x.vc))) (by kernel_rfl) rfl (fun _ _ _ _ _ h => h) (by kernel_rfl) ((nt_callA HRJ.out)) (fun u hu => by (exact exec_load_rg rfl rfl hu Tryz.underlying25 rfl (infoj_call9 rfl))) ?_
              try simp only [Act.put, pz0, pz1, pz2]
              refine PF.pf_take1 5 ((fun u => Blk u g4 25 (calL xk.n.call xk.vc).toArray)) (by kernel_rfl) rfl (fun _ _ _ _ _ h => h) (by kernel_rfl) (HBB.out) (fun u hu => by (exact exec_load_blk rfl rfl hu Tryz.underlying25 rfl (info_call rfl))) ?_
              try simp only [Act.put, pz0, pz1, pz2]
              refine PF.pf_exec 6 (by kernel_rfl) rfl (by kernel_rfl) (fun K hK => ?_)
              go_simp
              refine (sameid_any (C := x.n.call) (D := xk.n.call)).mono ?_
              rintro e v11 ⟨rfl, hb⟩
              have hb := ((Below.refl v9.heap.size v9).drew).trans hb
              rw [did]
              have HRJ := Lib.hid (rg_below HRJ.out hb)
              have HBB := Lib.hid (HBB.out.below hb HBB.out.lt)
              have HBI := Lib.hid (HBI.out.trans (hb.mono HBI.out.size))
              have q0 : v11.cell? ⟨b, o + j * 19, none⟩ = some (.int .i64 x.n.kind) := nt_cell HRJ.out (j := 0) rfl
              clear hb
              refine hK _ _ (by repeat (first | exact PF.owes_nil | refine PF.owes_left ?_ | refine PF.owes_no (by decide +kernel) ?_ | refine PF.owes_yes (by first | exact nt_callA HRJ.out | exact HBB.out) ?_)) ?_
              clear hK K
              try simp only [Act.put, pz0, pz1, pz2]
              refine PF.pf_take0 7 (by kernel_rfl) rfl (fun _ _ _ _ _ h => h) (by kernel_rfl) (fun u => by go_simp; try rfl) ?_
              try simp only [Act.put, pz0, pz1, pz2]
              refine PF.pf_take0 8 (by kernel_rfl) rfl (fun _ _ _ _ _ h => h) (by kernel_rfl) (fun u => by go_simp; try rfl) ?_
              try simp only [Act.put, pz0, pz1, pz2]
              refine PF.pf_take0 9 (by kernel_rfl) rfl (fun _ _ _ _ _ h => h) (by kernel_rfl) (fun u => by go_simp; try rfl) ?_
              try simp only [Act.put, pz0, pz1, pz2]
              refine PF.pf_take0 10 (by kernel_rfl) rfl (fun _ _ _ _ _ h => h) (by kernel_rfl) (fun u => by go_simp; try rfl) ?_
              try simp only [Act.put, pz0, pz1, pz2]
              refine PF.pf_take0 11 (by kernel_rfl) rfl (fun _ _ _ _ _ h => h) (by kernel_rfl) (fun u => by go_simp; try rfl) ?_
              try simp only [Act.put, pz0, pz1, pz2]
              refine PF.pf_take1 12 (PF.Same (b) _) (by kernel_rfl) rfl (fun _ _ _ _ _ h => h) (by kernel_rfl) (PF.Same.refl _ _) (fun u hu => by have hcu := hu.cell; go_simp; try rfl) ?_
              try simp only [Act.put, pz0, pz1, pz2]
              refine PF.pf_take0 13 (by kernel_rfl) rfl (fun _ _ _ _ _ h => h) (by kernel_rfl) (fun u => by go_simp; try rfl) ?_
              try simp only [Act.put, pz0, pz1, pz2]
              refine PF.pf_take0 14 (by kernel_rfl) rfl (fun _ _ _ _ _ h => h) (by kernel_rfl) (fun u => by go_simp; try rfl) ?_
              try simp only [Act.put, pz0, pz1, pz2]
              refine PF.pf_done (by kernel_rfl) ?_
              clear q0
              go_wp2_with fail
              go_roundw
              case rel => exact ⟨j + 1, qn, (j : Int), hjl, by go_num, by first | rfl | go_num, by have := HPQ.out; omega, rfl, by have := HPQ.out; omega, by have := HPQ.out; omega, HBI.out, HBB.out⟩
              case measure => simp [intOf]; omega
            · have p1 : (x.n.kind == 1) = false := beq_eq_false_iff_ne.2 h1
              by_cases h2 : x.n.kind = 2
              · have p2 : (x.n.kind == 2) = true := beq_iff_eq.2 h2
                clear h1 h2
                go_wp2_with fail
                refine PF.pf_begin (by kernel_rfl) ?_
                refine PF.pf_take0 0 (by kernel_rfl) rfl (fun _ _ _ _ _ h => h) (by kernel_rfl) (fun u => by go_simp; try rfl) ?_
                try simp only [Act.put, pz0, pz1, pz2]
                refine PF.pf_take0 1 (by kernel_rfl) rfl (fun _ _ _ _ _ h => h) (by kernel_rfl) (fun u => by go_simp; try rfl) ?_
                try simp only [Act.put, pz0, pz1, pz2]
                refine PF.pf_take0 2 (by kernel_rfl) rfl (fun _ _ _ _ _ h => h) (by kernel_rfl) (fun u => by go_simp; try rfl) ?_
                try simp only [Act.put, pz0, pz1, pz2]
                refine PF.pf_take0 3 (by kernel_rfl) rfl (fun _ _ _ _ _ h => h) (by kernel_rfl) (fun u => by go_simp; try rfl) ?_
                try simp only [Act.put, pz0, pz1, pz2]
                refine PF.pf_take1 4 ((fun u => u.rangeAt b (o + j * 19 + 1) (calL x.n.call x.vc))) (by kernel_rfl) rfl (fun _ _ _ _ _ h => h) (by kernel_rfl) ((nt_callA HRJ.out)) (fun u hu => by (exact exec_load_rg rfl rfl hu Tryz.underlying25 rfl (infoj_call9 rfl))) ?_
                try simp only [Act.put, pz0, pz1, pz2]
                refine PF.pf_take1 5 ((fun u => Blk u g4 25 (calL xk.n.call xk.vc).toArray)) (by kernel_rfl) rfl (fun _ _ _ _ _ h => h) (by kernel_rfl) (HBB.out) (fun u hu => by (exact exec_load_blk rfl rfl hu Tryz.underlying25 rfl (info_call rfl))) ?_
                try simp only [Act.put, pz0, pz1, pz2]
                refine PF.pf_exec 6 (by kernel_rfl) rfl (by kernel_rfl) (fun K hK => ?_)
                go_simp
                refine (sameid_any (C := x.n.call) (D := xk.n.call)).mono ?_
                rintro e v9 ⟨rfl, hb⟩
                have hb := ((Below.refl wi.heap.size wi).drew).trans hb
                rw [did]
                have HRJ := Lib.hid (rg_below HRJ.out hb)
                have HBB := Lib.hid (HBB.out.below hb HBB.out.lt)
                have HBI := Lib.hid (HBI.out.trans (hb.mono HBI.out.size))
                have q0 : v9.cell? ⟨b, o + j * 19, none⟩ = some (.int .i64 x.n.kind) := nt_cell HRJ.out (j := 0) rfl
                clear hb
                refine hK _ _ (by repeat (first | exact PF.owes_nil | refine PF.owes_left ?_ | refine PF.owes_no (by decide +kernel) ?_ | refine PF.owes_yes (by first | exact nt_callA HRJ.out | exact HBB.out) ?_)) ?_
                clear hK K
                try simp only [Act.put, pz0, pz1, pz2]
                refine PF.pf_take0 7 (by kernel_rfl) rfl (fun _ _ _ _ _ h => h) (by kernel_rfl) (fun u => by go_simp; try rfl) ?_
                try simp only [Act.put, pz0, pz1, pz2]
                refine PF.pf_take0 8 (by kernel_rfl) rfl (fun _ _ _ _ _ h => h) (by kernel_rfl) (fun u => by go_simp; try rfl) ?_
                try simp only [Act.put, pz0, pz1, pz2]
                refine PF.pf_take0 9 (by kernel_rfl) rfl (fun _ _ _ _ _ h => h) (by kernel_rfl) (fun u => by go_simp; try rfl) ?_
                try simp only [Act.put, pz0, pz1, pz2]
                refine PF.pf_take0 10 (by kernel_rfl) rfl (fun _ _ _ _ _ h => h) (by kernel_rfl) (fun u => by go_simp; try rfl) ?_
                try simp only [Act.put, pz0, pz1, pz2]
                refine PF.pf_take0 11 (by kernel_rfl) rfl (fun _ _ _ _ _ h => h) (by kernel_rfl) (fun u => by go_simp; try rfl) ?_
                try simp only [Act.put, pz0, pz1, pz2]
                refine PF.pf_take1 12 (PF.Same (b) _) (by kernel_rfl) rfl (fun _ _ _ _ _ h => h) (by kernel_rfl) (PF.Same.refl _ _) (fun u hu => by have hcu := hu.cell; go_simp; try rfl) ?_
                try simp only [Act.put, pz0, pz1, pz2]
                refine PF.pf_take0 13 (by kernel_rfl) rfl (fun _ _ _ _ _ h => h) (by kernel_rfl) (fun u => by go_simp; try rfl) ?_
                try simp only [Act.put, pz0, pz1, pz2]
                refine PF.pf_take0 14 (by kernel_rfl) rfl (fun _ _ _ _ _ h => h) (by kernel_rfl) (fun u => by go_simp; try rfl) ?_
                try simp only [Act.put, pz0, pz1, pz2]
                refine PF.pf_done (by kernel_rfl) ?_
                clear q0
                go_wp2_with fail
                refine PF.pf_begin (by kernel_rfl) ?_
                refine PF.pf_take0 0 (by kernel_rfl) rfl (fun _ _ _ _ _ h => h) (by kernel_rfl) (fun u => by go_simp; try rfl) ?_
                try simp only [Act.put, pz0, pz1, pz2]
                refine PF.pf_take0 1 (by kernel_rfl) rfl (fun _ _ _ _ _ h => h) (by kernel_rfl) (fun u => by go_simp; try rfl) ?_
                try simp only [Act.put, pz0, pz1, pz2]
                refine PF.pf_take0 2 (by kernel_rfl) rfl (fun _ _ _ _ _ h => h) (by kernel_rfl) (fun u => by go_simp; try rfl) ?_
                try simp only [Act.put, pz0, pz1, pz2]
                refine PF.pf_take0 3 (by kernel_rfl) rfl (fun _ _ _ _ _ h => h) (by kernel_rfl) (fun u => by go_simp; try rfl) ?_
                try simp only [Act.put, pz0, pz1, pz2]
                refine PF.pf_take1 4 ((fun u => u.rangeAt b (o + j * 19 + 1) (calL x.n.call x.vc))) (by kernel_rfl) rfl (fun _ _ _ _ _ h => h) (by kernel_rfl) ((nt_callA HRJ.out)) (fun u hu => by (exact exec_load_rg rfl rfl hu Tryz.underlying25 rfl (infoj_call9 rfl))) ?_
                try simp only [Act.put, pz0, pz1, pz2]
                refine PF.pf_take1 5 ((fun u => Blk u g4 25 (calL xk.n.call xk.vc).toArray)) (by kernel_rfl) rfl (fun _ _ _ _ _ h => h) (by kernel_rfl) (HBB.out) (fun u hu => by (exact exec_load_blk rfl rfl hu Tryz.underlying25 rfl (info_call rfl))) ?_
                try simp only [Act.put, pz0, pz1, pz2]
                refine PF.pf_exec 6 (by kernel_rfl) rfl (by kernel_rfl) (fun K hK => ?_)
                go_simp
                refine (sameid_any (C := x.n.call) (D := xk.n.call)).mono ?_
                rintro e v11 ⟨rfl, hb⟩
                have hb := ((Below.refl v9.heap.size v9).drew).trans hb
                rw [did]
                have HRJ := Lib.hid (rg_below HRJ.out hb)
                have HBB := Lib.hid (HBB.out.below hb HBB.out.lt)
                have HBI := Lib.hid (HBI.out.trans (hb.mono HBI.out.size))
                have q0 : v11.cell? ⟨b, o + j * 19, none⟩ = some (.int .i64 x.n.kind) := nt_cell HRJ.out (j := 0) rfl
                clear hb
                refine hK _ _ (by repeat (first | exact PF.owes_nil | refine PF.owes_left ?_ | refine PF.owes_no (by decide +kernel) ?_ | refine PF.owes_yes (by first | exact nt_callA HRJ.out | exact HBB.out) ?_)) ?_
                clear hK K
                try simp only [Act.put, pz0, pz1, pz2]
                refine PF.pf_take0 7 (by kernel_rfl) rfl (fun _ _ _ _ _ h => h) (by kernel_rfl) (fun u => by go_simp; try rfl) ?_
                try simp only [Act.put, pz0, pz1, pz2]
                refine PF.pf_take0 8 (by kernel_rfl) rfl (fun _ _ _ _ _ h => h) (by kernel_rfl) (fun u => by go_simp; try rfl) ?_
                try simp only [Act.put, pz0, pz1, pz2]
                refine PF.pf_take0 9 (by kernel_rfl) rfl (fun _ _ _ _ _ h => h) (by kernel_rfl) (fun u => by go_simp; try rfl) ?_
                try simp only [Act.put, pz0, pz1, pz2]
                refine PF.pf_take0 10 (by kernel_rfl) rfl (fun _ _ _ _ _ h => h) (by kernel_rfl) (fun u => by go_simp; try rfl) ?_
                try simp only [Act.put, pz0, pz1, pz2]
                refine PF.pf_take0 11 (by kernel_rfl) rfl (fun _ _ _ _ _ h => h) (by kernel_rfl) (fun u => by go_simp; try rfl) ?_
                try simp only [Act.put, pz0, pz1, pz2]
                refine PF.pf_take1 12 (PF.Same (b) _) (by kernel_rfl) rfl (fun _ _ _ _ _ h => h) (by kernel_rfl) (PF.Same.refl _ _) (fun u hu => by have hcu := hu.cell; go_simp; try rfl) ?_
                try simp only [Act.put, pz0, pz1, pz2]
                refine PF.pf_take0 13 (by kernel_rfl) rfl (fun _ _ _ _ _ h => h) (by kernel_rfl) (fun u => by go_simp; try rfl) ?_
                try simp only [Act.put, pz0, pz1, pz2]
                refine PF.pf_take0 14 (by kernel_rfl) rfl (fun _ _ _ _ _ h => h) (by kernel_rfl) (fun u => by go_simp; try rfl) ?_
                try simp only [Act.put, pz0, pz1, pz2]
                refine PF.pf_done (by kernel_rfl) ?_
                clear q0
                go_wp2_with fail
                go_roundw
                case rel => exact ⟨j + 1, qn + 1, pn, hjl, by go_num, by first | rfl | go_num, by have := HPQ.out; omega, rfl, by have := HPQ.out; omega, by have := HPQ.out; omega, HBI.out, HBB.out⟩
                case measure => simp [intOf]; omega
              · have p2 : (x.n.kind == 2) = false := beq_eq_false_iff_ne.2 h2
                clear h1 h2
                go_wp2_with fail
                refine PF.pf_begin (by kernel_rfl) ?_
                refine PF.pf_take0 0 (by kernel_rfl) rfl (fun _ _ _ _ _ h => h) (by kernel_rfl) (fun u => by go_simp; try rfl) ?_
                try simp only [Act.put, pz0, pz1, pz2]
                refine PF.pf_take0 1 (by kernel_rfl) rfl (fun _ _ _ _ _ h => h) (by kernel_rfl) (fun u => by go_simp; try rfl) ?_
                try simp only [Act.put, pz0, pz1, pz2]
                refine PF.pf_take0 2 (by kernel_rfl) rfl (fun _ _ _ _ _ h => h) (by kernel_rfl) (fun u => by go_simp; try rfl) ?_
                try simp only [Act.put, pz0, pz1, pz2]
                refine PF.pf_take0 3 (by kernel_rfl) rfl (fun _ _ _ _ _ h => h) (by kernel_rfl) (fun u => by go_simp; try rfl) ?_
                try simp only [Act.put, pz0, pz1, pz2]
                refine PF.pf_take1 4 ((fun u => u.rangeAt b (o + j * 19 + 1) (calL x.n.call x.vc))) (by kernel_rfl) rfl (fun _ _ _ _ _ h => h) (by kernel_rfl) ((nt_callA HRJ.out)) (fun u hu => by (exact exec_load_rg rfl rfl hu Tryz.underlying25 rfl (infoj_call9 rfl))) ?_
                try simp only [Act.put, pz0, pz1, pz2]
                refine PF.pf_take1 5 ((fun u => Blk u g4 25 (calL xk.n.call xk.vc).toArray)) (by kernel_rfl) rfl (fun _ _ _ _ _ h => h) (by kernel_rfl) (HBB.out) (fun u hu => by (exact exec_load_blk rfl rfl hu Tryz.underlying25 rfl (info_call rfl))) ?_
                try simp only [Act.put, pz0, pz1, pz2]
                refine PF.pf_exec 6 (by kernel_rfl) rfl (by kernel_rfl) (fun K hK => ?_)
                go_simp
                refine (sameid_any (C := x.n.call) (D := xk.n.call)).mono ?_
                rintro e v9 ⟨rfl, hb⟩
                have hb := ((Below.refl wi.heap.size wi).drew).trans hb
                rw [did]
                have HRJ := Lib.hid (rg_below HRJ.out hb)
                have HBB := Lib.hid (HBB.out.below hb HBB.out.lt)
                have HBI := Lib.hid (HBI.out.trans (hb.mono HBI.out.size))
                have q0 : v9.cell? ⟨b, o + j * 19, none⟩ = some (.int .i64 x.n.kind) := nt_cell HRJ.out (j := 0) rfl
                clear hb
                refine hK _ _ (by repeat (first | exact PF.owes_nil | refine PF.owes_left ?_ | refine PF.owes_no (by decide +kernel) ?_ | refine PF.owes_yes (by first | exact nt_callA HRJ.out | exact HBB.out) ?_)) ?_
                clear hK K
                try simp only [Act.put, pz0, pz1, pz2]
                refine PF.pf_take0 7 (by kernel_rfl) rfl (fun _ _ _ _ _ h => h) (by kernel_rfl) (fun u => by go_simp; try rfl) ?_
                try simp only [Act.put, pz0, pz1, pz2]
                refine PF.pf_take0 8 (by kernel_rfl) rfl (fun _ _ _ _ _ h => h) (by kernel_rfl) (fun u => by go_simp; try rfl) ?_
                try simp only [Act.put, pz0, pz1, pz2]
                refine PF.pf_take0 9 (by kernel_rfl) rfl (fun _ _ _ _ _ h => h) (by kernel_rfl) (fun u => by go_simp; try rfl) ?_
                try simp only [Act.put, pz0, pz1, pz2]
                refine PF.pf_take0 10 (by kernel_rfl) rfl (fun _ _ _ _ _ h => h) (by kernel_rfl) (fun u => by go_simp; try rfl) ?_
                try simp only [Act.put, pz0, pz1, pz2]
                refine PF.pf_take0 11 (by kernel_rfl) rfl (fun _ _ _ _ _ h => h) (by kernel_rfl) (fun u => by go_simp; try rfl) ?_
                try simp only [Act.put, pz0, pz1, pz2]
                refine PF.pf_take1 12 (PF.Same (b) _) (by kernel_rfl) rfl (fun _ _ _ _ _ h => h) (by kernel_rfl) (PF.Same.refl _ _) (fun u hu => by have hcu := hu.cell; go_simp; try rfl) ?_
                try simp only [Act.put, pz0, pz1, pz2]
                refine PF.pf_take0 13 (by kernel_rfl) rfl (fun _ _ _ _ _ h => h) (by kernel_rfl) (fun u => by go_simp; try rfl) ?_
                try simp only [Act.put, pz0, pz1, pz2]
                refine PF.pf_take0 14 (by kernel_rfl) rfl (fun _ _ _ _ _ h => h) (by kernel_rfl) (fun u => by go_simp; try rfl) ?_
                try simp only [Act.put, pz0, pz1, pz2]
                refine PF.pf_done (by kernel_rfl) ?_
                clear q0
                go_wp2_with fail
                refine PF.pf_begin (by kernel_rfl) ?_
                refine PF.pf_take0 0 (by kernel_rfl) rfl (fun _ _ _ _ _ h => h) (by kernel_rfl) (fun u => by go_simp; try rfl) ?_
                try simp only [Act.put, pz0, pz1, pz2]
                refine PF.pf_take0 1 (by kernel_rfl) rfl (fun _ _ _ _ _ h => h) (by kernel_rfl) (fun u => by go_simp; try rfl) ?_
                try simp only [Act.put, pz0, pz1, pz2]
                refine PF.pf_take0 2 (by kernel_rfl) rfl (fun _ _ _ _ _ h => h) (by kernel_rfl) (fun u => by go_simp; try rfl) ?_
                try simp only [Act.put, pz0, pz1, pz2]
                refine PF.pf_take0 3 (by kernel_rfl) rfl (fun _ _ _ _ _ h => h) (by kernel_rfl) (fun u => by go_simp; try rfl) ?_
                try simp only [Act.put, pz0, pz1, pz2]
                refine PF.pf_take1 4 ((fun u => u.rangeAt b (o + j * 19 + 1) (calL x.n.call x.vc))) (by kernel_rfl) rfl (fun _ _ _ _ _ h => h) (by kernel_rfl) ((nt_callA HRJ.out)) (fun u hu => by (exact exec_load_rg rfl rfl hu Tryz.underlying25 rfl (infoj_call9 rfl))) ?_
                try simp only [Act.put, pz0, pz1, pz2]
                refine PF.pf_take1 5 ((fun u => Blk u g4 25 (calL xk.n.call xk.vc).toArray)) (by kernel_rfl) rfl (fun _ _ _ _ _ h => h) (by kernel_rfl) (HBB.out) (fun u hu => by (exact exec_load_blk rfl rfl hu Tryz.underlying25 rfl (info_call rfl))) ?_
                try simp only [Act.put, pz0, pz1, pz2]
                refine PF.pf_exec 6 (by kernel_rfl) rfl (by kernel_rfl) (fun K hK => ?_)
                go_simp
                refine (sameid_any (C := x.n.call) (D := xk.n.call)).mono ?_
                rintro e v11 ⟨rfl, hb⟩
                have hb := ((Below.refl v9.heap.size v9).drew).trans hb
                rw [did]
                have HRJ := Lib.hid (rg_below HRJ.out hb)
                have HBB := Lib.hid (HBB.out.below hb HBB.out.lt)
                have HBI := Lib.hid (HBI.out.trans (hb.mono HBI.out.size))
                have q0 : v11.cell? ⟨b, o + j * 19, none⟩ = some (.int .i64 x.n.kind) := nt_cell HRJ.out (j := 0) rfl
                clear hb
                refine hK _ _ (by repeat (first | exact PF.owes_nil | refine PF.owes_left ?_ | refine PF.owes_no (by decide +kernel) ?_ | refine PF.owes_yes (by first | exact nt_callA HRJ.out | exact HBB.out) ?_)) ?_
                clear hK K
                try simp only [Act.put, pz0, pz1, pz2]
                refine PF.pf_take0 7 (by kernel_rfl) rfl (fun _ _ _ _ _ h => h) (by kernel_rfl) (fun u => by go_simp; try rfl) ?_
                try simp only [Act.put, pz0, pz1, pz2]
                refine PF.pf_take0 8 (by kernel_rfl) rfl (fun _ _ _ _ _ h => h) (by kernel_rfl) (fun u => by go_simp; try rfl) ?_
                try simp only [Act.put, pz0, pz1, pz2]
                refine PF.pf_take0 9 (by kernel_rfl) rfl (fun _ _ _ _ _ h => h) (by kernel_rfl) (fun u => by go_simp; try rfl) ?_
                try simp only [Act.put, pz0, pz1, pz2]
                refine PF.pf_take0 10 (by kernel_rfl) rfl (fun _ _ _ _ _ h => h) (by kernel_rfl) (fun u => by go_simp; try rfl) ?_
                try simp only [Act.put, pz0, pz1, pz2]
                refine PF.pf_take0 11 (by kernel_rfl) rfl (fun _ _ _ _ _ h => h) (by kernel_rfl) (fun u => by go_simp; try rfl) ?_
                try simp only [Act.put, pz0, pz1, pz2]
                refine PF.pf_take1 12 (PF.Same (b) _) (by kernel_rfl) rfl (fun _ _ _ _ _ h => h) (by kernel_rfl) (PF.Same.refl _ _) (fun u hu => by have hcu := hu.cell; go_simp; try rfl) ?_
                try simp only [Act.put, pz0, pz1, pz2]
                refine PF.pf_take0 13 (by kernel_rfl) rfl (fun _ _ _ _ _ h => h) (by kernel_rfl) (fun u => by go_simp; try rfl) ?_
                try simp only [Act.put, pz0, pz1, pz2]
                refine PF.pf_take0 14 (by kernel_rfl) rfl (fun _ _ _ _ _ h => h) (by kernel_rfl) (fun u => by go_simp; try rfl) ?_
                try simp only [Act.put, pz0, pz1, pz2]
                refine PF.pf_done (by kernel_rfl) ?_
                clear q0
                go_wp2_with fail
                go_roundw
                case rel => exact ⟨j + 1, qn, pn, hjl, by go_num, by first | rfl | go_num, by have := HPQ.out; omega, rfl, by have := HPQ.out; omega, by have := HPQ.out; omega, HBI.out, HBB.out⟩
                case measure => simp [intOf]; omega
          · have did : decide (idOf x.n.call = idOf xk.n.call) = false := decide_eq_false hid
            clear hid
            go_wp2_with fail
            refine PF.pf_begin (by kernel_rfl) ?_
            refine PF.pf_take0 0 (by kernel_rfl) rfl (fun _ _ _ _ _ h => h) (by kernel_rfl) (fun u => by go_simp; try rfl) ?_
            try simp only [Act.put, pz0, pz1, pz2]
            refine PF.pf_take0 1 (by kernel_rfl) rfl (fun _ _ _ _ _ h => h) (by kernel_rfl) (fun u => by go_simp; try rfl) ?_
            try simp only [Act.put, pz0, pz1, pz2]
            refine PF.pf_take0 2 (by kernel_rfl) rfl (fun _ _ _ _ _ h => h) (by kernel_rfl) (fun u => by go_simp; try rfl) ?_
            try simp only [Act.put, pz0, pz1, pz2]
            refine PF.pf_take0 3 (by kernel_rfl) rfl (fun _ _ _ _ _ h => h) (by kernel_rfl) (fun u => by go_simp; try rfl) ?_
            try simp only [Act.put, pz0, pz1, pz2]
            refine PF.pf_take1 4 ((fun u => u.rangeAt b (o + j * 19 + 1) (calL x.n.call x.vc))) (by kernel_rfl) rfl (fun _ _ _ _ _ h => h) (by kernel_rfl) ((nt_callA HRJ.out)) (fun u hu => by (exact exec_load_rg rfl rfl hu Tryz.underlying25 rfl (infoj_call9 rfl))) ?_
            try simp only [Act.put, pz0, pz1, pz2]
            refine PF.pf_take1 5 ((fun u => Blk u g4 25 (calL xk.n.call xk.vc).toArray)) (by kernel_rfl) rfl (fun _ _ _ _ _ h => h) (by kernel_rfl) (HBB.out) (fun u hu => by (exact exec_load_blk rfl rfl hu Tryz.underlying25 rfl (info_call rfl))) ?_
            try simp only [Act.put, pz0, pz1, pz2]
            refine PF.pf_exec 6 (by kernel_rfl) rfl (by kernel_rfl) (fun K hK => ?_)
            go_simp
            refine (sameid_any (C := x.n.call) (D := xk.n.call)).mono ?_
            rintro e v9 ⟨rfl, hb⟩
            have hb := ((Below.refl wi.heap.size wi).drew).trans hb
            rw [did]
            have HRJ := Lib.hid (rg_below HRJ.out hb)
            have HBB := Lib.hid (HBB.out.below hb HBB.out.lt)
            have HBI := Lib.hid (HBI.out.trans (hb.mono HBI.out.size))
            have q0 : v9.cell? ⟨b, o + j * 19, none⟩ = some (.int .i64 x.n.kind) := nt_cell HRJ.out (j := 0) rfl
            clear hb
            refine hK _ _ (by repeat (first | exact PF.owes_nil | refine PF.owes_left ?_ | refine PF.owes_no (by decide +kernel) ?_ | refine PF.owes_yes (by first | exact nt_callA HRJ.out | exact HBB.out) ?_)) ?_
            clear hK K
            try simp only [Act.put, pz0, pz1, pz2]
            refine PF.pf_take0 7 (by kernel_rfl) rfl (fun _ _ _ _ _ h => h) (by kernel_rfl) (fun u => by go_simp; try rfl) ?_
            try simp only [Act.put, pz0, pz1, pz2]
            refine PF.pf_skip0 8 (by kernel_rfl) rfl (fun _ _ _ _ _ h => h) (by kernel_rfl) ?_
            try simp only [Act.put, pz0, pz1, pz2]
            refine PF.pf_skip0 9 (by kernel_rfl) rfl (fun _ _ _ _ _ h => h) (by kernel_rfl) ?_
            try simp only [Act.put, pz0, pz1, pz2]
            refine PF.pf_skip0 10 (by kernel_rfl) rfl (fun _ _ _ _ _ h => h) (by kernel_rfl) ?_
            try simp only [Act.put, pz0, pz1, pz2]
            refine PF.pf_skip0 11 (by kernel_rfl) rfl (fun _ _ _ _ _ h => h) (by kernel_rfl) ?_
            try simp only [Act.put, pz0, pz1, pz2]
            refine PF.pf_skip0 12 (by kernel_rfl) rfl (fun _ _ _ _ _ h => h) (by kernel_rfl) ?_
            try simp only [Act.put, pz0, pz1, pz2]
            refine PF.pf_skip0 13 (by kernel_rfl) rfl (fun _ _ _ _ _ h => h) (by kernel_rfl) ?_
            try simp only [Act.put, pz0, pz1, pz2]
            refine PF.pf_take0 14 (by kernel_rfl) rfl (fun _ _ _ _ _ h => h) (by kernel_rfl) (fun u => by go_simp; try rfl) ?_
            try simp only [Act.put, pz0, pz1, pz2]
            refine PF.pf_done (by kernel_rfl) ?_
            clear q0
            go_wp2_with fail
            refine PF.pf_begin (by kernel_rfl) ?_
            refine PF.pf_take0 0 (by kernel_rfl) rfl (fun _ _ _ _ _ h => h) (by kernel_rfl) (fun u => by go_simp; try rfl) ?_
            try simp only [Act.put, pz0, pz1, pz2]
            refine PF.pf_take0 1 (by kernel_rfl) rfl (fun _ _ _ _ _ h => h) (by kernel_rfl) (fun u => by go_simp; try rfl) ?_
            try simp only [Act.put, pz0, pz1, pz2]
            refine PF.pf_take0 2 (by kernel_rfl) rfl (fun _ _ _ _ _ h => h) (by kernel_rfl) (fun u => by go_simp; try rfl) ?_
            try simp only [Act.put, pz0, pz1, pz2]
            refine PF.pf_take0 3 (by kernel_rfl) rfl (fun _ _ _ _ _ h => h) (by kernel_rfl) (fun u => by go_simp; try rfl) ?_
            try simp only [Act.put, pz0, pz1, pz2]
            refine PF.pf_take1 4 ((fun u => u.rangeAt b (o + j * 19 + 1) (calL x.n.call x.vc))) (by kernel_rfl) rfl (fun _ _ _ _ _ h => h) (by kernel_rfl) ((nt_callA HRJ.out)) (fun u hu => by (exact exec_load_rg rfl rfl hu Tryz.underlying25 rfl (infoj_call9 rfl))) ?_
            try simp only [Act.put, pz0, pz1, pz2]
            refine PF.pf_take1 5 ((fun u => Blk u g4 25 (calL xk.n.call xk.vc).toArray)) (by kernel_rfl) rfl (fun _ _ _ _ _ h => h) (by kernel_rfl) (HBB.out) (fun u hu => by (exact exec_load_blk rfl rfl hu Tryz.underlying25 rfl (info_call rfl))) ?_
            try simp only [Act.put, pz0, pz1, pz2]
            refine PF.pf_exec 6 (by kernel_rfl) rfl (by kernel_rfl) (fun K hK => ?_)
            go_simp
            refine (sameid_any (C := x.n.call) (D := xk.n.call)).mono ?_
            rintro e v11 ⟨rfl, hb⟩
            have hb := ((Below.refl v9.heap.size v9).drew).trans hb
            rw [did]
            have HRJ := Lib.hid (rg_below HRJ.out hb)
            have HBB := Lib.hid (HBB.out.below hb HBB.out.lt)
            have HBI := Lib.hid (HBI.out.trans (hb.mono HBI.out.size))
            have q0 : v11.cell? ⟨b, o + j * 19, none⟩ = some (.int .i64 x.n.kind) := nt_cell HRJ.out (j := 0) rfl
            clear hb
            refine hK _ _ (by repeat (first | exact PF.owes_nil | refine PF.owes_left ?_ | refine PF.owes_no (by decide +kernel) ?_ | refine PF.owes_yes (by first | exact nt_callA HRJ.out | exact HBB.out) ?_)) ?_
            clear hK K
            try simp only [Act.put, pz0, pz1, pz2]
            refine PF.pf_take0 7 (by kernel_rfl) rfl (fun _ _ _ _ _ h => h) (by kernel_rfl) (fun u => by go_simp; try rfl) ?_
            try simp only [Act.put, pz0, pz1, pz2]
            refine PF.pf_skip0 8 (by kernel_rfl) rfl (fun _ _ _ _ _ h => h) (by kernel_rfl) ?_
            try simp only [Act.put, pz0, pz1, pz2]
            refine PF.pf_skip0 9 (by kernel_rfl) rfl (fun _ _ _ _ _ h => h) (by kernel_rfl) ?_
            try simp only [Act.put, pz0, pz1, pz2]
            refine PF.pf_skip0 10 (by kernel_rfl) rfl (fun _ _ _ _ _ h => h) (by kernel_rfl) ?_
            try simp only [Act.put, pz0, pz1, pz2]
            refine PF.pf_skip0 11 (by kernel_rfl) rfl (fun _ _ _ _ _ h => h) (by kernel_rfl) ?_
            try simp only [Act.put, pz0, pz1, pz2]
            refine PF.pf_skip0 12 (by kernel_rfl) rfl (fun _ _ _ _ _ h => h) (by kernel_rfl) ?_
            try simp only [Act.put, pz0, pz1, pz2]
            refine PF.pf_skip0 13 (by kernel_rfl) rfl (fun _ _ _ _ _ h => h) (by kernel_rfl) ?_
            try simp only [Act.put, pz0, pz1, pz2]
            refine PF.pf_take0 14 (by kernel_rfl) rfl (fun _ _ _ _ _ h => h) (by kernel_rfl) (fun u => by go_simp; try rfl) ?_
            try simp only [Act.put, pz0, pz1, pz2]
            refine PF.pf_done (by kernel_rfl) ?_
            clear q0
            go_wp2_with fail
            go_roundw
            case rel => exact ⟨j + 1, qn, pn, hjl, by go_num, by first | rfl | go_num, by have := HPQ.out; omega, rfl, by have := HPQ.out; omega, by have := HPQ.out; omega, HBI.out, HBB.out⟩
            case measure => simp [intOf]; omega
        · obtain rfl : j = k := by omega
          obtain ⟨b2, o2, e2, _, hrj⟩ := rows_range ntL_len (by decide) (HR.out.below (HBI.out.mono (Nat.le_refl _))) hlt
          injection e2 with e2
          injection e2 with e3 e4
          subst e3 e4
          obtain ⟨_, hxe⟩ := HXE.out
          rw [← hxe] at hrj
          have HRK := Lib.hid hrj
          have q0 : wi.cell? ⟨b, o + j * 19, none⟩ = some (.int .i64 xk.n.kind) := nt_cell hrj (j := 0) rfl
          clear hrj hxe HRG
          by_cases h1 : xk.n.kind = 1
          · have p1 : (xk.n.kind == 1) = true := beq_iff_eq.2 h1
            clear h1
            by_cases hp : 0 ≤ pn
            · have g1 : decide (0 ≤ pn) = true := decide_eq_true hp
              clear hp
              go_wp2_with fail
              go_ret
              have hend := HBI.out
              first | exact ⟨⟨_, rfl⟩, hend⟩ | exact ⟨⟨_, rfl⟩, hend.drew⟩ | exact ⟨.inl rfl, hend⟩ | exact ⟨.inl rfl, hend.drew⟩
            · have g1 : decide (0 ≤ pn) = false := decide_eq_false hp
              clear hp
              have hm := rmay_any (w := wi) (HXK.out.vc.below HBI.out)
              have HM := Lib.hid hm
              clear hm
              go_wp2_with (refine load_rgGJ (by kernel_rfl) (ty := 25) rfl (vs := calL xk.n.call xk.vc) rfl (Blk.rangeAll HBB.out) Tryz.underlying25 rfl (infoj_call9 rfl) ?_; refine Hid.out ?_)
              refine Lib.hid ?_
              go_wp2_with fail
              refine HM.out.mono ?_
              rintro e w9 ⟨rfl, hb⟩
              have HBI := Lib.hid (HBI.out.trans (hb.mono HBI.out.size))
              clear hb HM
              cases mayC xk.n.call with
              | false =>
                go_wp2_with fail
                go_ret
                have hend := HBI.out
                first | exact ⟨⟨_, rfl⟩, hend⟩ | exact ⟨⟨_, rfl⟩, hend.drew⟩ | exact ⟨.inl rfl, hend⟩ | exact ⟨.inl rfl, hend.drew⟩
              | true =>
                go_wp2_with fail
                go_roundw
                case rel => exact ⟨j + 1, hlt, by go_num, HBI.out⟩
                case measure => simp [intOf]; omega
          · have p1 : (xk.n.kind == 1) = false := beq_eq_false_iff_ne.2 h1
            by_cases h2 : xk.n.kind = 2
            · have p2 : (xk.n.kind == 2) = true := beq_iff_eq.2 h2
              clear h1 h2
              go_wp2_with (first
                | (refine wpList_load_rg rfl (ty := 32) rfl (vs := repL xk.n.rep xk.vr) rfl (nt_repA HRK.out) Tryz.underlying32 rfl (infoj_reply9 rfl) ?_)
                | (refine wpList_alloc_blk rfl rfl zero_reply ?_; intro g8 w7 e7 hB7 hb7)
                | (refine wpList_store_blk (cs := (repL xk.n.rep xk.vr).toArray) rfl rfl rfl rfl hB7 rfl (info_reply rfl) (repL_one hor) ?_; intro w8 hB8 hm8; refine Hid.out ?_))
              refine Lib.hid ?_
              have HB8 := Lib.hid hB8
              have HBB8 := Lib.hid ((HBB.out.below hb7 HBB.out.lt).mod hm8 fun e => by have := HBB.out.lt; omega)
              have HBI := Lib.hid ((HBI.out.trans (hb7.mono HBI.out.size)).trans (hm8.to_below (Nat.le_trans HBI.out.size hb7.size) fun b hb e => by have := HBI.out.size; omega))
              clear e7 hB7 hb7 hB8 hm8 q0
              have x0 := (HBB8.out.cell 0).trans (rfl : _ = some (Value.int .i64 xk.n.call.cl))
              have y0 := (HB8.out.cell 0).trans (rfl : _ = some (Value.int .i64 xk.n.rep.cl))
              have x1 := (HBB8.out.cell 1).trans (rfl : _ = some (Value.int .u64 (xk.n.call.inc : Int)))
              have y1 := (HB8.out.cell 1).trans (rfl : _ = some (Value.int .u64 (xk.n.rep.inc : Int)))
              have x2 := (HBB8.out.cell 2).trans (rfl : _ = some (Value.int .u64 (xk.n.call.n : Int)))
              have y2 := (HB8.out.cell 2).trans (rfl : _ = some (Value.int .u64 (xk.n.rep.n : Int)))
              by_cases hp : pn < 0
              · have g1 : decide (pn < 0) = true := decide_eq_true hp
                clear hp
                go_wp2_with fail
                refine PF.pf_begin (by kernel_rfl) ?_
                refine PF.pf_take0 0 (by kernel_rfl) rfl (fun _ _ _ _ _ h => h) (by kernel_rfl) (fun u => by go_simp; try rfl) ?_
                try simp only [Act.put, pz0, pz1, pz2]
                refine PF.pf_take0 1 (by kernel_rfl) rfl (fun _ _ _ _ _ h => h) (by kernel_rfl) (fun u => by go_simp; try rfl) ?_
                try simp only [Act.put, pz0, pz1, pz2]
                refine PF.pf_take0 2 (by kernel_rfl) rfl (fun _ _ _ _ _ h => h) (by kernel_rfl) (fun u => by go_simp; try rfl) ?_
                try simp only [Act.put, pz0, pz1, pz2]
                refine PF.pf_skip0 3 (by kernel_rfl) rfl (fun _ _ _ _ _ h => h) (by kernel_rfl) ?_
                try simp only [Act.put, pz0, pz1, pz2]
                refine PF.pf_skip0 4 (by kernel_rfl) rfl (fun _ _ _ _ _ h => h) (by kernel_rfl) ?_
                try simp only [Act.put, pz0, pz1, pz2]
                refine PF.pf_take0 5 (by kernel_rfl) rfl (fun _ _ _ _ _ h => h) (by kernel_rfl) (fun u => by go_simp; try rfl) ?_
                try simp only [Act.put, pz0, pz1, pz2]
                refine PF.pf_take0 6 (by kernel_rfl) rfl (fun _ _ _ _ _ h => h) (by kernel_rfl) (fun u => by go_simp; try rfl) ?_
                try simp only [Act.put, pz0, pz1, pz2]
                refine PF.pf_skip0 7 (by kernel_rfl) rfl (fun _ _ _ _ _ h => h) (by kernel_rfl) ?_
                try simp only [Act.put, pz0, pz1, pz2]
                refine PF.pf_skip0 8 (by kernel_rfl) rfl (fun _ _ _ _ _ h => h) (by kernel_rfl) ?_
                try simp only [Act.put, pz0, pz1, pz2]
                refine PF.pf_skip0 9 (by kernel_rfl) rfl (fun _ _ _ _ _ h => h) (by kernel_rfl) ?_
                try simp only [Act.put, pz0, pz1, pz2]
                refine PF.pf_skip0 10 (by kernel_rfl) rfl (fun _ _ _ _ _ h => h) (by kernel_rfl) ?_
                try simp only [Act.put, pz0, pz1, pz2]
                refine PF.pf_skip0 11 (by kernel_rfl) rfl (fun _ _ _ _ _ h => h) (by kernel_rfl) ?_
                try simp only [Act.put, pz0, pz1, pz2]
                refine PF.pf_skip0 12 (by kernel_rfl) rfl (fun _ _ _ _ _ h => h) (by kernel_rfl) ?_
                try simp only [Act.put, pz0, pz1, pz2]
                refine PF.pf_skip 13 (by kernel_rfl) rfl (by kernel_rfl) ?_
                try simp only [Act.put, pz0, pz1, pz2]
                refine PF.pf_skip0 14 (by kernel_rfl) rfl (fun _ _ _ _ _ h => h) (by kernel_rfl) ?_
                try simp only [Act.put, pz0, pz1, pz2]
                refine PF.pf_take0 15 (by kernel_rfl) rfl (fun _ _ _ _ _ h => h) (by kernel_rfl) (fun u => by go_simp; try rfl) ?_
                try simp only [Act.put, pz0, pz1, pz2]
                refine PF.pf_take0 16 (by kernel_rfl) rfl (fun _ _ _ _ _ h => h) (by kernel_rfl) (fun u => by go_simp; try rfl) ?_
                try simp only [Act.put, pz0, pz1, pz2]
                refine PF.pf_skip0 17 (by kernel_rfl) rfl (fun _ _ _ _ _ h => h) (by kernel_rfl) ?_
                try simp only [Act.put, pz0, pz1, pz2]
                refine PF.pf_skip0 18 (by kernel_rfl) rfl (fun _ _ _ _ _ h => h) (by kernel_rfl) ?_
                try simp only [Act.put, pz0, pz1, pz2]
                refine PF.pf_skip0 19 (by kernel_rfl) rfl (fun _ _ _ _ _ h => h) (by kernel_rfl) ?_
                try simp only [Act.put, pz0, pz1, pz2]
                refine PF.pf_skip0 20 (by kernel_rfl) rfl (fun _ _ _ _ _ h => h) (by kernel_rfl) ?_
                try simp only [Act.put, pz0, pz1, pz2]
                refine PF.pf_skip0 21 (by kernel_rfl) rfl (fun _ _ _ _ _ h => h) (by kernel_rfl) ?_
                try simp only [Act.put, pz0, pz1, pz2]
                refine PF.pf_take0 22 (by kernel_rfl) rfl (fun _ _ _ _ _ h => h) (by kernel_rfl) (fun u => by go_simp; try rfl) ?_
                try simp only [Act.put, pz0, pz1, pz2]
                refine PF.pf_take0 23 (by kernel_rfl) rfl (fun _ _ _ _ _ h => h) (by kernel_rfl) (fun u => by go_simp; try rfl) ?_
                try simp only [Act.put, pz0, pz1, pz2]
                refine PF.pf_skip0 24 (by kernel_rfl) rfl (fun _ _ _ _ _ h => h) (by kernel_rfl) ?_
                try simp only [Act.put, pz0, pz1, pz2]
                refine PF.pf_skip0 25 (by kernel_rfl) rfl (fun _ _ _ _ _ h => h) (by kernel_rfl) ?_
                try simp only [Act.put, pz0, pz1, pz2]
                refine PF.pf_skip0 26 (by kernel_rfl) rfl (fun _ _ _ _ _ h => h) (by kernel_rfl) ?_
                try simp only [Act.put, pz0, pz1, pz2]
                refine PF.pf_skip0 27 (by kernel_rfl) rfl (fun _ _ _ _ _ h => h) (by kernel_rfl) ?_
                try simp only [Act.put, pz0, pz1, pz2]
                refine PF.pf_skip0 28 (by kernel_rfl) rfl (fun _ _ _ _ _ h => h) (by kernel_rfl) ?_
                try simp only [Act.put, pz0, pz1, pz2]
                refine PF.pf_take0 29 (by kernel_rfl) rfl (fun _ _ _ _ _ h => h) (by kernel_rfl) (fun u => by go_simp; try rfl) ?_
                try simp only [Act.put, pz0, pz1, pz2]
                refine PF.pf_take0 30 (by kernel_rfl) rfl (fun _ _ _ _ _ h => h) (by kernel_rfl) (fun u => by go_simp; try rfl) ?_
                try simp only [Act.put, pz0, pz1, pz2]
                refine PF.pf_skip0 31 (by kernel_rfl) rfl (fun _ _ _ _ _ h => h) (by kernel_rfl) ?_
                try simp only [Act.put, pz0, pz1, pz2]
                refine PF.pf_skip0 32 (by kernel_rfl) rfl (fun _ _ _ _ _ h => h) (by kernel_rfl) ?_
                try simp only [Act.put, pz0, pz1, pz2]
                refine PF.pf_skip0 33 (by kernel_rfl) rfl (fun _ _ _ _ _ h => h) (by kernel_rfl) ?_
                try simp only [Act.put, pz0, pz1, pz2]
                refine PF.pf_skip0 34 (by kernel_rfl) rfl (fun _ _ _ _ _ h => h) (by kernel_rfl) ?_
                try simp only [Act.put, pz0, pz1, pz2]
                refine PF.pf_skip0 35 (by kernel_rfl) rfl (fun _ _ _ _ _ h => h) (by kernel_rfl) ?_
                try simp only [Act.put, pz0, pz1, pz2]
                refine PF.pf_take0 36 (by kernel_rfl) rfl (fun _ _ _ _ _ h => h) (by kernel_rfl) (fun u => by go_simp; try rfl) ?_
                try simp only [Act.put, pz0, pz1, pz2]
                refine PF.pf_done (by kernel_rfl) ?_
                go_wp2_with fail
                go_ret
                have hend := HBI.out
                first | exact ⟨⟨_, rfl⟩, hend⟩ | exact ⟨⟨_, rfl⟩, hend.drew⟩ | exact ⟨.inl rfl, hend⟩ | exact ⟨.inl rfl, hend.drew⟩
              · have g1 : decide (pn < 0) = false := decide_eq_false hp
                by_cases hq : 0 < qn
                · have g2 : decide (0 < qn) = true := decide_eq_true hq
                  have g3 : decide ((0 : Int) < (qn : Int)) = true := decide_eq_true (by omega)
                  clear hp hq
                  go_wp2_with fail
                  refine PF.pf_begin (by kernel_rfl) ?_
                  refine PF.pf_take0 0 (by kernel_rfl) rfl (fun _ _ _ _ _ h => h) (by kernel_rfl) (fun u => by go_simp; try rfl) ?_
                  try simp only [Act.put, pz0, pz1, pz2]
                  refine PF.pf_take0 1 (by kernel_rfl) rfl (fun _ _ _ _ _ h => h) (by kernel_rfl) (fun u => by go_simp; try rfl) ?_
                  try simp only [Act.put, pz0, pz1, pz2]
                  refine PF.pf_take0 2 (by kernel_rfl) rfl (fun _ _ _ _ _ h => h) (by kernel_rfl) (fun u => by go_simp; try rfl) ?_
                  try simp only [Act.put, pz0, pz1, pz2]
                  refine PF.pf_take0 3 (by kernel_rfl) rfl (fun _ _ _ _ _ h => h) (by kernel_rfl) (fun u => by go_simp; try rfl) ?_
                  try simp only [Act.put, pz0, pz1, pz2]
                  refine PF.pf_take0 4 (by kernel_rfl) rfl (fun _ _ _ _ _ h => h) (by kernel_rfl) (fun u => by go_simp; try rfl) ?_
                  try simp only [Act.put, pz0, pz1, pz2]
                  refine PF.pf_take0 5 (by kernel_rfl) rfl (fun _ _ _ _ _ h => h) (by kernel_rfl) (fun u => by go_simp; try rfl) ?_
                  try simp only [Act.put, pz0, pz1, pz2]
                  refine PF.pf_take0 6 (by kernel_rfl) rfl (fun _ _ _ _ _ h => h) (by kernel_rfl) (fun u => by go_simp; try rfl) ?_
                  try simp only [Act.put, pz0, pz1, pz2]
                  refine PF.pf_skip0 7 (by kernel_rfl) rfl (fun _ _ _ _ _ h => h) (by kernel_rfl) ?_
                  try simp only [Act.put, pz0, pz1, pz2]
                  refine PF.pf_skip0 8 (by kernel_rfl) rfl (fun _ _ _ _ _ h => h) (by kernel_rfl) ?_
                  try simp only [Act.put, pz0, pz1, pz2]
                  refine PF.pf_skip0 9 (by kernel_rfl) rfl (fun _ _ _ _ _ h => h) (by kernel_rfl) ?_
                  try simp only [Act.put, pz0, pz1, pz2]
                  refine PF.pf_skip0 10 (by kernel_rfl) rfl (fun _ _ _ _ _ h => h) (by kernel_rfl) ?_
                  try simp only [Act.put, pz0, pz1, pz2]
                  refine PF.pf_skip0 11 (by kernel_rfl) rfl (fun _ _ _ _ _ h => h) (by kernel_rfl) ?_
                  try simp only [Act.put, pz0, pz1, pz2]
                  refine PF.pf_skip0 12 (by kernel_rfl) rfl (fun _ _ _ _ _ h => h) (by kernel_rfl) ?_
                  try simp only [Act.put, pz0, pz1, pz2]
                  refine PF.pf_skip 13 (by kernel_rfl) rfl (by kernel_rfl) ?_
                  try simp only [Act.put, pz0, pz1, pz2]
                  refine PF.pf_skip0 14 (by kernel_rfl) rfl (fun _ _ _ _ _ h => h) (by kernel_rfl) ?_
                  try simp only [Act.put, pz0, pz1, pz2]
                  refine PF.pf_take0 15 (by kernel_rfl) rfl (fun _ _ _ _ _ h => h) (by kernel_rfl) (fun u => by go_simp; try rfl) ?_
                  try simp only [Act.put, pz0, pz1, pz2]
                  refine PF.pf_take0 16 (by kernel_rfl) rfl (fun _ _ _ _ _ h => h) (by kernel_rfl) (fun u => by go_simp; try rfl) ?_
                  try simp only [Act.put, pz0, pz1, pz2]
                  refine PF.pf_skip0 17 (by kernel_rfl) rfl (fun _ _ _ _ _ h => h) (by kernel_rfl) ?_
                  try simp only [Act.put, pz0, pz1, pz2]
                  refine PF.pf_skip0 18 (by kernel_rfl) rfl (fun _ _ _ _ _ h => h) (by kernel_rfl) ?_
                  try simp only [Act.put, pz0, pz1, pz2]
                  refine PF.pf_skip0 19 (by kernel_rfl) rfl (fun _ _ _ _ _ h => h) (by kernel_rfl) ?_
                  try simp only [Act.put, pz0, pz1, pz2]
                  refine PF.pf_skip0 20 (by kernel_rfl) rfl (fun _ _ _ _ _ h => h) (by kernel_rfl) ?_
                  try simp only [Act.put, pz0, pz1, pz2]
                  refine PF.pf_skip0 21 (by kernel_rfl) rfl (fun _ _ _ _ _ h => h) (by kernel_rfl) ?_
                  try simp only [Act.put, pz0, pz1, pz2]
                  refine PF.pf_take0 22 (by kernel_rfl) rfl (fun _ _ _ _ _ h => h) (by kernel_rfl) (fun u => by go_simp; try rfl) ?_
                  try simp only [Act.put, pz0, pz1, pz2]
                  refine PF.pf_take0 23 (by kernel_rfl) rfl (fun _ _ _ _ _ h => h) (by kernel_rfl) (fun u => by go_simp; try rfl) ?_
                  try simp only [Act.put, pz0, pz1, pz2]
                  refine PF.pf_skip0 24 (by kernel_rfl) rfl (fun _ _ _ _ _ h => h) (by kernel_rfl) ?_
                  try simp only [Act.put, pz0, pz1, pz2]
                  refine PF.pf_skip0 25 (by kernel_rfl) rfl (fun _ _ _ _ _ h => h) (by kernel_rfl) ?_
                  try simp only [Act.put, pz0, pz1, pz2]
                  refine PF.pf_skip0 26 (by kernel_rfl) rfl (fun _ _ _ _ _ h => h) (by kernel_rfl) ?_
                  try simp only [Act.put, pz0, pz1, pz2]
                  refine PF.pf_skip0 27 (by kernel_rfl) rfl (fun _ _ _ _ _ h => h) (by kernel_rfl) ?_
                  try simp only [Act.put, pz0, pz1, pz2]
                  refine PF.pf_skip0 28 (by kernel_rfl) rfl (fun _ _ _ _ _ h => h) (by kernel_rfl) ?_
                  try simp only [Act.put, pz0, pz1, pz2]
                  refine PF.pf_take0 29 (by kernel_rfl) rfl (fun _ _ _ _ _ h => h) (by kernel_rfl) (fun u => by go_simp; try rfl) ?_
                  try simp only [Act.put, pz0, pz1, pz2]
                  refine PF.pf_take0 30 (by kernel_rfl) rfl (fun _ _ _ _ _ h => h) (by kernel_rfl) (fun u => by go_simp; try rfl) ?_
                  try simp only [Act.put, pz0, pz1, pz2]
                  refine PF.pf_skip0 31 (by kernel_rfl) rfl (fun _ _ _ _ _ h => h) (by kernel_rfl) ?_
                  try simp only [Act.put, pz0, pz1, pz2]
                  refine PF.pf_skip0 32 (by kernel_rfl) rfl (fun _ _ _ _ _ h => h) (by kernel_rfl) ?_
                  try simp only [Act.put, pz0, pz1, pz2]
                  refine PF.pf_skip0 33 (by kernel_rfl) rfl (fun _ _ _ _ _ h => h) (by kernel_rfl) ?_
                  try simp only [Act.put, pz0, pz1, pz2]
                  refine PF.pf_skip0 34 (by kernel_rfl) rfl (fun _ _ _ _ _ h => h) (by kernel_rfl) ?_
                  try simp only [Act.put, pz0, pz1, pz2]
                  refine PF.pf_skip0 35 (by kernel_rfl) rfl (fun _ _ _ _ _ h => h) (by kernel_rfl) ?_
                  try simp only [Act.put, pz0, pz1, pz2]
                  refine PF.pf_take0 36 (by kernel_rfl) rfl (fun _ _ _ _ _ h => h) (by kernel_rfl) (fun u => by go_simp; try rfl) ?_
                  try simp only [Act.put, pz0, pz1, pz2]
                  refine PF.pf_done (by kernel_rfl) ?_
                  go_wp2_with fail
                  go_ret
                  have hend := HBI.out
                  first | exact ⟨⟨_, rfl⟩, hend⟩ | exact ⟨⟨_, rfl⟩, hend.drew⟩ | exact ⟨.inl rfl, hend⟩ | exact ⟨.inl rfl, hend.drew⟩
                · have g2 : decide (0 < qn) = false := decide_eq_false hq
                  have g3 : decide ((0 : Int) < (qn : Int)) = false := decide_eq_false (by omega)
                  obtain ⟨p, rfl⟩ : ∃ p : Nat, pn = (p : Int) := ⟨pn.toNat, by omega⟩
                  have hpl : p < l.length := by have := HPQ.out.2.2; omega
                  obtain ⟨b3, o3, e3, _, hrz⟩ := rows_range ntL_len (by decide) (HR.out.below (HBI.out.mono (Nat.le_refl _))) hpl
                  injection e3 with e3
                  injection e3 with e4 e5
                  subst e4 e5
                  have hvz := (HIN.out _ (List.getElem_mem hpl)).vc.below HBI.out
                  generalize l[p] = z at hrz hvz
                  have HRZ := Lib.hid hrz
                  have HVZ := Lib.hid hvz
                  have HVX := Lib.hid (HXK.out.vc.below HBI.out)
                  clear hrz hvz hp hq g1
                  have g1 : decide ((p : Int) < 0) = false := decide_eq_false (by omega)
                  by_cases hsc : z.n.call = xk.n.call
                  · have dsc : decide (z.n.call = xk.n.call) = true := decide_eq_true hsc
                    clear hsc
                    by_cases hc : xk.n.rep.cl = xk.n.call.cl
                    · have m0 : (xk.n.rep.cl == xk.n.call.cl) = true := beq_iff_eq.2 hc
                      have n0 : (xk.n.rep.cl != xk.n.call.cl) = false := by simp only [bne, m0]; rfl
                      clear hc
                      by_cases hc : xk.n.rep.inc = xk.n.call.inc
                      · have m1 : (xk.n.rep.inc == xk.n.call.inc) = true := beq_iff_eq.2 hc
                        have k1 : ((xk.n.rep.inc : Int) == (xk.n.call.inc : Int)) = true := beq_iff_eq.2 (by omega)
                        have n1 : ((xk.n.rep.inc : Int) != (xk.n.call.inc : Int)) = false := by simp only [bne, k1]; rfl
                        clear hc
                        by_cases hc : xk.n.rep.n = xk.n.call.n
                        · have m2 : (xk.n.rep.n == xk.n.call.n) = true := beq_iff_eq.2 hc
                          have k2 : ((xk.n.rep.n : Int) == (xk.n.call.n : Int)) = true := beq_iff_eq.2 (by omega)
                          have n2 : ((xk.n.rep.n : Int) != (xk.n.call.n : Int)) = false := by simp only [bne, k2]; rfl
                          clear hc
                          go_wp2_with fail
                          refine PF.pf_begin (by kernel_rfl) ?_
                          refine PF.pf_take0 0 (by kernel_rfl) rfl (fun _ _ _ _ _ h => h) (by kernel_rfl) (fun u => by go_simp; try rfl) ?_
                          try simp only [Act.put, pz0, pz1, pz2]
                          refine PF.pf_take0 1 (by kernel_rfl) rfl (fun _ _ _ _ _ h => h) (by kernel_rfl) (fun u => by go_simp; try rfl) ?_
                          try simp only [Act.put, pz0, pz1, pz2]
                          refine PF.pf_take0 2 (by kernel_rfl) rfl (fun _ _ _ _ _ h => h) (by kernel_rfl) (fun u => by go_simp; try rfl) ?_
                          try simp only [Act.put, pz0, pz1, pz2]
                          refine PF.pf_take0 3 (by kernel_rfl) rfl (fun _ _ _ _ _ h => h) (by kernel_rfl) (fun u => by go_simp; try rfl) ?_
                          try simp only [Act.put, pz0, pz1, pz2]
                          refine PF.pf_take0 4 (by kernel_rfl) rfl (fun _ _ _ _ _ h => h) (by kernel_rfl) (fun u => by go_simp; try rfl) ?_
                          try simp only [Act.put, pz0, pz1, pz2]
                          refine PF.pf_take0 5 (by kernel_rfl) rfl (fun _ _ _ _ _ h => h) (by kernel_rfl) (fun u => by go_simp; try rfl) ?_
                          try simp only [Act.put, pz0, pz1, pz2]
                          refine PF.pf_take0 6 (by kernel_rfl) rfl (fun _ _ _ _ _ h => h) (by kernel_rfl) (fun u => by go_simp; try rfl) ?_
                          try simp only [Act.put, pz0, pz1, pz2]
                          refine PF.pf_take0 7 (by kernel_rfl) rfl (fun _ _ _ _ _ h => h) (by kernel_rfl) (fun u => by go_simp; try rfl) ?_
                          try simp only [Act.put, pz0, pz1, pz2]
                          refine PF.pf_take0 8 (by kernel_rfl) rfl (fun _ _ _ _ _ h => h) (by kernel_rfl) (fun u => by go_simp; try rfl) ?_
                          try simp only [Act.put, pz0, pz1, pz2]
                          refine PF.pf_take0 9 (by kernel_rfl) rfl (fun _ _ _ _ _ h => h) (by kernel_rfl) (fun u => by go_simp; try rfl) ?_
                          try simp only [Act.put, pz0, pz1, pz2]
                          refine PF.pf_take0 10 (by kernel_rfl) rfl (fun _ _ _ _ _ h => h) (by kernel_rfl) (fun u => by go_simp; try rfl) ?_
                          try simp only [Act.put, pz0, pz1, pz2]
                          refine PF.pf_take1 11 ((fun u => u.rangeAt b (o + p * 19 + 1) (calL z.n.call z.vc))) (by kernel_rfl) rfl (fun _ _ _ _ _ h => h) (by kernel_rfl) ((nt_callA HRZ.out)) (fun u hu => by (exact exec_load_rg rfl rfl hu Tryz.underlying25 rfl (infoj_call9 rfl))) ?_
                          try simp only [Act.put, pz0, pz1, pz2]
                          refine PF.pf_take1 12 ((fun u => Blk u g4 25 (calL xk.n.call xk.vc).toArray)) (by kernel_rfl) rfl (fun _ _ _ _ _ h => h) (by kernel_rfl) (HBB8.out) (fun u hu => by (exact exec_load_blk rfl rfl hu Tryz.underlying25 rfl (info_call rfl))) ?_
                          try simp only [Act.put, pz0, pz1, pz2]
                          refine PF.pf_exec 13 (by kernel_rfl) rfl (by kernel_rfl) (fun K hK => ?_)
                          go_simp
                          refine (samecall_any (C := z.n.call) (D := xk.n.call) (HVZ.out.below (Below.refl _ _).drew) (HVX.out.below (Below.refl _ _).drew)).mono ?_
                          rintro e w9 ⟨rfl, hb⟩
                          have hb := ((Below.refl w8.heap.size w8).drew).trans hb
                          rw [dsc]
                          have HBX := Lib.hid (HBB8.out.below hb HBB8.out.lt)
                          have HBY := Lib.hid (HB8.out.below hb HB8.out.lt)
                          have HBI := Lib.hid (HBI.out.trans (hb.mono HBI.out.size))
                          have HRZ9 := Lib.hid (rg_below HRZ.out hb)
                          have x0 := (HBX.out.cell 0).trans (rfl : _ = some (Value.int .i64 xk.n.call.cl))
                          have y0 := (HBY.out.cell 0).trans (rfl : _ = some (Value.int .i64 xk.n.rep.cl))
                          have x1 := (HBX.out.cell 1).trans (rfl : _ = some (Value.int .u64 (xk.n.call.inc : Int)))
                          have y1 := (HBY.out.cell 1).trans (rfl : _ = some (Value.int .u64 (xk.n.rep.inc : Int)))
                          have x2 := (HBX.out.cell 2).trans (rfl : _ = some (Value.int .u64 (xk.n.call.n : Int)))
                          have y2 := (HBY.out.cell 2).trans (rfl : _ = some (Value.int .u64 (xk.n.rep.n : Int)))
                          clear hb
                          refine hK _ _ (by repeat (first | exact PF.owes_nil | refine PF.owes_left ?_ | refine PF.owes_no (by decide +kernel) ?_ | refine PF.owes_yes (by first | exact HBX.out | exact nt_callA HRZ9.out | exact HBX.out.block) ?_)) ?_
                          clear hK K
                          try simp only [Act.put, pz0, pz1, pz2]
                          refine PF.pf_take0 14 (by kernel_rfl) rfl (fun _ _ _ _ _ h => h) (by kernel_rfl) (fun u => by go_simp; try rfl) ?_
                          try simp only [Act.put, pz0, pz1, pz2]
                          refine PF.pf_take0 15 (by kernel_rfl) rfl (fun _ _ _ _ _ h => h) (by kernel_rfl) (fun u => by go_simp; try rfl) ?_
                          try simp only [Act.put, pz0, pz1, pz2]
                          refine PF.pf_take0 16 (by kernel_rfl) rfl (fun _ _ _ _ _ h => h) (by kernel_rfl) (fun u => by go_simp; try rfl) ?_
                          try simp only [Act.put, pz0, pz1, pz2]
                          refine PF.pf_take0 17 (by kernel_rfl) rfl (fun _ _ _ _ _ h => h) (by kernel_rfl) (fun u => by go_simp; try rfl) ?_
                          try simp only [Act.put, pz0, pz1, pz2]
                          refine PF.pf_take1 18 (PF.Same (g8) _) (by kernel_rfl) rfl (fun _ _ _ _ _ h => h) (by kernel_rfl) (PF.Same.refl _ _) (fun u hu => by have hcu := hu.cell; go_simp; try rfl) ?_
                          try simp only [Act.put, pz0, pz1, pz2]
                          refine PF.pf_take0 19 (by kernel_rfl) rfl (fun _ _ _ _ _ h => h) (by kernel_rfl) (fun u => by go_simp; try rfl) ?_
                          try simp only [Act.put, pz0, pz1, pz2]
                          refine PF.pf_take1 20 (PF.Same (g4) _) (by kernel_rfl) rfl (fun _ _ _ _ _ h => h) (by kernel_rfl) (PF.Same.refl _ _) (fun u hu => by have hcu := hu.cell; go_simp; try rfl) ?_
                          try simp only [Act.put, pz0, pz1, pz2]
                          refine PF.pf_take0 21 (by kernel_rfl) rfl (fun _ _ _ _ _ h => h) (by kernel_rfl) (fun u => by go_simp; try rfl) ?_
                          try simp only [Act.put, pz0, pz1, pz2]
                          refine PF.pf_take0 22 (by kernel_rfl) rfl (fun _ _ _ _ _ h => h) (by kernel_rfl) (fun u => by go_simp; try rfl) ?_
                          try simp only [Act.put, pz0, pz1, pz2]
                          refine PF.pf_take0 23 (by kernel_rfl) rfl (fun _ _ _ _ _ h => h) (by kernel_rfl) (fun u => by go_simp; try rfl) ?_
                          try simp only [Act.put, pz0, pz1, pz2]
                          refine PF.pf_take0 24 (by kernel_rfl) rfl (fun _ _ _ _ _ h => h) (by kernel_rfl) (fun u => by go_simp; try rfl) ?_
                          try simp only [Act.put, pz0, pz1, pz2]
                          refine PF.pf_take1 25 (PF.Same (g8) _) (by kernel_rfl) rfl (fun _ _ _ _ _ h => h) (by kernel_rfl) (PF.Same.refl _ _) (fun u hu => by have hcu := hu.cell; go_simp; try rfl) ?_
                          try simp only [Act.put, pz0, pz1, pz2]
                          refine PF.pf_take0 26 (by kernel_rfl) rfl (fun _ _ _ _ _ h => h) (by kernel_rfl) (fun u => by go_simp; try rfl) ?_
                          try simp only [Act.put, pz0, pz1, pz2]
                          refine PF.pf_take1 27 (PF.Same (g4) _) (by kernel_rfl) rfl (fun _ _ _ _ _ h => h) (by kernel_rfl) (PF.Same.refl _ _) (fun u hu => by have hcu := hu.cell; go_simp; try rfl) ?_
                          try simp only [Act.put, pz0, pz1, pz2]
                          refine PF.pf_take0 28 (by kernel_rfl) rfl (fun _ _ _ _ _ h => h) (by kernel_rfl) (fun u => by go_simp; try rfl) ?_
                          try simp only [Act.put, pz0, pz1, pz2]
                          refine PF.pf_take0 29 (by kernel_rfl) rfl (fun _ _ _ _ _ h => h) (by kernel_rfl) (fun u => by go_simp; try rfl) ?_
                          try simp only [Act.put, pz0, pz1, pz2]
                          refine PF.pf_take0 30 (by kernel_rfl) rfl (fun _ _ _ _ _ h => h) (by kernel_rfl) (fun u => by go_simp; try rfl) ?_
                          try simp only [Act.put, pz0, pz1, pz2]
                          refine PF.pf_take0 31 (by kernel_rfl) rfl (fun _ _ _ _ _ h => h) (by kernel_rfl) (fun u => by go_simp; try rfl) ?_
                          try simp only [Act.put, pz0, pz1, pz2]
                          refine PF.pf_take1 32 (PF.Same (g8) _) (by kernel_rfl) rfl (fun _ _ _ _ _ h => h) (by kernel_rfl) (PF.Same.refl _ _) (fun u hu => by have hcu := hu.cell; go_simp; try rfl) ?_
                          try simp only [Act.put, pz0, pz1, pz2]
                          refine PF.pf_take0 33 (by kernel_rfl) rfl (fun _ _ _ _ _ h => h) (by kernel_rfl) (fun u => by go_simp; try rfl) ?_
                          try simp only [Act.put, pz0, pz1, pz2]
                          refine PF.pf_take1 34 (PF.Same (g4) _) (by kernel_rfl) rfl (fun _ _ _ _ _ h => h) (by kernel_rfl) (PF.Same.refl _ _) (fun u hu => by have hcu := hu.cell; go_simp; try rfl) ?_
                          try simp only [Act.put, pz0, pz1, pz2]
                          refine PF.pf_take0 35 (by kernel_rfl) rfl (fun _ _ _ _ _ h => h) (by kernel_rfl) (fun u => by go_simp; try rfl) ?_
                          try simp only [Act.put, pz0, pz1, pz2]
                          refine PF.pf_take0 36 (by kernel_rfl) rfl (fun _ _ _ _ _ h => h) (by kernel_rfl) (fun u => by go_simp; try rfl) ?_
                          try simp only [Act.put, pz0, pz1, pz2]
                          refine PF.pf_done (by kernel_rfl) ?_
                          go_wp2_with fail
                          go_roundw
                          case rel => exact ⟨j + 1, hlt, by go_num, HBI.out⟩
                          case measure => simp [intOf]; omega
                        · have m2 : (xk.n.rep.n == xk.n.call.n) = false := beq_eq_false_iff_ne.2 hc
                          have k2 : ((xk.n.rep.n : Int) == (xk.n.call.n : Int)) = false := beq_eq_false_iff_ne.2 (by omega)
                          have n2 : ((xk.n.rep.n : Int) != (xk.n.call.n : Int)) = true := by simp only [bne, k2]; rfl
                          clear hc
                          go_wp2_with fail
                          refine PF.pf_begin (by kernel_rfl) ?_
                          refine PF.pf_take0 0 (by kernel_rfl) rfl (fun _ _ _ _ _ h => h) (by kernel_rfl) (fun u => by go_simp; try rfl) ?_
                          try simp only [Act.put, pz0, pz1, pz2]
                          refine PF.pf_take0 1 (by kernel_rfl) rfl (fun _ _ _ _ _ h => h) (by kernel_rfl) (fun u => by go_simp; try rfl) ?_
                          try simp only [Act.put, pz0, pz1, pz2]
                          refine PF.pf_take0 2 (by kernel_rfl) rfl (fun _ _ _ _ _ h => h) (by kernel_rfl) (fun u => by go_simp; try rfl) ?_
                          try simp only [Act.put, pz0, pz1, pz2]
                          refine PF.pf_take0 3 (by kernel_rfl) rfl (fun _ _ _ _ _ h => h) (by kernel_rfl) (fun u => by go_simp; try rfl) ?_
                          try simp only [Act.put, pz0, pz1, pz2]
                          refine PF.pf_take0 4 (by kernel_rfl) rfl (fun _ _ _ _ _ h => h) (by kernel_rfl) (fun u => by go_simp; try rfl) ?_
                          try simp only [Act.put, pz0, pz1, pz2]
                          refine PF.pf_take0 5 (by kernel_rfl) rfl (fun _ _ _ _ _ h => h) (by kernel_rfl) (fun u => by go_simp; try rfl) ?_
                          try simp only [Act.put, pz0, pz1, pz2]
                          refine PF.pf_take0 6 (by kernel_rfl) rfl (fun _ _ _ _ _ h => h) (by kernel_rfl) (fun u => by go_simp; try rfl) ?_
                          try simp only [Act.put, pz0, pz1, pz2]
                          refine PF.pf_take0 7 (by kernel_rfl) rfl (fun _ _ _ _ _ h => h) (by kernel_rfl) (fun u => by go_simp; try rfl) ?_
                          try simp only [Act.put, pz0, pz1, pz2]
                          refine PF.pf_take0 8 (by kernel_rfl) rfl (fun _ _ _ _ _ h => h) (by kernel_rfl) (fun u => by go_simp; try rfl) ?_
                          try simp only [Act.put, pz0, pz1, pz2]
                          refine PF.pf_take0 9 (by kernel_rfl) rfl (fun _ _ _ _ _ h => h) (by kernel_rfl) (fun u => by go_simp; try rfl) ?_
                          try simp only [Act.put, pz0, pz1, pz2]
                          refine PF.pf_take0 10 (by kernel_rfl) rfl (fun _ _ _ _ _ h => h) (by kernel_rfl) (fun u => by go_simp; try rfl) ?_
                          try simp only [Act.put, pz0, pz1, pz2]
                          refine PF.pf_take1 11 ((fun u => u.rangeAt b (o + p * 19 + 1) (calL z.n.call z.vc))) (by kernel_rfl) rfl (fun _ _ _ _ _ h => h) (by kernel_rfl) ((nt_callA HRZ.out)) (fun u hu => by (exact exec_load_rg rfl rfl hu Tryz.underlying25 rfl (infoj_call9 rfl))) ?_
                          try simp only [Act.put, pz0, pz1, pz2]
                          refine PF.pf_take1 12 ((fun u => Blk u g4 25 (calL xk.n.call xk.vc).toArray)) (by kernel_rfl) rfl (fun _ _ _ _ _ h => h) (by kernel_rfl) (HBB8.out) (fun u hu => by (exact exec_load_blk rfl rfl hu Tryz.underlying25 rfl (info_call rfl))) ?_
                          try simp only [Act.put, pz0, pz1, pz2]
                          refine PF.pf_exec 13 (by kernel_rfl) rfl (by kernel_rfl) (fun K hK => ?_)
                          go_simp
                          refine (samecall_any (C := z.n.call) (D := xk.n.call) (HVZ.out.below (Below.refl _ _).drew) (HVX.out.below (Below.refl _ _).drew)).mono ?_
                          rintro e w9 ⟨rfl, hb⟩
                          have hb := ((Below.refl w8.heap.size w8).drew).trans hb
                          rw [dsc]
                          have HBX := Lib.hid (HBB8.out.below hb HBB8.out.lt)
                          have HBY := Lib.hid (HB8.out.below hb HB8.out.lt)
                          have HBI := Lib.hid (HBI.out.trans (hb.mono HBI.out.size))
                          have HRZ9 := Lib.hid (rg_below HRZ.out hb)
                          have x0 := (HBX.out.cell 0).trans (rfl : _ = some (Value.int .i64 xk.n.call.cl))
                          have y0 := (HBY.out.cell 0).trans (rfl : _ = some (Value.int .i64 xk.n.rep.cl))
                          have x1 := (HBX.out.cell 1).trans (rfl : _ = some (Value.int .u64 (xk.n.call.inc : Int)))
                          have y1 := (HBY.out.cell 1).trans (rfl : _ = some (Value.int .u64 (xk.n.rep.inc : Int)))
                          have x2 := (HBX.out.cell 2).trans (rfl : _ = some (Value.int .u64 (xk.n.call.n : Int)))
                          have y2 := (HBY.out.cell 2).trans (rfl : _ = some (Value.int .u64 (xk.n.rep.n : Int)))
                          clear hb
                          refine hK _ _ (by repeat (first | exact PF.owes_nil | refine PF.owes_left ?_ | refine PF.owes_no (by decide +kernel) ?_ | refine PF.owes_yes (by first | exact HBX.out | exact nt_callA HRZ9.out | exact HBX.out.block) ?_)) ?_
                          clear hK K
                          try simp only [Act.put, pz0, pz1, pz2]
                          refine PF.pf_take0 14 (by kernel_rfl) rfl (fun _ _ _ _ _ h => h) (by kernel_rfl) (fun u => by go_simp; try rfl) ?_
                          try simp only [Act.put, pz0, pz1, pz2]
                          refine PF.pf_take0 15 (by kernel_rfl) rfl (fun _ _ _ _ _ h => h) (by kernel_rfl) (fun u => by go_simp; try rfl) ?_
                          try simp only [Act.put, pz0, pz1, pz2]
                          refine PF.pf_take0 16 (by kernel_rfl) rfl (fun _ _ _ _ _ h => h) (by kernel_rfl) (fun u => by go_simp; try rfl) ?_
                          try simp only [Act.put, pz0, pz1, pz2]
                          refine PF.pf_take0 17 (by kernel_rfl) rfl (fun _ _ _ _ _ h => h) (by kernel_rfl) (fun u => by go_simp; try rfl) ?_
                          try simp only [Act.put, pz0, pz1, pz2]
                          refine PF.pf_take1 18 (PF.Same (g8) _) (by kernel_rfl) rfl (fun _ _ _ _ _ h => h) (by kernel_rfl) (PF.Same.refl _ _) (fun u hu => by have hcu := hu.cell; go_simp; try rfl) ?_
                          try simp only [Act.put, pz0, pz1, pz2]
                          refine PF.pf_take0 19 (by kernel_rfl) rfl (fun _ _ _ _ _ h => h) (by kernel_rfl) (fun u => by go_simp; try rfl) ?_
                          try simp only [Act.put, pz0, pz1, pz2]
                          refine PF.pf_take1 20 (PF.Same (g4) _) (by kernel_rfl) rfl (fun _ _ _ _ _ h => h) (by kernel_rfl) (PF.Same.refl _ _) (fun u hu => by have hcu := hu.cell; go_simp; try rfl) ?_
                          try simp only [Act.put, pz0, pz1, pz2]
                          refine PF.pf_take0 21 (by kernel_rfl) rfl (fun _ _ _ _ _ h => h) (by kernel_rfl) (fun u => by go_simp; try rfl) ?_
                          try simp only [Act.put, pz0, pz1, pz2]
                          refine PF.pf_take0 22 (by kernel_rfl) rfl (fun _ _ _ _ _ h => h) (by kernel_rfl) (fun u => by go_simp; try rfl) ?_
                          try simp only [Act.put, pz0, pz1, pz2]
                          refine PF.pf_take0 23 (by kernel_rfl) rfl (fun _ _ _ _ _ h => h) (by kernel_rfl) (fun u => by go_simp; try rfl) ?_
                          try simp only [Act.put, pz0, pz1, pz2]
                          refine PF.pf_take0 24 (by kernel_rfl) rfl (fun _ _ _ _ _ h => h) (by kernel_rfl) (fun u => by go_simp; try rfl) ?_
                          try simp only [Act.put, pz0, pz1, pz2]
                          refine PF.pf_take1 25 (PF.Same (g8) _) (by kernel_rfl) rfl (fun _ _ _ _ _ h => h) (by kernel_rfl) (PF.Same.refl _ _) (fun u hu => by have hcu := hu.cell; go_simp; try rfl) ?_
                          try simp only [Act.put, pz0, pz1, pz2]
                          refine PF.pf_take0 26 (by kernel_rfl) rfl (fun _ _ _ _ _ h => h) (by kernel_rfl) (fun u => by go_simp; try rfl) ?_
                          try simp only [Act.put, pz0, pz1, pz2]
                          refine PF.pf_take1 27 (PF.Same (g4) _) (by kernel_rfl) rfl (fun _ _ _ _ _ h => h) (by kernel_rfl) (PF.Same.refl _ _) (fun u hu => by have hcu := hu.cell; go_simp; try rfl) ?_
                          try simp only [Act.put, pz0, pz1, pz2]
                          refine PF.pf_take0 28 (by kernel_rfl) rfl (fun _ _ _ _ _ h => h) (by kernel_rfl) (fun u => by go_simp; try rfl) ?_
                          try simp only [Act.put, pz0, pz1, pz2]
                          refine PF.pf_take0 29 (by kernel_rfl) rfl (fun _ _ _ _ _ h => h) (by kernel_rfl) (fun u => by go_simp; try rfl) ?_
                          try simp only [Act.put, pz0, pz1, pz2]
                          refine PF.pf_take0 30 (by kernel_rfl) rfl (fun _ _ _ _ _ h => h) (by kernel_rfl) (fun u => by go_simp; try rfl) ?_
                          try simp only [Act.put, pz0, pz1, pz2]
                          refine PF.pf_take0 31 (by kernel_rfl) rfl (fun _ _ _ _ _ h => h) (by kernel_rfl) (fun u => by go_simp; try rfl) ?_
                          try simp only [Act.put, pz0, pz1, pz2]
                          refine PF.pf_take1 32 (PF.Same (g8) _) (by kernel_rfl) rfl (fun _ _ _ _ _ h => h) (by kernel_rfl) (PF.Same.refl _ _) (fun u hu => by have hcu := hu.cell; go_simp; try rfl) ?_
                          try simp only [Act.put, pz0, pz1, pz2]
                          refine PF.pf_take0 33 (by kernel_rfl) rfl (fun _ _ _ _ _ h => h) (by kernel_rfl) (fun u => by go_simp; try rfl) ?_
                          try simp only [Act.put, pz0, pz1, pz2]
                          refine PF.pf_take1 34 (PF.Same (g4) _) (by kernel_rfl) rfl (fun _ _ _ _ _ h => h) (by kernel_rfl) (PF.Same.refl _ _) (fun u hu => by have hcu := hu.cell; go_simp; try rfl) ?_
                          try simp only [Act.put, pz0, pz1, pz2]
                          refine PF.pf_take0 35 (by kernel_rfl) rfl (fun _ _ _ _ _ h => h) (by kernel_rfl) (fun u => by go_simp; try rfl) ?_
                          try simp only [Act.put, pz0, pz1, pz2]
                          refine PF.pf_take0 36 (by kernel_rfl) rfl (fun _ _ _ _ _ h => h) (by kernel_rfl) (fun u => by go_simp; try rfl) ?_
                          try simp only [Act.put, pz0, pz1, pz2]
                          refine PF.pf_done (by kernel_rfl) ?_
                          go_wp2_with fail
                          go_ret
                          have hend := HBI.out
                          first | exact ⟨⟨_, rfl⟩, hend⟩ | exact ⟨⟨_, rfl⟩, hend.drew⟩ | exact ⟨.inl rfl, hend⟩ | exact ⟨.inl rfl, hend.drew⟩
                      · have m1 : (xk.n.rep.inc == xk.n.call.inc) = false := beq_eq_false_iff_ne.2 hc
                        have k1 : ((xk.n.rep.inc : Int) == (xk.n.call.inc : Int)) = false := beq_eq_false_iff_ne.2 (by omega)
                        have n1 : ((xk.n.rep.inc : Int) != (xk.n.call.inc : Int)) = true := by simp only [bne, k1]; rfl
                        clear hc
                        go_wp2_with fail
                        refine PF.pf_begin (by kernel_rfl) ?_
                        refine PF.pf_take0 0 (by kernel_rfl) rfl (fun _ _ _ _ _ h => h) (by kernel_rfl) (fun u => by go_simp; try rfl) ?_
                        try simp only [Act.put, pz0, pz1, pz2]
                        refine PF.pf_take0 1 (by kernel_rfl) rfl (fun _ _ _ _ _ h => h) (by kernel_rfl) (fun u => by go_simp; try rfl) ?_
                        try simp only [Act.put, pz0, pz1, pz2]
                        refine PF.pf_take0 2 (by kernel_rfl) rfl (fun _ _ _ _ _ h => h) (by kernel_rfl) (fun u => by go_simp; try rfl) ?_
                        try simp only [Act.put, pz0, pz1, pz2]
                        refine PF.pf_take0 3 (by kernel_rfl) rfl (fun _ _ _ _ _ h => h) (by kernel_rfl) (fun u => by go_simp; try rfl) ?_
                        try simp only [Act.put, pz0, pz1, pz2]
                        refine PF.pf_take0 4 (by kernel_rfl) rfl (fun _ _ _ _ _ h => h) (by kernel_rfl) (fun u => by go_simp; try rfl) ?_
                        try simp only [Act.put, pz0, pz1, pz2]
                        refine PF.pf_take0 5 (by kernel_rfl) rfl (fun _ _ _ _ _ h => h) (by kernel_rfl) (fun u => by go_simp; try rfl) ?_
                        try simp only [Act.put, pz0, pz1, pz2]
                        refine PF.pf_take0 6 (by kernel_rfl) rfl (fun _ _ _ _ _ h => h) (by kernel_rfl) (fun u => by go_simp; try rfl) ?_
                        try simp only [Act.put, pz0, pz1, pz2]
                        refine PF.pf_take0 7 (by kernel_rfl) rfl (fun _ _ _ _ _ h => h) (by kernel_rfl) (fun u => by go_simp; try rfl) ?_
                        try simp only [Act.put, pz0, pz1, pz2]
                        refine PF.pf_take0 8 (by kernel_rfl) rfl (fun _ _ _ _ _ h => h) (by kernel_rfl) (fun u => by go_simp; try rfl) ?_
                        try simp only [Act.put, pz0, pz1, pz2]
                        refine PF.pf_take0 9 (by kernel_rfl) rfl (fun _ _ _ _ _ h => h) (by kernel_rfl) (fun u => by go_simp; try rfl) ?_
                        try simp only [Act.put, pz0, pz1, pz2]
                        refine PF.pf_take0 10 (by kernel_rfl) rfl (fun _ _ _ _ _ h => h) (by kernel_rfl) (fun u => by go_simp; try rfl) ?_
                        try simp only [Act.put, pz0, pz1, pz2]
                        refine PF.pf_take1 11 ((fun u => u.rangeAt b (o + p * 19 + 1) (calL z.n.call z.vc))) (by kernel_rfl) rfl (fun _ _ _ _ _ h => h) (by kernel_rfl) ((nt_callA HRZ.out)) (fun u hu => by (exact exec_load_rg rfl rfl hu Tryz.underlying25 rfl (infoj_call9 rfl))) ?_
                        try simp only [Act.put, pz0, pz1, pz2]
                        refine PF.pf_take1 12 ((fun u => Blk u g4 25 (calL xk.n.call xk.vc).toArray)) (by kernel_rfl) rfl (fun _ _ _ _ _ h => h) (by kernel_rfl) (HBB8.out) (fun u hu => by (exact exec_load_blk rfl rfl hu Tryz.underlying25 rfl (info_call rfl))) ?_
                        try simp only [Act.put, pz0, pz1, pz2]
                        refine PF.pf_exec 13 (by kernel_rfl) rfl (by kernel_rfl) (fun K hK => ?_)
                        go_simp
                        refine (samecall_any (C := z.n.call) (D := xk.n.call) (HVZ.out.below (Below.refl _ _).drew) (HVX.out.below (Below.refl _ _).drew)).mono ?_
                        rintro e w9 ⟨rfl, hb⟩
                        have hb := ((Below.refl w8.heap.size w8).drew).trans hb
                        rw [dsc]
                        have HBX := Lib.hid (HBB8.out.below hb HBB8.out.lt)
                        have HBY := Lib.hid (HB8.out.below hb HB8.out.lt)
                        have HBI := Lib.hid (HBI.out.trans (hb.mono HBI.out.size))
                        have HRZ9 := Lib.hid (rg_below HRZ.out hb)
                        have x0 := (HBX.out.cell 0).trans (rfl : _ = some (Value.int .i64 xk.n.call.cl))
                        have y0 := (HBY.out.cell 0).trans (rfl : _ = some (Value.int .i64 xk.n.rep.cl))
                        have x1 := (HBX.out.cell 1).trans (rfl : _ = some (Value.int .u64 (xk.n.call.inc : Int)))
                        have y1 := (HBY.out.cell 1).trans (rfl : _ = some (Value.int .u64 (xk.n.rep.inc : Int)))
                        have x2 := (HBX.out.cell 2).trans (rfl : _ = some (Value.int .u64 (xk.n.call.n : Int)))
                        have y2 := (HBY.out.cell 2).trans (rfl : _ = some (Value.int .u64 (xk.n.rep.n : Int)))
                        clear hb
                        refine hK _ _ (by repeat (first | exact PF.owes_nil | refine PF.owes_left ?_ | refine PF.owes_no (by decide +kernel) ?_ | refine PF.owes_yes (by first | exact HBX.out | exact nt_callA HRZ9.out | exact HBX.out.block) ?_)) ?_
                        clear hK K
                        try simp only [Act.put, pz0, pz1, pz2]
                        refine PF.pf_take0 14 (by kernel_rfl) rfl (fun _ _ _ _ _ h => h) (by kernel_rfl) (fun u => by go_simp; try rfl) ?_
                        try simp only [Act.put, pz0, pz1, pz2]
                        refine PF.pf_take0 15 (by kernel_rfl) rfl (fun _ _ _ _ _ h => h) (by kernel_rfl) (fun u => by go_simp; try rfl) ?_
                        try simp only [Act.put, pz0, pz1, pz2]
                        refine PF.pf_take0 16 (by kernel_rfl) rfl (fun _ _ _ _ _ h => h) (by kernel_rfl) (fun u => by go_simp; try rfl) ?_
                        try simp only [Act.put, pz0, pz1, pz2]
                        refine PF.pf_take0 17 (by kernel_rfl) rfl (fun _ _ _ _ _ h => h) (by kernel_rfl) (fun u => by go_simp; try rfl) ?_
                        try simp only [Act.put, pz0, pz1, pz2]
                        refine PF.pf_take1 18 (PF.Same (g8) _) (by kernel_rfl) rfl (fun _ _ _ _ _ h => h) (by kernel_rfl) (PF.Same.refl _ _) (fun u hu => by have hcu := hu.cell; go_simp; try rfl) ?_
                        try simp only [Act.put, pz0, pz1, pz2]
                        refine PF.pf_take0 19 (by kernel_rfl) rfl (fun _ _ _ _ _ h => h) (by kernel_rfl) (fun u => by go_simp; try rfl) ?_
                        try simp only [Act.put, pz0, pz1, pz2]
                        refine PF.pf_take1 20 (PF.Same (g4) _) (by kernel_rfl) rfl (fun _ _ _ _ _ h => h) (by kernel_rfl) (PF.Same.refl _ _) (fun u hu => by have hcu := hu.cell; go_simp; try rfl) ?_
                        try simp only [Act.put, pz0, pz1, pz2]
                        refine PF.pf_take0 21 (by kernel_rfl) rfl (fun _ _ _ _ _ h => h) (by kernel_rfl) (fun u => by go_simp; try rfl) ?_
                        try simp only [Act.put, pz0, pz1, pz2]
                        refine PF.pf_take0 22 (by kernel_rfl) rfl (fun _ _ _ _ _ h => h) (by kernel_rfl) (fun u => by go_simp; try rfl) ?_
                        try simp only [Act.put, pz0, pz1, pz2]
                        refine PF.pf_take0 23 (by kernel_rfl) rfl (fun _ _ _ _ _ h => h) (by kernel_rfl) (fun u => by go_simp; try rfl) ?_
                        try simp only [Act.put, pz0, pz1, pz2]
                        refine PF.pf_take0 24 (by kernel_rfl) rfl (fun _ _ _ _ _ h => h) (by kernel_rfl) (fun u => by go_simp; try rfl) ?_
                        try simp only [Act.put, pz0, pz1, pz2]
                        refine PF.pf_take1 25 (PF.Same (g8) _) (by kernel_rfl) rfl (fun _ _ _ _ _ h => h) (by kernel_rfl) (PF.Same.refl _ _) (fun u hu => by have hcu := hu.cell; go_simp; try rfl) ?_
                        try simp only [Act.put, pz0, pz1, pz2]
                        refine PF.pf_take0 26 (by kernel_rfl) rfl (fun _ _ _ _ _ h => h) (by kernel_rfl) (fun u => by go_simp; try rfl) ?_
                        try simp only [Act.put, pz0, pz1, pz2]
                        refine PF.pf_take1 27 (PF.Same (g4) _) (by kernel_rfl) rfl (fun _ _ _ _ _ h => h) (by kernel_rfl) (PF.Same.refl _ _) (fun u hu => by have hcu := hu.cell; go_simp; try rfl) ?_
                        try simp only [Act.put, pz0, pz1, pz2]
                        refine PF.pf_take0 28 (by kernel_rfl) rfl (fun _ _ _ _ _ h => h) (by kernel_rfl) (fun u => by go_simp; try rfl) ?_
                        try simp only [Act.put, pz0, pz1, pz2]
                        refine PF.pf_take0 29 (by kernel_rfl) rfl (fun _ _ _ _ _ h => h) (by kernel_rfl) (fun u => by go_simp; try rfl) ?_
                        try simp only [Act.put, pz0, pz1, pz2]
                        refine PF.pf_take0 30 (by kernel_rfl) rfl (fun _ _ _ _ _ h => h) (by kernel_rfl) (fun u => by go_simp; try rfl) ?_
                        try simp only [Act.put, pz0, pz1, pz2]
                        refine PF.pf_skip0 31 (by kernel_rfl) rfl (fun _ _ _ _ _ h => h) (by kernel_rfl) ?_
                        try simp only [Act.put, pz0, pz1, pz2]
                        refine PF.pf_skip0 32 (by kernel_rfl) rfl (fun _ _ _ _ _ h => h) (by kernel_rfl) ?_
                        try simp only [Act.put, pz0, pz1, pz2]
                        refine PF.pf_skip0 33 (by kernel_rfl) rfl (fun _ _ _ _ _ h => h) (by kernel_rfl) ?_
                        try simp only [Act.put, pz0, pz1, pz2]
                        refine PF.pf_skip0 34 (by kernel_rfl) rfl (fun _ _ _ _ _ h => h) (by kernel_rfl) ?_
                        try simp only [Act.put, pz0, pz1, pz2]
                        refine PF.pf_skip0 35 (by kernel_rfl) rfl (fun _ _ _ _ _ h => h) (by kernel_rfl) ?_
                        try simp only [Act.put, pz0, pz1, pz2]
                        refine PF.pf_take0 36 (by kernel_rfl) rfl (fun _ _ _ _ _ h => h) (by kernel_rfl) (fun u => by go_simp; try rfl) ?_
                        try simp only [Act.put, pz0, pz1, pz2]
                        refine PF.pf_done (by kernel_rfl) ?_
                        go_wp2_with fail
                        go_ret
                        have hend := HBI.out
                        first | exact ⟨⟨_, rfl⟩, hend⟩ | exact ⟨⟨_, rfl⟩, hend.drew⟩ | exact ⟨.inl rfl, hend⟩ | exact ⟨.inl rfl, hend.drew⟩
                    · have m0 : (xk.n.rep.cl == xk.n.call.cl) = false := beq_eq_false_iff_ne.2 hc
                      have n0 : (xk.n.rep.cl != xk.n.call.cl) = true := by simp only [bne, m0]; rfl
                      clear hc
                      go_wp2_with fail
                      refine PF.pf_begin (by kernel_rfl) ?_
                      refine PF.pf_take0 0 (by kernel_rfl) rfl (fun _ _ _ _ _ h => h) (by kernel_rfl) (fun u => by go_simp; try rfl) ?_
                      try simp only [Act.put, pz0, pz1, pz2]
                      refine PF.pf_take0 1 (by kernel_rfl) rfl (fun _ _ _ _ _ h => h) (by kernel_rfl) (fun u => by go_simp; try rfl) ?_
                      try simp only [Act.put, pz0, pz1, pz2]
                      refine PF.pf_take0 2 (by kernel_rfl) rfl (fun _ _ _ _ _ h => h) (by kernel_rfl) (fun u => by go_simp; try rfl) ?_
                      try simp only [Act.put, pz0, pz1, pz2]
                      refine PF.pf_take0 3 (by kernel_rfl) rfl (fun _ _ _ _ _ h => h) (by kernel_rfl) (fun u => by go_simp; try rfl) ?_
                      try simp only [Act.put, pz0, pz1, pz2]
                      refine PF.pf_take0 4 (by kernel_rfl) rfl (fun _ _ _ _ _ h => h) (by kernel_rfl) (fun u => by go_simp; try rfl) ?_
                      try simp only [Act.put, pz0, pz1, pz2]
                      refine PF.pf_take0 5 (by kernel_rfl) rfl (fun _ _ _ _ _ h => h) (by kernel_rfl) (fun u => by go_simp; try rfl) ?_
                      try simp only [Act.put, pz0, pz1, pz2]
                      refine PF.pf_take0 6 (by kernel_rfl) rfl (fun _ _ _ _ _ h => h) (by kernel_rfl) (fun u => by go_simp; try rfl) ?_
                      try simp only [Act.put, pz0, pz1, pz2]
                      refine PF.pf_take0 7 (by kernel_rfl) rfl (fun _ _ _ _ _ h => h) (by kernel_rfl) (fun u => by go_simp; try rfl) ?_
                      try simp only [Act.put, pz0, pz1, pz2]
                      refine PF.pf_take0 8 (by kernel_rfl) rfl (fun _ _ _ _ _ h => h) (by kernel_rfl) (fun u => by go_simp; try rfl) ?_
                      try simp only [Act.put, pz0, pz1, pz2]
                      refine PF.pf_take0 9 (by kernel_rfl) rfl (fun _ _ _ _ _ h => h) (by kernel_rfl) (fun u => by go_simp; try rfl) ?_
                      try simp only [Act.put, pz0, pz1, pz2]
                      refine PF.pf_take0 10 (by kernel_rfl) rfl (fun _ _ _ _ _ h => h) (by kernel_rfl) (fun u => by go_simp; try rfl) ?_
                      try simp only [Act.put, pz0, pz1, pz2]
                      refine PF.pf_take1 11 ((fun u => u.rangeAt b (o + p * 19 + 1) (calL z.n.call z.vc))) (by kernel_rfl) rfl (fun _ _ _ _ _ h => h) (by kernel_rfl) ((nt_callA HRZ.out)) (fun u hu => by (exact exec_load_rg rfl rfl hu Tryz.underlying25 rfl (infoj_call9 rfl))) ?_
                      try simp only [Act.put, pz0, pz1, pz2]
                      refine PF.pf_take1 12 ((fun u => Blk u g4 25 (calL xk.n.call xk.vc).toArray)) (by kernel_rfl) rfl (fun _ _ _ _ _ h => h) (by kernel_rfl) (HBB8.out) (fun u hu => by (exact exec_load_blk rfl rfl hu Tryz.underlying25 rfl (info_call rfl))) ?_
                      try simp only [Act.put, pz0, pz1, pz2]
                      refine PF.pf_exec 13 (by kernel_rfl) rfl (by kernel_rfl) (fun K hK => ?_)
                      go_simp
                      refine (samecall_any (C := z.n.call) (D := xk.n.call) (HVZ.out.below (Below.refl _ _).drew) (HVX.out.below (Below.refl _ _).drew)).mono ?_
                      rintro e w9 ⟨rfl, hb⟩
                      have hb := ((Below.refl w8.heap.size w8).drew).trans hb
                      rw [dsc]
                      have HBX := Lib.hid (HBB8.out.below hb HBB8.out.lt)
                      have HBY := Lib.hid (HB8.out.below hb HB8.out.lt)
                      have HBI := Lib.hid (HBI.out.trans (hb.mono HBI.out.size))
                      have HRZ9 := Lib.hid (rg_below HRZ.out hb)
                      have x0 := (HBX.out.cell 0).trans (rfl : _ = some (Value.int .i64 xk.n.call.cl))
                      have y0 := (HBY.out.cell 0).trans (rfl : _ = some (Value.int .i64 xk.n.rep.cl))
                      have x1 := (HBX.out.cell 1).trans (rfl : _ = some (Value.int .u64 (xk.n.call.inc : Int)))
                      have y1 := (HBY.out.cell 1).trans (rfl : _ = some (Value.int .u64 (xk.n.rep.inc : Int)))
                      have x2 := (HBX.out.cell 2).trans (rfl : _ = some (Value.int .u64 (xk.n.call.n : Int)))
                      have y2 := (HBY.out.cell 2).trans (rfl : _ = some (Value.int .u64 (xk.n.rep.n : Int)))
                      clear hb
                      refine hK _ _ (by repeat (first | exact PF.owes_nil | refine PF.owes_left ?_ | refine PF.owes_no (by decide +kernel) ?_ | refine PF.owes_yes (by first | exact HBX.out | exact nt_callA HRZ9.out | exact HBX.out.block) ?_)) ?_
                      clear hK K
                      try simp only [Act.put, pz0, pz1, pz2]
                      refine PF.pf_take0 14 (by kernel_rfl) rfl (fun _ _ _ _ _ h => h) (by kernel_rfl) (fun u => by go_simp; try rfl) ?_
                      try simp only [Act.put, pz0, pz1, pz2]
                      refine PF.pf_take0 15 (by kernel_rfl) rfl (fun _ _ _ _ _ h => h) (by kernel_rfl) (fun u => by go_simp; try rfl) ?_
                      try simp only [Act.put, pz0, pz1, pz2]
                      refine PF.pf_take0 16 (by kernel_rfl) rfl (fun _ _ _ _ _ h => h) (by kernel_rfl) (fun u => by go_simp; try rfl) ?_
                      try simp only [Act.put, pz0, pz1, pz2]
                      refine PF.pf_take0 17 (by kernel_rfl) rfl (fun _ _ _ _ _ h => h) (by kernel_rfl) (fun u => by go_simp; try rfl) ?_
                      try simp only [Act.put, pz0, pz1, pz2]
                      refine PF.pf_take1 18 (PF.Same (g8) _) (by kernel_rfl) rfl (fun _ _ _ _ _ h => h) (by kernel_rfl) (PF.Same.refl _ _) (fun u hu => by have hcu := hu.cell; go_simp; try rfl) ?_
                      try simp only [Act.put, pz0, pz1, pz2]
                      refine PF.pf_take0 19 (by kernel_rfl) rfl (fun _ _ _ _ _ h => h) (by kernel_rfl) (fun u => by go_simp; try rfl) ?_
                      try simp only [Act.put, pz0, pz1, pz2]
                      refine PF.pf_take1 20 (PF.Same (g4) _) (by kernel_rfl) rfl (fun _ _ _ _ _ h => h) (by kernel_rfl) (PF.Same.refl _ _) (fun u hu => by have hcu := hu.cell; go_simp; try rfl) ?_
                      try simp only [Act.put, pz0, pz1, pz2]
                      refine PF.pf_take0 21 (by kernel_rfl) rfl (fun _ _ _ _ _ h => h) (by kernel_rfl) (fun u => by go_simp; try rfl) ?_
                      try simp only [Act.put, pz0, pz1, pz2]
                      refine PF.pf_take0 22 (by kernel_rfl) rfl (fun _ _ _ _ _ h => h) (by kernel_rfl) (fun u => by go_simp; try rfl) ?_
                      try simp only [Act.put, pz0, pz1, pz2]
                      refine PF.pf_take0 23 (by kernel_rfl) rfl (fun _ _ _ _ _ h => h) (by kernel_rfl) (fun u => by go_simp; try rfl) ?_
                      try simp only [Act.put, pz0, pz1, pz2]
                      refine PF.pf_skip0 24 (by kernel_rfl) rfl (fun _ _ _ _ _ h => h) (by kernel_rfl) ?_
                      try simp only [Act.put, pz0, pz1, pz2]
                      refine PF.pf_skip0 25 (by kernel_rfl) rfl (fun _ _ _ _ _ h => h) (by kernel_rfl) ?_
                      try simp only [Act.put, pz0, pz1, pz2]
                      refine PF.pf_skip0 26 (by kernel_rfl) rfl (fun _ _ _ _ _ h => h) (by kernel_rfl) ?_
                      try simp only [Act.put, pz0, pz1, pz2]
                      refine PF.pf_skip0 27 (by kernel_rfl) rfl (fun _ _ _ _ _ h => h) (by kernel_rfl) ?_
                      try simp only [Act.put, pz0, pz1, pz2]
                      refine PF.pf_skip0 28 (by kernel_rfl) rfl (fun _ _ _ _ _ h => h) (by kernel_rfl) ?_
                      try simp only [Act.put, pz0, pz1, pz2]
                      refine PF.pf_take0 29 (by kernel_rfl) rfl (fun _ _ _ _ _ h => h) (by kernel_rfl) (fun u => by go_simp; try rfl) ?_
                      try simp only [Act.put, pz0, pz1, pz2]
                      refine PF.pf_take0 30 (by kernel_rfl) rfl (fun _ _ _ _ _ h => h) (by kernel_rfl) (fun u => by go_simp; try rfl) ?_
                      try simp only [Act.put, pz0, pz1, pz2]
                      refine PF.pf_skip0 31 (by kernel_rfl) rfl (fun _ _ _ _ _ h => h) (by kernel_rfl) ?_
                      try simp only [Act.put, pz0, pz1, pz2]
                      refine PF.pf_skip0 32 (by kernel_rfl) rfl (fun _ _ _ _ _ h => h) (by kernel_rfl) ?_
                      try simp only [Act.put, pz0, pz1, pz2]
                      refine PF.pf_skip0 33 (by kernel_rfl) rfl (fun _ _ _ _ _ h => h) (by kernel_rfl) ?_
                      try simp only [Act.put, pz0, pz1, pz2]
                      refine PF.pf_skip0 34 (by kernel_rfl) rfl (fun _ _ _ _ _ h => h) (by kernel_rfl) ?_
                      try simp only [Act.put, pz0, pz1, pz2]
                      refine PF.pf_skip0 35 (by kernel_rfl) rfl (fun _ _ _ _ _ h => h) (by kernel_rfl) ?_
                      try simp only [Act.put, pz0, pz1, pz2]
                      refine PF.pf_take0 36 (by kernel_rfl) rfl (fun _ _ _ _ _ h => h) (by kernel_rfl) (fun u => by go_simp; try rfl) ?_
                      try simp only [Act.put, pz0, pz1, pz2]
                      refine PF.pf_done (by kernel_rfl) ?_
                      go_wp2_with fail
                      go_ret
                      have hend := HBI.out
                      first | exact ⟨⟨_, rfl⟩, hend⟩ | exact ⟨⟨_, rfl⟩, hend.drew⟩ | exact ⟨.inl rfl, hend⟩ | exact ⟨.inl rfl, hend.drew⟩
                  · have dsc : decide (z.n.call = xk.n.call) = false := decide_eq_false hsc
                    clear hsc
                    go_wp2_with fail
                    refine PF.pf_begin (by kernel_rfl) ?_
                    refine PF.pf_take0 0 (by kernel_rfl) rfl (fun _ _ _ _ _ h => h) (by kernel_rfl) (fun u => by go_simp; try rfl) ?_
                    try simp only [Act.put, pz0, pz1, pz2]
                    refine PF.pf_take0 1 (by kernel_rfl) rfl (fun _ _ _ _ _ h => h) (by kernel_rfl) (fun u => by go_simp; try rfl) ?_
                    try simp only [Act.put, pz0, pz1, pz2]
                    refine PF.pf_take0 2 (by kernel_rfl) rfl (fun _ _ _ _ _ h => h) (by kernel_rfl) (fun u => by go_simp; try rfl) ?_
                    try simp only [Act.put, pz0, pz1, pz2]
                    refine PF.pf_take0 3 (by kernel_rfl) rfl (fun _ _ _ _ _ h => h) (by kernel_rfl) (fun u => by go_simp; try rfl) ?_
                    try simp only [Act.put, pz0, pz1, pz2]
                    refine PF.pf_take0 4 (by kernel_rfl) rfl (fun _ _ _ _ _ h => h) (by kernel_rfl) (fun u => by go_simp; try rfl) ?_
                    try simp only [Act.put, pz0, pz1, pz2]
                    refine PF.pf_take0 5 (by kernel_rfl) rfl (fun _ _ _ _ _ h => h) (by kernel_rfl) (fun u => by go_simp; try rfl) ?_
                    try simp only [Act.put, pz0, pz1, pz2]
                    refine PF.pf_take0 6 (by kernel_rfl) rfl (fun _ _ _ _ _ h => h) (by kernel_rfl) (fun u => by go_simp; try rfl) ?_
                    try simp only [Act.put, pz0, pz1, pz2]
                    refine PF.pf_take0 7 (by kernel_rfl) rfl (fun _ _ _ _ _ h => h) (by kernel_rfl) (fun u => by go_simp; try rfl) ?_
                    try simp only [Act.put, pz0, pz1, pz2]
                    refine PF.pf_take0 8 (by kernel_rfl) rfl (fun _ _ _ _ _ h => h) (by kernel_rfl) (fun u => by go_simp; try rfl) ?_
                    try simp only [Act.put, pz0, pz1, pz2]
                    refine PF.pf_take0 9 (by kernel_rfl) rfl (fun _ _ _ _ _ h => h) (by kernel_rfl) (fun u => by go_simp; try rfl) ?_
                    try simp only [Act.put, pz0, pz1, pz2]
                    refine PF.pf_take0 10 (by kernel_rfl) rfl (fun _ _ _ _ _ h => h) (by kernel_rfl) (fun u => by go_simp; try rfl) ?_
                    try simp only [Act.put, pz0, pz1, pz2]
                    refine PF.pf_take1 11 ((fun u => u.rangeAt b (o + p * 19 + 1) (calL z.n.call z.vc))) (by kernel_rfl) rfl (fun _ _ _ _ _ h => h) (by kernel_rfl) ((nt_callA HRZ.out)) (fun u hu => by (exact exec_load_rg rfl rfl hu Tryz.underlying25 rfl (infoj_call9 rfl))) ?_
                    try simp only [Act.put, pz0, pz1, pz2]
                    refine PF.pf_take1 12 ((fun u => Blk u g4 25 (calL xk.n.call xk.vc).toArray)) (by kernel_rfl) rfl (fun _ _ _ _ _ h => h) (by kernel_rfl) (HBB8.out) (fun u hu => by (exact exec_load_blk rfl rfl hu Tryz.underlying25 rfl (info_call rfl))) ?_
                    try simp only [Act.put, pz0, pz1, pz2]
                    refine PF.pf_exec 13 (by kernel_rfl) rfl (by kernel_rfl) (fun K hK => ?_)
                    go_simp
                    refine (samecall_any (C := z.n.call) (D := xk.n.call) (HVZ.out.below (Below.refl _ _).drew) (HVX.out.below (Below.refl _ _).drew)).mono ?_
                    rintro e w9 ⟨rfl, hb⟩
                    have hb := ((Below.refl w8.heap.size w8).drew).trans hb
                    rw [dsc]
                    have HBX := Lib.hid (HBB8.out.below hb HBB8.out.lt)
                    have HBY := Lib.hid (HB8.out.below hb HB8.out.lt)
                    have HBI := Lib.hid (HBI.out.trans (hb.mono HBI.out.size))
                    have HRZ9 := Lib.hid (rg_below HRZ.out hb)
                    have x0 := (HBX.out.cell 0).trans (rfl : _ = some (Value.int .i64 xk.n.call.cl))
                    have y0 := (HBY.out.cell 0).trans (rfl : _ = some (Value.int .i64 xk.n.rep.cl))
                    have x1 := (HBX.out.cell 1).trans (rfl : _ = some (Value.int .u64 (xk.n.call.inc : Int)))
                    have y1 := (HBY.out.cell 1).trans (rfl : _ = some (Value.int .u64 (xk.n.rep.inc : Int)))
                    have x2 := (HBX.out.cell 2).trans (rfl : _ = some (Value.int .u64 (xk.n.call.n : Int)))
                    have y2 := (HBY.out.cell 2).trans (rfl : _ = some (Value.int .u64 (xk.n.rep.n : Int)))
                    clear hb
                    refine hK _ _ (by repeat (first | exact PF.owes_nil | refine PF.owes_left ?_ | refine PF.owes_no (by decide +kernel) ?_ | refine PF.owes_yes (by first | exact HBX.out | exact nt_callA HRZ9.out | exact HBX.out.block) ?_)) ?_
                    clear hK K
                    try simp only [Act.put, pz0, pz1, pz2]
                    refine PF.pf_take0 14 (by kernel_rfl) rfl (fun _ _ _ _ _ h => h) (by kernel_rfl) (fun u => by go_simp; try rfl) ?_
                    try simp only [Act.put, pz0, pz1, pz2]
                    refine PF.pf_take0 15 (by kernel_rfl) rfl (fun _ _ _ _ _ h => h) (by kernel_rfl) (fun u => by go_simp; try rfl) ?_
                    try simp only [Act.put, pz0, pz1, pz2]
                    refine PF.pf_take0 16 (by kernel_rfl) rfl (fun _ _ _ _ _ h => h) (by kernel_rfl) (fun u => by go_simp; try rfl) ?_
                    try simp only [Act.put, pz0, pz1, pz2]
                    refine PF.pf_skip0 17 (by kernel_rfl) rfl (fun _ _ _ _ _ h => h) (by kernel_rfl) ?_
                    try simp only [Act.put, pz0, pz1, pz2]
                    refine PF.pf_skip0 18 (by kernel_rfl) rfl (fun _ _ _ _ _ h => h) (by kernel_rfl) ?_
                    try simp only [Act.put, pz0, pz1, pz2]
                    refine PF.pf_skip0 19 (by kernel_rfl) rfl (fun _ _ _ _ _ h => h) (by kernel_rfl) ?_
                    try simp only [Act.put, pz0, pz1, pz2]
                    refine PF.pf_skip0 20 (by kernel_rfl) rfl (fun _ _ _ _ _ h => h) (by kernel_rfl) ?_
                    try simp only [Act.put, pz0, pz1, pz2]
                    refine PF.pf_skip0 21 (by kernel_rfl) rfl (fun _ _ _ _ _ h => h) (by kernel_rfl) ?_
                    try simp only [Act.put, pz0, pz1, pz2]
                    refine PF.pf_take0 22 (by kernel_rfl) rfl (fun _ _ _ _ _ h => h) (by kernel_rfl) (fun u => by go_simp; try rfl) ?_
                    try simp only [Act.put, pz0, pz1, pz2]
                    refine PF.pf_take0 23 (by kernel_rfl) rfl (fun _ _ _ _ _ h => h) (by kernel_rfl) (fun u => by go_simp; try rfl) ?_
                    try simp only [Act.put, pz0, pz1, pz2]
                    refine PF.pf_skip0 24 (by kernel_rfl) rfl (fun _ _ _ _ _ h => h) (by kernel_rfl) ?_
                    try simp only [Act.put, pz0, pz1, pz2]
                    refine PF.pf_skip0 25 (by kernel_rfl) rfl (fun _ _ _ _ _ h => h) (by kernel_rfl) ?_
                    try simp only [Act.put, pz0, pz1, pz2]
                    refine PF.pf_skip0 26 (by kernel_rfl) rfl (fun _ _ _ _ _ h => h) (by kernel_rfl) ?_
                    try simp only [Act.put, pz0, pz1, pz2]
                    refine PF.pf_skip0 27 (by kernel_rfl) rfl (fun _ _ _ _ _ h => h) (by kernel_rfl) ?_
                    try simp only [Act.put, pz0, pz1, pz2]
                    refine PF.pf_skip0 28 (by kernel_rfl) rfl (fun _ _ _ _ _ h => h) (by kernel_rfl) ?_
                    try simp only [Act.put, pz0, pz1, pz2]
                    refine PF.pf_take0 29 (by kernel_rfl) rfl (fun _ _ _ _ _ h => h) (by kernel_rfl) (fun u => by go_simp; try rfl) ?_
                    try simp only [Act.put, pz0, pz1, pz2]
                    refine PF.pf_take0 30 (by kernel_rfl) rfl (fun _ _ _ _ _ h => h) (by kernel_rfl) (fun u => by go_simp; try rfl) ?_
                    try simp only [Act.put, pz0, pz1, pz2]
                    refine PF.pf_skip0 31 (by kernel_rfl) rfl (fun _ _ _ _ _ h => h) (by kernel_rfl) ?_
                    try simp only [Act.put, pz0, pz1, pz2]
                    refine PF.pf_skip0 32 (by kernel_rfl) rfl (fun _ _ _ _ _ h => h) (by kernel_rfl) ?_
                    try simp only [Act.put, pz0, pz1, pz2]
                    refine PF.pf_skip0 33 (by kernel_rfl) rfl (fun _ _ _ _ _ h => h) (by kernel_rfl) ?_
                    try simp only [Act.put, pz0, pz1, pz2]
                    refine PF.pf_skip0 34 (by kernel_rfl) rfl (fun _ _ _ _ _ h => h) (by kernel_rfl) ?_
                    try simp only [Act.put, pz0, pz1, pz2]
                    refine PF.pf_skip0 35 (by kernel_rfl) rfl (fun _ _ _ _ _ h => h) (by kernel_rfl) ?_
                    try simp only [Act.put, pz0, pz1, pz2]
                    refine PF.pf_take0 36 (by kernel_rfl) rfl (fun _ _ _ _ _ h => h) (by kernel_rfl) (fun u => by go_simp; try rfl) ?_
                    try simp only [Act.put, pz0, pz1, pz2]
                    refine PF.pf_done (by kernel_rfl) ?_
                    go_wp2_with fail
                    go_ret
                    have hend := HBI.out
                    first | exact ⟨⟨_, rfl⟩, hend⟩ | exact ⟨⟨_, rfl⟩, hend.drew⟩ | exact ⟨.inl rfl, hend⟩ | exact ⟨.inl rfl, hend.drew⟩
            · have p2 : (xk.n.kind == 2) = false := beq_eq_false_iff_ne.2 h2
              clear h1 h2
              go_wp2_with fail
              go_ret
              have hend := HBI.out
              first | exact ⟨⟨_, rfl⟩, hend⟩ | exact ⟨⟨_, rfl⟩, hend.drew⟩ | exact ⟨.inl rfl, hend⟩ | exact ⟨.inl rfl, hend.drew⟩
    · obtain rfl : k = l.length := by omega
      go_wp2_with fail
      go_ret
      exact ⟨⟨_, rfl⟩, HB.out⟩
end Go.Proofs.YtpjmolnkmlpfeaaGreatDoor
