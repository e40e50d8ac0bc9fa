/- The law JudgeNever, walked (not whole yet). -/
import Derived.Test.YtpjmolnkmlpfeaaGreatDoorJuLi
import Derived.Test.YtpjmolnkmlpfeaaGreatDoorJQ
namespace Go.Proofs.YtpjmolnkmlpfeaaGreatDoor
set_option linter.unusedVariables false
set_option linter.unusedSimpArgs false
set_option maxRecDepth 100000
open Go.RowKit

theorem nevB_of {l : List NtV} {i k j : Nat} {x y z : NtV} (hx : ∃ h : i < l.length, x = l[i]) (hy : ∃ h : k < l.length, y = l[k]) (hz : ∃ h : j < l.length, z = l[j]) (hik : i < k) (hkj : k < j) (px : PubD x.n) (y1 : y.n.kind = 1) (y2 : y.n.call.kind = 2) (e1 : y.n.call.ch = x.n.call.ch) (e2 : y.n.call.at_ = x.n.rep.at_) (z1 : z.n.kind = 2) (z2 : idOf z.n.call = idOf y.n.call) (z3 : z.n.rep.res = 7) : NevB (l.map (·.n)) := by
  obtain ⟨hi, rfl⟩ := hx
  obtain ⟨hk, rfl⟩ := hy
  obtain ⟨hj, rfl⟩ := hz
  refine ⟨i, k, j, by rw [List.length_map]; exact hi, by rw [List.length_map]; exact hk, by rw [List.length_map]; exact hj, hik, hkj, ?_⟩
  simp only [List.getElem_map]
  exact ⟨px, y1, y2, e1, e2, z1, z2, z3⟩
namespace JudgeNever
set_option maxRecDepth 100000 in
set_option maxHeartbeats 16000000 in
theorem walk {w : World} (A : Option Addr) (l : List NtV) (c : Nat) (hr : Reads w 19 A l.length (l.flatMap ntL)) (h1 : l.length ≤ c) (h2 : c ≤ 9223372036854775807) (hin : ∀ x ∈ l, NtIn w x) (hn : l.length * 184 ≤ 140737488351232) :
    Calls Tryz.prog 6 #[.slice A l.length c] w fun e w' => e = .returned (.bool true) ∧ Below w.heap.size w w' := by
  have hhv := heavy_any (m := 100) (c := c) hr hin (by decide) (by omega)
  have HHV := Lib.hid hhv
  have hsl := slh_in hr h1 h2 hin
  have HSL := Lib.hid hsl
  have HRR := Lib.hid hr
  have HIN := Lib.hid hin
  have haw : ∀ w5, Below w.heap.size w w5 → Calls Tryz.prog 9 #[] w5 fun e w' => e = .returned (.bool true) ∧ Below w.heap.size w w' := fun w2 h2 => (awake_any w2).mono fun e w' ⟨h1, h3⟩ => ⟨h1, h2.trans (h3.mono h2.size)⟩
  have HAW := Lib.hid haw
  clear haw hhv hsl hr h1 h2 hin hn
  go_enter Tryz.func6, Tryz.ntmps6
  go_wp2_with fail
  refine HHV.out.mono ?_
  rintro e w2 ⟨rfl, hb2⟩
  have HT2 := Lib.hid hb2
  clear hb2 HHV
  cases hv : heavyP l 100 with
  | true =>
    clear hv
    go_wp2_with fail
    refine (HAW.out w2 HT2.out).mono ?_
    rintro e w3 ⟨rfl, hb⟩
    go_wp2_with fail
    go_ret
    exact ⟨rfl, hb⟩
  | false =>
    obtain ⟨hok, hl100⟩ := light_ok HIN.out hv
    have HOK := Lib.hid hok
    have his := ris_some (c := c) (HRR.out.below (HT2.out.mono (Nat.le_refl _))) (fun x hx => (⟨(HIN.out x hx).vc.below HT2.out, (HIN.out x hx).vr.below HT2.out, (HIN.out x hx).call, (HIN.out x hx).rep, (HIN.out x hx).bc, (HIN.out x hx).br⟩ : NtIn w2 x)) (by omega)
    have HISS := Lib.hid his
    clear hv hok his
    go_wp2_with fail
    refine HISS.out.mono ?_
    rintro e w3 ⟨⟨bi, rfl⟩, hb⟩
    have HT3 := Lib.hid (HT2.out.trans (hb.mono HT2.out.size))
    clear hb HISS
    cases bi with
    | false =>
      go_wp2_with fail
      refine (HAW.out w3 HT3.out).mono ?_
      rintro e w4 ⟨rfl, hb⟩
      go_wp2_with fail
      go_ret
      exact ⟨rfl, hb⟩
    | true =>
      go_wp2_with fail
      go_loopw [3, 4] (fun nvv iv wr => ∃ (i : Nat) (nv : Bool), i ≤ l.length ∧ iv = .int .i64 i ∧ nvv = .bool nv ∧ (nv = true → NevA (l.map (·.n)) ∨ NevB (l.map (·.n))) ∧ Below w.heap.size w wr) (fun _ i _ => l.length - (intOf i).toNat)
      case atStart => exact ⟨0, false, by omega, rfl, rfl, (fun h => by cases h), HT3.out⟩
      case round =>
        obtain ⟨i, nv, hi, rfl, rfl, hnv, hb⟩ := hrel
        have HB := Lib.hid hb
        have HNV := Lib.hid hnv
        clear hb hnv
        by_cases hlt : i < l.length
        · obtain ⟨b, o, rfl, hbl, hrg⟩ := rows_range ntL_len (by decide) (HRR.out.below (HB.out.mono (Nat.le_refl _))) hlt
          obtain ⟨x, hx0⟩ : ∃ x, x = l[i] := ⟨_, rfl⟩
          have hxi := HIN.out _ (List.getElem_mem hlt)
          rw [← hx0] at hrg hxi
          have HX : Hid (∃ h : i < l.length, x = l[i]) := ⟨hlt, hx0⟩
          have hok1 : x.vc.oneCell' = true := hxi.vc.one
          have hok2 : x.vr.oneCell' = true := hxi.vr.one
          have HBL : Hid (b < w.heap.size) := reads_lt HRR.out (by omega) rfl
          have HRI := Lib.hid hrg
          clear hrg hx0 hbl hxi
          go_wp2_with fail
          apply share2 (S := fun g5 g6 W => Below w.heap.size w W ∧ Blk W g5 25 (calL x.n.call x.vc).toArray ∧ Blk W g6 32 (repL x.n.rep x.vr).toArray ∧ W.rangeAt b (o + i * 19) (ntL x))
          case walk =>
            refine PF.pf_begin (by kernel_rfl) ?_
            refine PF.pf_take0 0 (by kernel_rfl) rfl (fun _ _ _ _ _ h => h) (by kernel_rfl) (fun u => by go_simp; try rfl) ?_
            try simp only [Act.put, pz0, pz1, pz2]
            refine PF.pf_take0 1 (by kernel_rfl) rfl (fun _ _ _ _ _ h => h) (by kernel_rfl) (fun u => by go_simp; try rfl) ?_
            try simp only [Act.put, pz0, pz1, pz2]
            refine PF.pf_take0 2 (by kernel_rfl) rfl (fun _ _ _ _ _ h => h) (by kernel_rfl) (fun u => by go_simp; try rfl) ?_
            try simp only [Act.put, pz0, pz1, pz2]
            refine PF.pf_take0 3 (by kernel_rfl) rfl (fun _ _ _ _ _ h => h) (by kernel_rfl) (fun u => by go_simp; try rfl) ?_
            try simp only [Act.put, pz0, pz1, pz2]
            refine PF.pf_take1 4 ((fun u => u.rangeAt b (o + i * 19 + 1) (calL x.n.call x.vc))) (by kernel_rfl) rfl (fun _ _ _ _ _ h => h) (by kernel_rfl) ((nt_callA HRI.out)) (fun u hu => by (exact exec_load_rg rfl rfl hu Tryz.underlying25 rfl (infoj_call9 rfl))) ?_
            try simp only [Act.put, pz0, pz1, pz2]
            refine PF.pf_take0 5 (by kernel_rfl) rfl (fun _ _ _ _ _ h => h) (by kernel_rfl) (fun u => by go_simp; try rfl) ?_
            try simp only [Act.put, pz0, pz1, pz2]
            refine PF.pf_take0 6 (by kernel_rfl) rfl (fun _ _ _ _ _ h => h) (by kernel_rfl) (fun u => by go_simp; try rfl) ?_
            try simp only [Act.put, pz0, pz1, pz2]
            refine PF.pf_take0 7 (by kernel_rfl) rfl (fun _ _ _ _ _ h => h) (by kernel_rfl) (fun u => by go_simp; try rfl) ?_
            try simp only [Act.put, pz0, pz1, pz2]
            refine PF.pf_take0 8 (by kernel_rfl) rfl (fun _ _ _ _ _ h => h) (by kernel_rfl) (fun u => by go_simp; try rfl) ?_
            try simp only [Act.put, pz0, pz1, pz2]
            refine PF.pf_take1 9 ((fun u => u.rangeAt b (o + i * 19 + 10) (repL x.n.rep x.vr))) (by kernel_rfl) rfl (fun _ _ _ _ _ h => h) (by kernel_rfl) ((nt_repA HRI.out)) (fun u hu => by (exact exec_load_rg rfl rfl hu Tryz.underlying32 rfl (infoj_reply9 rfl))) ?_
            try simp only [Act.put, pz0, pz1, pz2]
            refine PF.pf_fork [10, 11] (by kernel_rfl) rfl (PF.fork_cons ?_ (PF.fork_cons ?_ PF.fork_nil))
            -- number 10 first
            · refine PF.step_one rfl (by kernel_rfl) (fun K hK => ?_)
              refine wp_alloc_blk rfl zero_call ?_
              intro g5 v10 e5 hB5 hb
              have hb := ((Below.refl wr.heap.size wr).drew).trans hb
              have HRI := Lib.hid (rg_below HRI.out hb)
              have HW := Lib.hid (HB.out.trans (hb.mono HB.out.size))
              have H5 := Lib.hid hB5
              have HE5 : Hid (w.heap.size ≤ g5) := by have h1 := HB.out.size; show _ ≤ _; rw [← e5]; exact h1
              clear e5 hB5 hb
              refine hK _ _ (by repeat (first | exact PF.owes_nil | refine PF.owes_left ?_ | refine PF.owes_no (by decide +kernel) ?_ | refine PF.owes_yes (by first | exact nt_callA HRI.out | exact nt_repA HRI.out) ?_)) ?_
              clear hK K
              try simp only [Act.put, pz0, pz1, pz2]
              refine PF.pf_exec 11 (by kernel_rfl) rfl (by kernel_rfl) (fun K hK => ?_)
              refine wp_alloc_blk rfl zero_reply ?_
              intro g6 v11 e6 hB6 hb
              have HRI := Lib.hid (rg_below HRI.out hb)
              have HN56 : Hid (g5 ≠ g6) := by have h1 := H5.out.lt; show _ ≠ _; omega
              have HE6 : Hid (w.heap.size ≤ g6) := by have h1 := HW.out.size; show _ ≤ _; rw [← e6]; exact h1
              have HW := Lib.hid (HW.out.trans (hb.mono HW.out.size))
              have H5 := Lib.hid (H5.out.below hb H5.out.lt)
              have H6 := Lib.hid hB6
              clear e6 hB6 hb
              refine hK _ _ (by repeat (first | exact PF.owes_nil | refine PF.owes_left ?_ | refine PF.owes_no (by decide +kernel) ?_ | refine PF.owes_yes (by first | exact nt_callA HRI.out | exact nt_repA HRI.out) ?_)) ?_
              clear hK K
              try simp only [Act.put, pz0, pz1, pz2]
              refine PF.pf_exec 12 (by kernel_rfl) rfl (by kernel_rfl) (fun K hK => ?_)
              refine wp_store_blk (cs := (calL x.n.call x.vc).toArray) rfl rfl rfl H5.out rfl (info_call rfl) (calL_one hok1) ?_
              intro v12 hB hm
              have HRI : Hid (v12.rangeAt b (o + i * 19) (ntL x)) := rg_mod HRI.out hm (fun e => by have := HE5.out; have := HBL.out; omega)
              have H6 := Lib.hid (H6.out.mod hm fun e => HN56.out e.symm)
              have HW := Lib.hid (HW.out.trans (hm.to_below HW.out.size fun b hb e => by have := HE5.out; omega))
              have H5 := Lib.hid hB
              clear hB hm
              refine hK _ _ (by repeat (first | exact PF.owes_nil | refine PF.owes_left ?_ | refine PF.owes_no (by decide +kernel) ?_ | refine PF.owes_yes (by first | exact nt_repA HRI.out | exact nt_callA HRI.out) ?_)) ?_
              clear hK K
              try simp only [Act.put, pz0, pz1, pz2]
              refine PF.pf_exec 13 (by kernel_rfl) rfl (by kernel_rfl) (fun K hK => ?_)
              refine wp_store_blk (cs := (repL x.n.rep x.vr).toArray) rfl rfl rfl H6.out rfl (info_reply rfl) (repL_one hok2) ?_
              intro v13 hB hm
              have HRI : Hid (v13.rangeAt b (o + i * 19) (ntL x)) := rg_mod HRI.out hm (fun e => by have := HE6.out; have := HBL.out; omega)
              have H5 := Lib.hid (H5.out.mod hm fun e => HN56.out e)
              have HW := Lib.hid (HW.out.trans (hm.to_below HW.out.size fun b hb e => by have := HE6.out; omega))
              have H6 := Lib.hid hB
              clear hB hm
              refine hK _ _ (by repeat (first | exact PF.owes_nil | refine PF.owes_left ?_ | refine PF.owes_no (by decide +kernel) ?_ | refine PF.owes_yes (by exact nt_repA HRI.out) ?_)) ?_
              clear hK K
              try simp only [Act.put, pz0, pz1, pz2]
              refine PF.pf_done (by kernel_rfl) ?_
              exact ⟨g5, g6, rfl, HW.out, H5.out, H6.out, HRI.out⟩
            -- number 11 first
            · refine PF.step_one rfl (by kernel_rfl) (fun K hK => ?_)
              refine wp_alloc_blk rfl zero_reply ?_
              intro g6 v11 e6 hB6 hb
              have hb := ((Below.refl wr.heap.size wr).drew).trans hb
              have HRI := Lib.hid (rg_below HRI.out hb)
              have HW := Lib.hid (HB.out.trans (hb.mono HB.out.size))
              have H6 := Lib.hid hB6
              have HE6 : Hid (w.heap.size ≤ g6) := by have h1 := HB.out.size; show _ ≤ _; rw [← e6]; exact h1
              clear e6 hB6 hb
              refine hK _ _ (by repeat (first | exact PF.owes_nil | refine PF.owes_left ?_ | refine PF.owes_no (by decide +kernel) ?_ | refine PF.owes_yes (by first | exact nt_callA HRI.out | exact nt_repA HRI.out) ?_)) ?_
              clear hK K
              try simp only [Act.put, pz0, pz1, pz2]
              refine PF.pf_exec 10 (by kernel_rfl) rfl (by kernel_rfl) (fun K hK => ?_)
              refine wp_alloc_blk rfl zero_call ?_
              intro g5 v10 e5 hB5 hb
              have HRI := Lib.hid (rg_below HRI.out hb)
              have HN56 : Hid (g5 ≠ g6) := by have h1 := H6.out.lt; show _ ≠ _; omega
              have HE5 : Hid (w.heap.size ≤ g5) := by have h1 := HW.out.size; show _ ≤ _; rw [← e5]; exact h1
              have HW := Lib.hid (HW.out.trans (hb.mono HW.out.size))
              have H6 := Lib.hid (H6.out.below hb H6.out.lt)
              have H5 := Lib.hid hB5
              clear e5 hB5 hb
              refine hK _ _ (by repeat (first | exact PF.owes_nil | refine PF.owes_left ?_ | refine PF.owes_no (by decide +kernel) ?_ | refine PF.owes_yes (by first | exact nt_callA HRI.out | exact nt_repA HRI.out) ?_)) ?_
              clear hK K
              try simp only [Act.put, pz0, pz1, pz2]
              refine PF.pf_exec 12 (by kernel_rfl) rfl (by kernel_rfl) (fun K hK => ?_)
              refine wp_store_blk (cs := (calL x.n.call x.vc).toArray) rfl rfl rfl H5.out rfl (info_call rfl) (calL_one hok1) ?_
              intro v12 hB hm
              have HRI : Hid (v12.rangeAt b (o + i * 19) (ntL x)) := rg_mod HRI.out hm (fun e => by have := HE5.out; have := HBL.out; omega)
              have H6 := Lib.hid (H6.out.mod hm fun e => HN56.out e.symm)
              have HW := Lib.hid (HW.out.trans (hm.to_below HW.out.size fun b hb e => by have := HE5.out; omega))
              have H5 := Lib.hid hB
              clear hB hm
              refine hK _ _ (by repeat (first | exact PF.owes_nil | refine PF.owes_left ?_ | refine PF.owes_no (by decide +kernel) ?_ | refine PF.owes_yes (by first | exact nt_repA HRI.out | exact nt_callA HRI.out) ?_)) ?_
              clear hK K
              try simp only [Act.put, pz0, pz1, pz2]
              refine PF.pf_exec 13 (by kernel_rfl) rfl (by kernel_rfl) (fun K hK => ?_)
              refine wp_store_blk (cs := (repL x.n.rep x.vr).toArray) rfl rfl rfl H6.out rfl (info_reply rfl) (repL_one hok2) ?_
              intro v13 hB hm
              have HRI : Hid (v13.rangeAt b (o + i * 19) (ntL x)) := rg_mod HRI.out hm (fun e => by have := HE6.out; have := HBL.out; omega)
              have H5 := Lib.hid (H5.out.mod hm fun e => HN56.out e)
              have HW := Lib.hid (HW.out.trans (hm.to_below HW.out.size fun b hb e => by have := HE6.out; omega))
              have H6 := Lib.hid hB
              clear hB hm
              refine hK _ _ (by repeat (first | exact PF.owes_nil | refine PF.owes_left ?_ | refine PF.owes_no (by decide +kernel) ?_ | refine PF.owes_yes (by exact nt_repA HRI.out) ?_)) ?_
              clear hK K
              try simp only [Act.put, pz0, pz1, pz2]
              refine PF.pf_done (by kernel_rfl) ?_
              exact ⟨g5, g6, rfl, HW.out, H5.out, H6.out, HRI.out⟩
          case rest =>
            as_aux_lemma =>
              intro g5 g6 W ⟨hW, hB5, hB6, hrgW⟩
              have HW := Lib.hid hW
              have H5 := Lib.hid hB5
              have H6 := Lib.hid hB6
              have q0 : W.cell? ⟨b, o + i * 19, none⟩ = some (.int .i64 x.n.kind) := nt_cell hrgW (j := 0) rfl
              have q1 := (hB5.cell 3).trans (rfl : _ = some (Value.int .i64 x.n.call.kind))
              have q2 := (hB6.cell 3).trans (rfl : _ = some (Value.int .i64 x.n.rep.res))
              clear hW hB5 hB6 hrgW
              by_cases hp1 : x.n.kind = 2
              · skip
                have p1 : (x.n.kind == 2) = true := beq_iff_eq.2 hp1
                have np1 : (x.n.kind != 2) = false := by simp only [bne, p1]; rfl
                have Hp1 := Lib.hid hp1
                clear hp1
                by_cases hp2 : x.n.call.kind = 1
                · skip
                  have p2 : (x.n.call.kind == 1) = true := beq_iff_eq.2 hp2
                  have np2 : (x.n.call.kind != 1) = false := by simp only [bne, p2]; rfl
                  have Hp2 := Lib.hid hp2
                  clear hp2
                  by_cases hp3 : x.n.rep.res = 0
                  · skip
                    have p3 : (x.n.rep.res == 0) = true := beq_iff_eq.2 hp3
                    have np3 : (x.n.rep.res != 0) = false := by simp only [bne, p3]; rfl
                    have Hp3 := Lib.hid hp3
                    clear hp3
                    have HPX : Hid (PubD x.n) := ⟨Hp1.out, Hp2.out, Hp3.out⟩
                    go_wp2_with fail
                    clear q0 q1 q2
                    go_loopw [3, 7] (fun nvv kv wk => ∃ (k : Nat) (nv : Bool), i + 1 ≤ k ∧ k ≤ l.length ∧ kv = .int .i64 k ∧ nvv = .bool nv ∧ (nv = true → NevA (l.map (·.n)) ∨ NevB (l.map (·.n))) ∧ Below w.heap.size w wk ∧ Blk wk g5 25 (calL x.n.call x.vc).toArray ∧ Blk wk g6 32 (repL x.n.rep x.vr).toArray) (fun _ k _ => l.length - (intOf k).toNat)
                    case atStart => exact ⟨i + 1, nv, by omega, by omega, by go_num, rfl, HNV.out, HW.out, H5.out, H6.out⟩
                    case round =>
                      obtain ⟨k, nv2, hik, hkl, rfl, rfl, hnv2, hbk, hB5, hB6⟩ := hrel
                      obtain ⟨wk, rfl⟩ : ∃ wo : World, wo = wr := ⟨_, rfl⟩
                      have HK := Lib.hid hbk
                      have HA5 := Lib.hid hB5
                      have HA6 := Lib.hid hB6
                      have HNV2 := Lib.hid hnv2
                      clear hbk hB5 hB6 hnv2 H5 H6 HW
                      by_cases hlk : k < l.length
                      · obtain ⟨b2, o2, e2, _, hrg⟩ := rows_range ntL_len (by decide) (HRR.out.below (HK.out.mono (Nat.le_refl _))) hlk
                        injection e2 with e2
                        injection e2 with e3 e4
                        subst e3 e4
                        obtain ⟨y, hy0⟩ : ∃ y, y = l[k] := ⟨_, rfl⟩
                        have hyi := HIN.out _ (List.getElem_mem hlk)
                        rw [← hy0] at hrg hyi
                        have HY : Hid (∃ h : k < l.length, y = l[k]) := ⟨hlk, hy0⟩
                        have hok3 : y.vc.oneCell' = true := hyi.vc.one
                        have hok4 : y.vr.oneCell' = true := hyi.vr.one
                        have HRI := Lib.hid hrg
                        clear hrg hy0 hyi
                        go_wp2_with fail
                        apply share2 (S := fun g8 g9 W => Below w.heap.size w W ∧ Blk W g8 25 (calL y.n.call y.vc).toArray ∧ Blk W g9 32 (repL y.n.rep y.vr).toArray ∧ Blk W g5 25 (calL x.n.call x.vc).toArray ∧ Blk W g6 32 (repL x.n.rep x.vr).toArray ∧ W.rangeAt b (o + k * 19) (ntL y))
                        case walk =>
                          refine PF.pf_begin (by kernel_rfl) ?_
                          refine PF.pf_take0 0 (by kernel_rfl) rfl (fun _ _ _ _ _ h => h) (by kernel_rfl) (fun u => by go_simp; try rfl) ?_
                          try simp only [Act.put, pz0, pz1, pz2]
                          refine PF.pf_take0 1 (by kernel_rfl) rfl (fun _ _ _ _ _ h => h) (by kernel_rfl) (fun u => by go_simp; try rfl) ?_
                          try simp only [Act.put, pz0, pz1, pz2]
                          refine PF.pf_take0 2 (by kernel_rfl) rfl (fun _ _ _ _ _ h => h) (by kernel_rfl) (fun u => by go_simp; try rfl) ?_
                          try simp only [Act.put, pz0, pz1, pz2]
                          refine PF.pf_take0 3 (by kernel_rfl) rfl (fun _ _ _ _ _ h => h) (by kernel_rfl) (fun u => by go_simp; try rfl) ?_
                          try simp only [Act.put, pz0, pz1, pz2]
                          refine PF.pf_take1 4 ((fun u => u.rangeAt b (o + k * 19 + 1) (calL y.n.call y.vc))) (by kernel_rfl) rfl (fun _ _ _ _ _ h => h) (by kernel_rfl) ((nt_callA HRI.out)) (fun u hu => by (exact exec_load_rg rfl rfl hu Tryz.underlying25 rfl (infoj_call9 rfl))) ?_
                          try simp only [Act.put, pz0, pz1, pz2]
                          refine PF.pf_take0 5 (by kernel_rfl) rfl (fun _ _ _ _ _ h => h) (by kernel_rfl) (fun u => by go_simp; try rfl) ?_
                          try simp only [Act.put, pz0, pz1, pz2]
                          refine PF.pf_take0 6 (by kernel_rfl) rfl (fun _ _ _ _ _ h => h) (by kernel_rfl) (fun u => by go_simp; try rfl) ?_
                          try simp only [Act.put, pz0, pz1, pz2]
                          refine PF.pf_take0 7 (by kernel_rfl) rfl (fun _ _ _ _ _ h => h) (by kernel_rfl) (fun u => by go_simp; try rfl) ?_
                          try simp only [Act.put, pz0, pz1, pz2]
                          refine PF.pf_take0 8 (by kernel_rfl) rfl (fun _ _ _ _ _ h => h) (by kernel_rfl) (fun u => by go_simp; try rfl) ?_
                          try simp only [Act.put, pz0, pz1, pz2]
                          refine PF.pf_take1 9 ((fun u => u.rangeAt b (o + k * 19 + 10) (repL y.n.rep y.vr))) (by kernel_rfl) rfl (fun _ _ _ _ _ h => h) (by kernel_rfl) ((nt_repA HRI.out)) (fun u hu => by (exact exec_load_rg rfl rfl hu Tryz.underlying32 rfl (infoj_reply9 rfl))) ?_
                          try simp only [Act.put, pz0, pz1, pz2]
                          refine PF.pf_fork [10, 11] (by kernel_rfl) rfl (PF.fork_cons ?_ (PF.fork_cons ?_ PF.fork_nil))
                          -- number 10 first
                          · refine PF.step_one rfl (by kernel_rfl) (fun K hK => ?_)
                            refine wp_alloc_blk rfl zero_call ?_
                            intro g8 v10 eg8 hB hb
                            have HNg8A : Hid (g8 ≠ g5 ∧ g8 ≠ g6) := by have h1 := HA5.out.lt; have h2 := HA6.out.lt; have h3 : wk.heap.size = g8 := eg8; show _ ∧ _; omega
                            have HEg8 : Hid (w.heap.size ≤ g8) := by have h1 := HK.out.size; show _ ≤ _; rw [← eg8]; exact h1
                            have hb := ((Below.refl wk.heap.size wk).drew).trans hb
                            have HA5 := Lib.hid (HA5.out.below hb HA5.out.lt)
                            have HA6 := Lib.hid (HA6.out.below hb HA6.out.lt)
                            have HRI := Lib.hid (rg_below HRI.out hb)
                            have HW := Lib.hid (HK.out.trans (hb.mono HK.out.size))
                            have Hg8 := Lib.hid hB
                            clear eg8 hB hb
                            refine hK _ _ (by repeat (first | exact PF.owes_nil | refine PF.owes_left ?_ | refine PF.owes_no (by decide +kernel) ?_ | refine PF.owes_yes (by first | exact nt_callA HRI.out | exact nt_repA HRI.out) ?_)) ?_
                            clear hK K
                            try simp only [Act.put, pz0, pz1, pz2]
                            refine PF.pf_exec 11 (by kernel_rfl) rfl (by kernel_rfl) (fun K hK => ?_)
                            refine wp_alloc_blk rfl zero_reply ?_
                            intro g9 v11 eg9 hB hb
                            have HNg9A : Hid (g9 ≠ g5 ∧ g9 ≠ g6) := by have h1 := HA5.out.lt; have h2 := HA6.out.lt; show _ ∧ _; omega
                            have HN89 : Hid (g8 ≠ g9) := by have h1 := Hg8.out.lt; show _ ≠ _; omega
                            have HEg9 : Hid (w.heap.size ≤ g9) := by have h1 := HW.out.size; show _ ≤ _; rw [← eg9]; exact h1
                            have HA5 := Lib.hid (HA5.out.below hb HA5.out.lt)
                            have HA6 := Lib.hid (HA6.out.below hb HA6.out.lt)
                            have HRI := Lib.hid (rg_below HRI.out hb)
                            have HW := Lib.hid (HW.out.trans (hb.mono HW.out.size))
                            have Hg8 := Lib.hid (Hg8.out.below hb Hg8.out.lt)
                            have Hg9 := Lib.hid hB
                            clear eg9 hB hb
                            refine hK _ _ (by repeat (first | exact PF.owes_nil | refine PF.owes_left ?_ | refine PF.owes_no (by decide +kernel) ?_ | refine PF.owes_yes (by first | exact nt_callA HRI.out | exact nt_repA HRI.out) ?_)) ?_
                            clear hK K
                            try simp only [Act.put, pz0, pz1, pz2]
                            refine PF.pf_exec 12 (by kernel_rfl) rfl (by kernel_rfl) (fun K hK => ?_)
                            refine wp_store_blk (cs := (calL y.n.call y.vc).toArray) rfl rfl rfl Hg8.out rfl (info_call rfl) (calL_one hok3) ?_
                            intro v12 hB hm
                            have HRI : Hid (v12.rangeAt b (o + k * 19) (ntL y)) := rg_mod HRI.out hm (fun e => by have := HEg8.out; have := HBL.out; omega)
                            have HA5 := Lib.hid (HA5.out.mod hm fun e => HNg8A.out.1 e.symm)
                            have HA6 := Lib.hid (HA6.out.mod hm fun e => HNg8A.out.2 e.symm)
                            have Hg9 := Lib.hid (Hg9.out.mod hm fun e => HN89.out e.symm)
                            have HW := Lib.hid (HW.out.trans (hm.to_below HW.out.size fun b hb e => by have := HEg8.out; omega))
                            have Hg8 := Lib.hid hB
                            clear hB hm
                            refine hK _ _ (by repeat (first | exact PF.owes_nil | refine PF.owes_left ?_ | refine PF.owes_no (by decide +kernel) ?_ | refine PF.owes_yes (by first | exact nt_callA HRI.out | exact nt_repA HRI.out) ?_)) ?_
                            clear hK K
                            try simp only [Act.put, pz0, pz1, pz2]
                            refine PF.pf_exec 13 (by kernel_rfl) rfl (by kernel_rfl) (fun K hK => ?_)
                            refine wp_store_blk (cs := (repL y.n.rep y.vr).toArray) rfl rfl rfl Hg9.out rfl (info_reply rfl) (repL_one hok4) ?_
                            intro v13 hB hm
                            have HRI : Hid (v13.rangeAt b (o + k * 19) (ntL y)) := rg_mod HRI.out hm (fun e => by have := HEg9.out; have := HBL.out; omega)
                            have HA5 := Lib.hid (HA5.out.mod hm fun e => HNg9A.out.1 e.symm)
                            have HA6 := Lib.hid (HA6.out.mod hm fun e => HNg9A.out.2 e.symm)
                            have Hg8 := Lib.hid (Hg8.out.mod hm fun e => HN89.out e)
                            have HW := Lib.hid (HW.out.trans (hm.to_below HW.out.size fun b hb e => by have := HEg9.out; omega))
                            have Hg9 := Lib.hid hB
                            clear hB hm
                            refine hK _ _ (by repeat (first | exact PF.owes_nil | refine PF.owes_left ?_ | refine PF.owes_no (by decide +kernel) ?_ | refine PF.owes_yes (by first | exact nt_callA HRI.out | exact nt_repA HRI.out) ?_)) ?_
                            clear hK K
                            try simp only [Act.put, pz0, pz1, pz2]
                            refine PF.pf_done (by kernel_rfl) ?_
                            exact ⟨g8, g9, rfl, HW.out, Hg8.out, Hg9.out, HA5.out, HA6.out, HRI.out⟩
                          -- number 11 first
                          · refine PF.step_one rfl (by kernel_rfl) (fun K hK => ?_)
                            refine wp_alloc_blk rfl zero_reply ?_
                            intro g9 v11 eg9 hB hb
                            have HNg9A : Hid (g9 ≠ g5 ∧ g9 ≠ g6) := by have h1 := HA5.out.lt; have h2 := HA6.out.lt; have h3 : wk.heap.size = g9 := eg9; show _ ∧ _; omega
                            have HEg9 : Hid (w.heap.size ≤ g9) := by have h1 := HK.out.size; show _ ≤ _; rw [← eg9]; exact h1
                            have hb := ((Below.refl wk.heap.size wk).drew).trans hb
                            have HA5 := Lib.hid (HA5.out.below hb HA5.out.lt)
                            have HA6 := Lib.hid (HA6.out.below hb HA6.out.lt)
                            have HRI := Lib.hid (rg_below HRI.out hb)
                            have HW := Lib.hid (HK.out.trans (hb.mono HK.out.size))
                            have Hg9 := Lib.hid hB
                            clear eg9 hB hb
                            refine hK _ _ (by repeat (first | exact PF.owes_nil | refine PF.owes_left ?_ | refine PF.owes_no (by decide +kernel) ?_ | refine PF.owes_yes (by first | exact nt_callA HRI.out | exact nt_repA HRI.out) ?_)) ?_
                            clear hK K
                            try simp only [Act.put, pz0, pz1, pz2]
                            refine PF.pf_exec 10 (by kernel_rfl) rfl (by kernel_rfl) (fun K hK => ?_)
                            refine wp_alloc_blk rfl zero_call ?_
                            intro g8 v10 eg8 hB hb
                            have HNg8A : Hid (g8 ≠ g5 ∧ g8 ≠ g6) := by have h1 := HA5.out.lt; have h2 := HA6.out.lt; show _ ∧ _; omega
                            have HN89 : Hid (g8 ≠ g9) := by have h1 := Hg9.out.lt; show _ ≠ _; omega
                            have HEg8 : Hid (w.heap.size ≤ g8) := by have h1 := HW.out.size; show _ ≤ _; rw [← eg8]; exact h1
                            have HA5 := Lib.hid (HA5.out.below hb HA5.out.lt)
                            have HA6 := Lib.hid (HA6.out.below hb HA6.out.lt)
                            have HRI := Lib.hid (rg_below HRI.out hb)
                            have HW := Lib.hid (HW.out.trans (hb.mono HW.out.size))
                            have Hg9 := Lib.hid (Hg9.out.below hb Hg9.out.lt)
                            have Hg8 := Lib.hid hB
                            clear eg8 hB hb
                            refine hK _ _ (by repeat (first | exact PF.owes_nil | refine PF.owes_left ?_ | refine PF.owes_no (by decide +kernel) ?_ | refine PF.owes_yes (by first | exact nt_callA HRI.out | exact nt_repA HRI.out) ?_)) ?_
                            clear hK K
                            try simp only [Act.put, pz0, pz1, pz2]
                            refine PF.pf_exec 12 (by kernel_rfl) rfl (by kernel_rfl) (fun K hK => ?_)
                            refine wp_store_blk (cs := (calL y.n.call y.vc).toArray) rfl rfl rfl Hg8.out rfl (info_call rfl) (calL_one hok3) ?_
                            intro v12 hB hm
                            have HRI : Hid (v12.rangeAt b (o + k * 19) (ntL y)) := rg_mod HRI.out hm (fun e => by have := HEg8.out; have := HBL.out; omega)
                            have HA5 := Lib.hid (HA5.out.mod hm fun e => HNg8A.out.1 e.symm)
                            have HA6 := Lib.hid (HA6.out.mod hm fun e => HNg8A.out.2 e.symm)
                            have Hg9 := Lib.hid (Hg9.out.mod hm fun e => HN89.out e.symm)
                            have HW := Lib.hid (HW.out.trans (hm.to_below HW.out.size fun b hb e => by have := HEg8.out; omega))
                            have Hg8 := Lib.hid hB
                            clear hB hm
                            refine hK _ _ (by repeat (first | exact PF.owes_nil | refine PF.owes_left ?_ | refine PF.owes_no (by decide +kernel) ?_ | refine PF.owes_yes (by first | exact nt_callA HRI.out | exact nt_repA HRI.out) ?_)) ?_
                            clear hK K
                            try simp only [Act.put, pz0, pz1, pz2]
                            refine PF.pf_exec 13 (by kernel_rfl) rfl (by kernel_rfl) (fun K hK => ?_)
                            refine wp_store_blk (cs := (repL y.n.rep y.vr).toArray) rfl rfl rfl Hg9.out rfl (info_reply rfl) (repL_one hok4) ?_
                            intro v13 hB hm
                            have HRI : Hid (v13.rangeAt b (o + k * 19) (ntL y)) := rg_mod HRI.out hm (fun e => by have := HEg9.out; have := HBL.out; omega)
                            have HA5 := Lib.hid (HA5.out.mod hm fun e => HNg9A.out.1 e.symm)
                            have HA6 := Lib.hid (HA6.out.mod hm fun e => HNg9A.out.2 e.symm)
                            have Hg8 := Lib.hid (Hg8.out.mod hm fun e => HN89.out e)
                            have HW := Lib.hid (HW.out.trans (hm.to_below HW.out.size fun b hb e => by have := HEg9.out; omega))
                            have Hg9 := Lib.hid hB
                            clear hB hm
                            refine hK _ _ (by repeat (first | exact PF.owes_nil | refine PF.owes_left ?_ | refine PF.owes_no (by decide +kernel) ?_ | refine PF.owes_yes (by first | exact nt_callA HRI.out | exact nt_repA HRI.out) ?_)) ?_
                            clear hK K
                            try simp only [Act.put, pz0, pz1, pz2]
                            refine PF.pf_done (by kernel_rfl) ?_
                            exact ⟨g8, g9, rfl, HW.out, Hg8.out, Hg9.out, HA5.out, HA6.out, HRI.out⟩
                        case rest =>
                          as_aux_lemma =>
                            intro g8 g9 W2 ⟨hW, hB8, hB9, hB5, hB6, hrgW⟩
                            have HW := Lib.hid hW
                            have H8 := Lib.hid hB8
                            have H5 := Lib.hid hB5
                            have H6 := Lib.hid hB6
                            have q0 : W2.cell? ⟨b, o + k * 19, none⟩ = some (.int .i64 y.n.kind) := nt_cell hrgW (j := 0) rfl
                            have a0 := (hB8.cell 0).trans (rfl : _ = some (Value.int .i64 y.n.call.cl))
                            have a3 := (hB8.cell 3).trans (rfl : _ = some (Value.int .i64 y.n.call.kind))
                            have a4 := (hB8.cell 4).trans (rfl : _ = some (Value.int .i64 y.n.call.ch))
                            have a6 := (hB8.cell 6).trans (rfl : _ = some (Value.int .u64 (y.n.call.seq : Int)))
                            have a7 := (hB8.cell 7).trans (rfl : _ = some (Value.int .u64 (y.n.call.at_ : Int)))
                            have b3 := (hB9.cell 3).trans (rfl : _ = some (Value.int .i64 y.n.rep.res))
                            have b4 := (hB9.cell 4).trans (rfl : _ = some (Value.int .u64 (y.n.rep.at_ : Int)))
                            have c0 := (hB5.cell 0).trans (rfl : _ = some (Value.int .i64 x.n.call.cl))
                            have c4 := (hB5.cell 4).trans (rfl : _ = some (Value.int .i64 x.n.call.ch))
                            have c6 := (hB5.cell 6).trans (rfl : _ = some (Value.int .u64 (x.n.call.seq : Int)))
                            have d4 := (hB6.cell 4).trans (rfl : _ = some (Value.int .u64 (x.n.rep.at_ : Int)))
                            clear hW hB8 hB9 hB5 hB6 hrgW
                            by_cases hch : y.n.call.ch = x.n.call.ch
                            · skip
                              have ch : (y.n.call.ch == x.n.call.ch) = true := beq_iff_eq.2 hch
                              have nch : (y.n.call.ch != x.n.call.ch) = false := by simp only [bne, ch]; rfl
                              have Hch := Lib.hid hch
                              clear hch
                              by_cases hkA : y.n.kind = 2
                              · skip
                                have kA : (y.n.kind == 2) = true := beq_iff_eq.2 hkA
                                have nkA : (y.n.kind != 2) = false := by simp only [bne, kA]; rfl
                                have kB : (y.n.kind == 1) = false := beq_eq_false_iff_ne.2 (by omega)
                                have HkA := Lib.hid hkA
                                clear hkA
                                by_cases hr1 : y.n.call.kind = 1
                                · skip
                                  have r1 : (y.n.call.kind == 1) = true := beq_iff_eq.2 hr1
                                  have nr1 : (y.n.call.kind != 1) = false := by simp only [bne, r1]; rfl
                                  have Hr1 := Lib.hid hr1
                                  clear hr1
                                  by_cases hr2 : y.n.rep.res = 0
                                  · skip
                                    have r2 : (y.n.rep.res == 0) = true := beq_iff_eq.2 hr2
                                    have nr2 : (y.n.rep.res != 0) = false := by simp only [bne, r2]; rfl
                                    have Hr2 := Lib.hid hr2
                                    clear hr2
                                    by_cases hr3 : y.n.rep.at_ = x.n.rep.at_
                                    · skip
                                      have r3 : (y.n.rep.at_ == x.n.rep.at_) = true := beq_iff_eq.2 hr3
                                      have ir3 : ((y.n.rep.at_ : Int) == (x.n.rep.at_ : Int)) = true := beq_iff_eq.2 (by omega)
                                      have nr3 : ((y.n.rep.at_ : Int) != (x.n.rep.at_ : Int)) = false := by simp only [bne, ir3]; rfl
                                      have Hr3 := Lib.hid hr3
                                      clear hr3
                                      by_cases hr4 : y.n.call.cl = x.n.call.cl
                                      · skip
                                        have r4 : (y.n.call.cl == x.n.call.cl) = true := beq_iff_eq.2 hr4
                                        have nr4 : (y.n.call.cl != x.n.call.cl) = false := by simp only [bne, r4]; rfl
                                        have Hr4 := Lib.hid hr4
                                        clear hr4
                                        by_cases hr5 : y.n.call.seq = x.n.call.seq
                                        · skip
                                          have r5 : (y.n.call.seq == x.n.call.seq) = true := beq_iff_eq.2 hr5
                                          have ir5 : ((y.n.call.seq : Int) == (x.n.call.seq : Int)) = true := beq_iff_eq.2 (by omega)
                                          have nr5 : ((y.n.call.seq : Int) != (x.n.call.seq : Int)) = false := by simp only [bne, ir5]; rfl
                                          clear hr5
                                          as_aux_lemma =>
                                            go_wp2_with fail
                                            go_roundw
                                            case rel => exact ⟨k + 1, nv2, by omega, by omega, by go_num, rfl, HNV2.out, HW.out, H5.out, H6.out⟩
                                            case measure => simp [intOf]; omega
                                        · skip
                                          have r5 : (y.n.call.seq == x.n.call.seq) = false := beq_eq_false_iff_ne.2 hr5
                                          have ir5 : ((y.n.call.seq : Int) == (x.n.call.seq : Int)) = false := beq_eq_false_iff_ne.2 (by omega)
                                          have nr5 : ((y.n.call.seq : Int) != (x.n.call.seq : Int)) = true := by simp only [bne, ir5]; rfl
                                          have Hr5 := Lib.hid hr5
                                          clear hr5
                                          as_aux_lemma =>
                                            go_wp2_with fail
                                            go_roundw
                                            case rel => exact ⟨k + 1, true, by omega, by omega, by go_num, rfl, (fun _ => .inl ⟨x.n, (by obtain ⟨h, e⟩ := HX.out; rw [e]; exact List.mem_map.2 ⟨_, List.getElem_mem h, rfl⟩), y.n, (by obtain ⟨h, e⟩ := HY.out; rw [e]; exact List.mem_map.2 ⟨_, List.getElem_mem h, rfl⟩), HPX.out, ⟨HkA.out, Hr1.out, Hr2.out⟩, Hch.out, Hr3.out, (fun h => Hr5.out h.2)⟩), HW.out, H5.out, H6.out⟩
                                            case measure => simp [intOf]; omega
                                      · skip
                                        have r4 : (y.n.call.cl == x.n.call.cl) = false := beq_eq_false_iff_ne.2 hr4
                                        have nr4 : (y.n.call.cl != x.n.call.cl) = true := by simp only [bne, r4]; rfl
                                        have Hr4 := Lib.hid hr4
                                        clear hr4
                                        as_aux_lemma =>
                                          go_wp2_with fail
                                          go_roundw
                                          case rel => exact ⟨k + 1, true, by omega, by omega, by go_num, rfl, (fun _ => .inl ⟨x.n, (by obtain ⟨h, e⟩ := HX.out; rw [e]; exact List.mem_map.2 ⟨_, List.getElem_mem h, rfl⟩), y.n, (by obtain ⟨h, e⟩ := HY.out; rw [e]; exact List.mem_map.2 ⟨_, List.getElem_mem h, rfl⟩), HPX.out, ⟨HkA.out, Hr1.out, Hr2.out⟩, Hch.out, Hr3.out, (fun h => Hr4.out h.1)⟩), HW.out, H5.out, H6.out⟩
                                          case measure => simp [intOf]; omega
                                    · skip
                                      have r3 : (y.n.rep.at_ == x.n.rep.at_) = false := beq_eq_false_iff_ne.2 hr3
                                      have ir3 : ((y.n.rep.at_ : Int) == (x.n.rep.at_ : Int)) = false := beq_eq_false_iff_ne.2 (by omega)
                                      have nr3 : ((y.n.rep.at_ : Int) != (x.n.rep.at_ : Int)) = true := by simp only [bne, ir3]; rfl
                                      clear hr3
                                      as_aux_lemma =>
                                        go_wp2_with fail
                                        go_roundw
                                        case rel => exact ⟨k + 1, nv2, by omega, by omega, by go_num, rfl, HNV2.out, HW.out, H5.out, H6.out⟩
                                        case measure => simp [intOf]; omega
                                  · skip
                                    have r2 : (y.n.rep.res == 0) = false := beq_eq_false_iff_ne.2 hr2
                                    have nr2 : (y.n.rep.res != 0) = true := by simp only [bne, r2]; rfl
                                    clear hr2
                                    as_aux_lemma =>
                                      go_wp2_with fail
                                      go_roundw
                                      case rel => exact ⟨k + 1, nv2, by omega, by omega, by go_num, rfl, HNV2.out, HW.out, H5.out, H6.out⟩
                                      case measure => simp [intOf]; omega
                                · skip
                                  have r1 : (y.n.call.kind == 1) = false := beq_eq_false_iff_ne.2 hr1
                                  have nr1 : (y.n.call.kind != 1) = true := by simp only [bne, r1]; rfl
                                  clear hr1
                                  as_aux_lemma =>
                                    go_wp2_with fail
                                    go_roundw
                                    case rel => exact ⟨k + 1, nv2, by omega, by omega, by go_num, rfl, HNV2.out, HW.out, H5.out, H6.out⟩
                                    case measure => simp [intOf]; omega
                              · skip
                                have kA : (y.n.kind == 2) = false := beq_eq_false_iff_ne.2 hkA
                                have nkA : (y.n.kind != 2) = true := by simp only [bne, kA]; rfl
                                clear hkA
                                by_cases hkB : y.n.kind = 1
                                · skip
                                  have kB : (y.n.kind == 1) = true := beq_iff_eq.2 hkB
                                  have nkB : (y.n.kind != 1) = false := by simp only [bne, kB]; rfl
                                  have HkB := Lib.hid hkB
                                  clear hkB
                                  by_cases hs1 : y.n.call.kind = 2
                                  · skip
                                    have s1 : (y.n.call.kind == 2) = true := beq_iff_eq.2 hs1
                                    have ns1 : (y.n.call.kind != 2) = false := by simp only [bne, s1]; rfl
                                    have Hs1 := Lib.hid hs1
                                    clear hs1
                                    by_cases hs2 : y.n.call.at_ = x.n.rep.at_
                                    · skip
                                      have s2 : (y.n.call.at_ == x.n.rep.at_) = true := beq_iff_eq.2 hs2
                                      have is2 : ((y.n.call.at_ : Int) == (x.n.rep.at_ : Int)) = true := beq_iff_eq.2 (by omega)
                                      have ns2 : ((y.n.call.at_ : Int) != (x.n.rep.at_ : Int)) = false := by simp only [bne, is2]; rfl
                                      have Hs2 := Lib.hid hs2
                                      clear hs2
                                      as_aux_lemma =>
                                        have Hs8 := H8
                                        go_wp2_with fail
                                        clear a0 a3 a4 a6 a7 b3 b4 c0 c4 c6 d4 q0
                                        go_loopw [3, 10] (fun nvv jv wj => ∃ (j : Nat) (nv : Bool), k + 1 ≤ j ∧ j ≤ l.length ∧ jv = .int .i64 j ∧ nvv = .bool nv ∧ (nv = true → NevA (l.map (·.n)) ∨ NevB (l.map (·.n))) ∧ Below w.heap.size w wj ∧ Blk wj g8 25 (calL y.n.call y.vc).toArray ∧ Blk wj g5 25 (calL x.n.call x.vc).toArray ∧ Blk wj g6 32 (repL x.n.rep x.vr).toArray) (fun _ j _ => l.length - (intOf j).toNat)
                                        case atStart => exact ⟨k + 1, nv2, by omega, by omega, by go_num, rfl, HNV2.out, HW.out, H8.out, H5.out, H6.out⟩
                                        case round =>
                                          obtain ⟨j, nv3, hkj, hjl, rfl, rfl, hnv3, hbj, hB8, hB5, hB6⟩ := hrel
                                          obtain ⟨wj, rfl⟩ : ∃ wo : World, wo = wr := ⟨_, rfl⟩
                                          have HJ := Lib.hid hbj
                                          have HC8 := Lib.hid hB8
                                          have HC5 := Lib.hid hB5
                                          have HC6 := Lib.hid hB6
                                          have HNV3 := Lib.hid hnv3
                                          have u0 := (hB8.cell 0).trans (rfl : _ = some (Value.int .i64 y.n.call.cl))
                                          have u1 := (hB8.cell 1).trans (rfl : _ = some (Value.int .u64 (y.n.call.inc : Int)))
                                          have u2 := (hB8.cell 2).trans (rfl : _ = some (Value.int .u64 (y.n.call.n : Int)))
                                          clear hbj hB8 hB5 hB6 hnv3 H8 H5 H6 HW
                                          by_cases hlj : j < l.length
                                          · obtain ⟨b3, o3, e3, _, hrg⟩ := rows_range ntL_len (by decide) (HRR.out.below (HJ.out.mono (Nat.le_refl _))) hlj
                                            injection e3 with e3
                                            injection e3 with e4 e5
                                            subst e4 e5
                                            obtain ⟨z, hz0⟩ : ∃ z, z = l[j] := ⟨_, rfl⟩
                                            rw [← hz0] at hrg
                                            have HZ : Hid (∃ h : j < l.length, z = l[j]) := ⟨hlj, hz0⟩
                                            have t0 : wj.cell? ⟨b, o + j * 19, none⟩ = some (.int .i64 z.n.kind) := nt_cell hrg (j := 0) rfl
                                            have t1 : wj.cell? ⟨b, o + j * 19 + 1, none⟩ = some (.int .i64 z.n.call.cl) := nt_cell hrg (j := 1) rfl
                                            have t2 : wj.cell? ⟨b, o + j * 19 + 2, none⟩ = some (.int .u64 (z.n.call.inc : Int)) := nt_cell hrg (j := 2) rfl
                                            have t3 : wj.cell? ⟨b, o + j * 19 + 3, none⟩ = some (.int .u64 (z.n.call.n : Int)) := nt_cell hrg (j := 3) rfl
                                            have t13 : wj.cell? ⟨b, o + j * 19 + 13, none⟩ = some (.int .i64 z.n.rep.res) := nt_cell hrg (j := 13) rfl
                                            clear hrg hz0
                                            by_cases hz0 : z.n.kind = 2
                                            · skip
                                              have z0 : (z.n.kind == 2) = true := beq_iff_eq.2 hz0
                                              have nz0 : (z.n.kind != 2) = false := by simp only [bne, z0]; rfl
                                              have Hz0 := Lib.hid hz0
                                              clear hz0
                                              by_cases hz1 : z.n.call.cl = y.n.call.cl
                                              · skip
                                                have z1 : (z.n.call.cl == y.n.call.cl) = true := beq_iff_eq.2 hz1
                                                have nz1 : (z.n.call.cl != y.n.call.cl) = false := by simp only [bne, z1]; rfl
                                                have Hz1 := Lib.hid hz1
                                                clear hz1
                                                by_cases hz2 : z.n.call.inc = y.n.call.inc
                                                · skip
                                                  have z2 : (z.n.call.inc == y.n.call.inc) = true := beq_iff_eq.2 hz2
                                                  have iz2 : ((z.n.call.inc : Int) == (y.n.call.inc : Int)) = true := beq_iff_eq.2 (by omega)
                                                  have nz2 : ((z.n.call.inc : Int) != (y.n.call.inc : Int)) = false := by simp only [bne, iz2]; rfl
                                                  have Hz2 := Lib.hid hz2
                                                  clear hz2
                                                  by_cases hz3 : z.n.call.n = y.n.call.n
                                                  · skip
                                                    have z3 : (z.n.call.n == y.n.call.n) = true := beq_iff_eq.2 hz3
                                                    have iz3 : ((z.n.call.n : Int) == (y.n.call.n : Int)) = true := beq_iff_eq.2 (by omega)
                                                    have nz3 : ((z.n.call.n : Int) != (y.n.call.n : Int)) = false := by simp only [bne, iz3]; rfl
                                                    have Hz3 := Lib.hid hz3
                                                    clear hz3
                                                    by_cases hz4 : z.n.rep.res = 7
                                                    · skip
                                                      have z4 : (z.n.rep.res == 7) = true := beq_iff_eq.2 hz4
                                                      have nz4 : (z.n.rep.res != 7) = false := by simp only [bne, z4]; rfl
                                                      have Hz4 := Lib.hid hz4
                                                      clear hz4
                                                      as_aux_lemma =>
                                                        go_wp2_with fail
                                                        refine PF.pf_begin (by kernel_rfl) ?_
                                                        refine PF.pf_take0 0 (by kernel_rfl) rfl (fun _ _ _ _ _ h => h) (by kernel_rfl) (fun u => by go_simp; try rfl) ?_
                                                        try simp only [Act.put, pz0, pz1, pz2]
                                                        refine PF.pf_take0 1 (by kernel_rfl) rfl (fun _ _ _ _ _ h => h) (by kernel_rfl) (fun u => by go_simp; try rfl) ?_
                                                        try simp only [Act.put, pz0, pz1, pz2]
                                                        refine PF.pf_take0 2 (by kernel_rfl) rfl (fun _ _ _ _ _ h => h) (by kernel_rfl) (fun u => by go_simp; try rfl) ?_
                                                        try simp only [Act.put, pz0, pz1, pz2]
                                                        refine PF.pf_take0 3 (by kernel_rfl) rfl (fun _ _ _ _ _ h => h) (by kernel_rfl) (fun u => by go_simp; try rfl) ?_
                                                        try simp only [Act.put, pz0, pz1, pz2]
                                                        refine PF.pf_take1 4 (PF.Same (b) _) (by kernel_rfl) rfl (fun _ _ _ _ _ h => h) (by kernel_rfl) (PF.Same.refl _ _) (fun u hu => by have hcu := hu.cell; go_simp; try rfl) ?_
                                                        try simp only [Act.put, pz0, pz1, pz2]
                                                        refine PF.pf_take0 5 (by kernel_rfl) rfl (fun _ _ _ _ _ h => h) (by kernel_rfl) (fun u => by go_simp; try rfl) ?_
                                                        try simp only [Act.put, pz0, pz1, pz2]
                                                        refine PF.pf_take0 6 (by kernel_rfl) rfl (fun _ _ _ _ _ h => h) (by kernel_rfl) (fun u => by go_simp; try rfl) ?_
                                                        try simp only [Act.put, pz0, pz1, pz2]
                                                        refine PF.pf_take0 7 (by kernel_rfl) rfl (fun _ _ _ _ _ h => h) (by kernel_rfl) (fun u => by go_simp; try rfl) ?_
                                                        try simp only [Act.put, pz0, pz1, pz2]
                                                        refine PF.pf_take0 8 (by kernel_rfl) rfl (fun _ _ _ _ _ h => h) (by kernel_rfl) (fun u => by go_simp; try rfl) ?_
                                                        try simp only [Act.put, pz0, pz1, pz2]
                                                        refine PF.pf_take0 9 (by kernel_rfl) rfl (fun _ _ _ _ _ h => h) (by kernel_rfl) (fun u => by go_simp; try rfl) ?_
                                                        try simp only [Act.put, pz0, pz1, pz2]
                                                        refine PF.pf_take0 10 (by kernel_rfl) rfl (fun _ _ _ _ _ h => h) (by kernel_rfl) (fun u => by go_simp; try rfl) ?_
                                                        try simp only [Act.put, pz0, pz1, pz2]
                                                        refine PF.pf_take0 11 (by kernel_rfl) rfl (fun _ _ _ _ _ h => h) (by kernel_rfl) (fun u => by go_simp; try rfl) ?_
                                                        try simp only [Act.put, pz0, pz1, pz2]
                                                        refine PF.pf_take1 12 (PF.Same (b) _) (by kernel_rfl) rfl (fun _ _ _ _ _ h => h) (by kernel_rfl) (PF.Same.refl _ _) (fun u hu => by have hcu := hu.cell; go_simp; try rfl) ?_
                                                        try simp only [Act.put, pz0, pz1, pz2]
                                                        refine PF.pf_take0 13 (by kernel_rfl) rfl (fun _ _ _ _ _ h => h) (by kernel_rfl) (fun u => by go_simp; try rfl) ?_
                                                        try simp only [Act.put, pz0, pz1, pz2]
                                                        refine PF.pf_take1 14 (PF.Same (g8) _) (by kernel_rfl) rfl (fun _ _ _ _ _ h => h) (by kernel_rfl) (PF.Same.refl _ _) (fun u hu => by have hcu := hu.cell; go_simp; try rfl) ?_
                                                        try simp only [Act.put, pz0, pz1, pz2]
                                                        refine PF.pf_take0 15 (by kernel_rfl) rfl (fun _ _ _ _ _ h => h) (by kernel_rfl) (fun u => by go_simp; try rfl) ?_
                                                        try simp only [Act.put, pz0, pz1, pz2]
                                                        refine PF.pf_take0 16 (by kernel_rfl) rfl (fun _ _ _ _ _ h => h) (by kernel_rfl) (fun u => by go_simp; try rfl) ?_
                                                        try simp only [Act.put, pz0, pz1, pz2]
                                                        refine PF.pf_take0 17 (by kernel_rfl) rfl (fun _ _ _ _ _ h => h) (by kernel_rfl) (fun u => by go_simp; try rfl) ?_
                                                        try simp only [Act.put, pz0, pz1, pz2]
                                                        refine PF.pf_take0 18 (by kernel_rfl) rfl (fun _ _ _ _ _ h => h) (by kernel_rfl) (fun u => by go_simp; try rfl) ?_
                                                        try simp only [Act.put, pz0, pz1, pz2]
                                                        refine PF.pf_take0 19 (by kernel_rfl) rfl (fun _ _ _ _ _ h => h) (by kernel_rfl) (fun u => by go_simp; try rfl) ?_
                                                        try simp only [Act.put, pz0, pz1, pz2]
                                                        refine PF.pf_take0 20 (by kernel_rfl) rfl (fun _ _ _ _ _ h => h) (by kernel_rfl) (fun u => by go_simp; try rfl) ?_
                                                        try simp only [Act.put, pz0, pz1, pz2]
                                                        refine PF.pf_take0 21 (by kernel_rfl) rfl (fun _ _ _ _ _ h => h) (by kernel_rfl) (fun u => by go_simp; try rfl) ?_
                                                        try simp only [Act.put, pz0, pz1, pz2]
                                                        refine PF.pf_take0 22 (by kernel_rfl) rfl (fun _ _ _ _ _ h => h) (by kernel_rfl) (fun u => by go_simp; try rfl) ?_
                                                        try simp only [Act.put, pz0, pz1, pz2]
                                                        refine PF.pf_take1 23 (PF.Same (b) _) (by kernel_rfl) rfl (fun _ _ _ _ _ h => h) (by kernel_rfl) (PF.Same.refl _ _) (fun u hu => by have hcu := hu.cell; go_simp; try rfl) ?_
                                                        try simp only [Act.put, pz0, pz1, pz2]
                                                        refine PF.pf_take0 24 (by kernel_rfl) rfl (fun _ _ _ _ _ h => h) (by kernel_rfl) (fun u => by go_simp; try rfl) ?_
                                                        try simp only [Act.put, pz0, pz1, pz2]
                                                        refine PF.pf_take1 25 (PF.Same (g8) _) (by kernel_rfl) rfl (fun _ _ _ _ _ h => h) (by kernel_rfl) (PF.Same.refl _ _) (fun u hu => by have hcu := hu.cell; go_simp; try rfl) ?_
                                                        try simp only [Act.put, pz0, pz1, pz2]
                                                        refine PF.pf_take0 26 (by kernel_rfl) rfl (fun _ _ _ _ _ h => h) (by kernel_rfl) (fun u => by go_simp; try rfl) ?_
                                                        try simp only [Act.put, pz0, pz1, pz2]
                                                        refine PF.pf_take0 27 (by kernel_rfl) rfl (fun _ _ _ _ _ h => h) (by kernel_rfl) (fun u => by go_simp; try rfl) ?_
                                                        try simp only [Act.put, pz0, pz1, pz2]
                                                        refine PF.pf_take0 28 (by kernel_rfl) rfl (fun _ _ _ _ _ h => h) (by kernel_rfl) (fun u => by go_simp; try rfl) ?_
                                                        try simp only [Act.put, pz0, pz1, pz2]
                                                        refine PF.pf_take0 29 (by kernel_rfl) rfl (fun _ _ _ _ _ h => h) (by kernel_rfl) (fun u => by go_simp; try rfl) ?_
                                                        try simp only [Act.put, pz0, pz1, pz2]
                                                        refine PF.pf_take0 30 (by kernel_rfl) rfl (fun _ _ _ _ _ h => h) (by kernel_rfl) (fun u => by go_simp; try rfl) ?_
                                                        try simp only [Act.put, pz0, pz1, pz2]
                                                        refine PF.pf_take0 31 (by kernel_rfl) rfl (fun _ _ _ _ _ h => h) (by kernel_rfl) (fun u => by go_simp; try rfl) ?_
                                                        try simp only [Act.put, pz0, pz1, pz2]
                                                        refine PF.pf_take0 32 (by kernel_rfl) rfl (fun _ _ _ _ _ h => h) (by kernel_rfl) (fun u => by go_simp; try rfl) ?_
                                                        try simp only [Act.put, pz0, pz1, pz2]
                                                        refine PF.pf_take0 33 (by kernel_rfl) rfl (fun _ _ _ _ _ h => h) (by kernel_rfl) (fun u => by go_simp; try rfl) ?_
                                                        try simp only [Act.put, pz0, pz1, pz2]
                                                        refine PF.pf_take1 34 (PF.Same (b) _) (by kernel_rfl) rfl (fun _ _ _ _ _ h => h) (by kernel_rfl) (PF.Same.refl _ _) (fun u hu => by have hcu := hu.cell; go_simp; try rfl) ?_
                                                        try simp only [Act.put, pz0, pz1, pz2]
                                                        refine PF.pf_take0 35 (by kernel_rfl) rfl (fun _ _ _ _ _ h => h) (by kernel_rfl) (fun u => by go_simp; try rfl) ?_
                                                        try simp only [Act.put, pz0, pz1, pz2]
                                                        refine PF.pf_take1 36 (PF.Same (g8) _) (by kernel_rfl) rfl (fun _ _ _ _ _ h => h) (by kernel_rfl) (PF.Same.refl _ _) (fun u hu => by have hcu := hu.cell; go_simp; try rfl) ?_
                                                        try simp only [Act.put, pz0, pz1, pz2]
                                                        refine PF.pf_take0 37 (by kernel_rfl) rfl (fun _ _ _ _ _ h => h) (by kernel_rfl) (fun u => by go_simp; try rfl) ?_
                                                        try simp only [Act.put, pz0, pz1, pz2]
                                                        refine PF.pf_take0 38 (by kernel_rfl) rfl (fun _ _ _ _ _ h => h) (by kernel_rfl) (fun u => by go_simp; try rfl) ?_
                                                        try simp only [Act.put, pz0, pz1, pz2]
                                                        refine PF.pf_take0 39 (by kernel_rfl) rfl (fun _ _ _ _ _ h => h) (by kernel_rfl) (fun u => by go_simp; try rfl) ?_
                                                        try simp only [Act.put, pz0, pz1, pz2]
                                                        refine PF.pf_take0 40 (by kernel_rfl) rfl (fun _ _ _ _ _ h => h) (by kernel_rfl) (fun u => by go_simp; try rfl) ?_
                                                        try simp only [Act.put, pz0, pz1, pz2]
                                                        refine PF.pf_take0 41 (by kernel_rfl) rfl (fun _ _ _ _ _ h => h) (by kernel_rfl) (fun u => by go_simp; try rfl) ?_
                                                        try simp only [Act.put, pz0, pz1, pz2]
                                                        refine PF.pf_take0 42 (by kernel_rfl) rfl (fun _ _ _ _ _ h => h) (by kernel_rfl) (fun u => by go_simp; try rfl) ?_
                                                        try simp only [Act.put, pz0, pz1, pz2]
                                                        refine PF.pf_take0 43 (by kernel_rfl) rfl (fun _ _ _ _ _ h => h) (by kernel_rfl) (fun u => by go_simp; try rfl) ?_
                                                        try simp only [Act.put, pz0, pz1, pz2]
                                                        refine PF.pf_take0 44 (by kernel_rfl) rfl (fun _ _ _ _ _ h => h) (by kernel_rfl) (fun u => by go_simp; try rfl) ?_
                                                        try simp only [Act.put, pz0, pz1, pz2]
                                                        refine PF.pf_take1 45 (PF.Same (b) _) (by kernel_rfl) rfl (fun _ _ _ _ _ h => h) (by kernel_rfl) (PF.Same.refl _ _) (fun u hu => by have hcu := hu.cell; go_simp; try rfl) ?_
                                                        try simp only [Act.put, pz0, pz1, pz2]
                                                        refine PF.pf_take0 46 (by kernel_rfl) rfl (fun _ _ _ _ _ h => h) (by kernel_rfl) (fun u => by go_simp; try rfl) ?_
                                                        try simp only [Act.put, pz0, pz1, pz2]
                                                        refine PF.pf_take0 47 (by kernel_rfl) rfl (fun _ _ _ _ _ h => h) (by kernel_rfl) (fun u => by go_simp; try rfl) ?_
                                                        try simp only [Act.put, pz0, pz1, pz2]
                                                        refine PF.pf_done (by kernel_rfl) ?_
                                                        go_wp2_with fail
                                                        go_roundw
                                                        case rel => exact ⟨j + 1, true, by omega, by omega, by go_num, rfl, (fun _ => .inr (nevB_of HX.out HY.out HZ.out (by omega) (by omega) HPX.out HkB.out Hs1.out Hch.out Hs2.out Hz0.out (by unfold idOf; rw [Hz1.out, Hz2.out, Hz3.out]) Hz4.out)), (by have := HJ.out; first | exact this | exact this.drew), HC8.out, HC5.out, HC6.out⟩
                                                        case measure => simp [intOf]; omega
                                                    · skip
                                                      have z4 : (z.n.rep.res == 7) = false := beq_eq_false_iff_ne.2 hz4
                                                      have nz4 : (z.n.rep.res != 7) = true := by simp only [bne, z4]; rfl
                                                      clear hz4
                                                      as_aux_lemma =>
                                                        go_wp2_with fail
                                                        refine PF.pf_begin (by kernel_rfl) ?_
                                                        refine PF.pf_take0 0 (by kernel_rfl) rfl (fun _ _ _ _ _ h => h) (by kernel_rfl) (fun u => by go_simp; try rfl) ?_
                                                        try simp only [Act.put, pz0, pz1, pz2]
                                                        refine PF.pf_take0 1 (by kernel_rfl) rfl (fun _ _ _ _ _ h => h) (by kernel_rfl) (fun u => by go_simp; try rfl) ?_
                                                        try simp only [Act.put, pz0, pz1, pz2]
                                                        refine PF.pf_take0 2 (by kernel_rfl) rfl (fun _ _ _ _ _ h => h) (by kernel_rfl) (fun u => by go_simp; try rfl) ?_
                                                        try simp only [Act.put, pz0, pz1, pz2]
                                                        refine PF.pf_take0 3 (by kernel_rfl) rfl (fun _ _ _ _ _ h => h) (by kernel_rfl) (fun u => by go_simp; try rfl) ?_
                                                        try simp only [Act.put, pz0, pz1, pz2]
                                                        refine PF.pf_take1 4 (PF.Same (b) _) (by kernel_rfl) rfl (fun _ _ _ _ _ h => h) (by kernel_rfl) (PF.Same.refl _ _) (fun u hu => by have hcu := hu.cell; go_simp; try rfl) ?_
                                                        try simp only [Act.put, pz0, pz1, pz2]
                                                        refine PF.pf_take0 5 (by kernel_rfl) rfl (fun _ _ _ _ _ h => h) (by kernel_rfl) (fun u => by go_simp; try rfl) ?_
                                                        try simp only [Act.put, pz0, pz1, pz2]
                                                        refine PF.pf_take0 6 (by kernel_rfl) rfl (fun _ _ _ _ _ h => h) (by kernel_rfl) (fun u => by go_simp; try rfl) ?_
                                                        try simp only [Act.put, pz0, pz1, pz2]
                                                        refine PF.pf_take0 7 (by kernel_rfl) rfl (fun _ _ _ _ _ h => h) (by kernel_rfl) (fun u => by go_simp; try rfl) ?_
                                                        try simp only [Act.put, pz0, pz1, pz2]
                                                        refine PF.pf_take0 8 (by kernel_rfl) rfl (fun _ _ _ _ _ h => h) (by kernel_rfl) (fun u => by go_simp; try rfl) ?_
                                                        try simp only [Act.put, pz0, pz1, pz2]
                                                        refine PF.pf_take0 9 (by kernel_rfl) rfl (fun _ _ _ _ _ h => h) (by kernel_rfl) (fun u => by go_simp; try rfl) ?_
                                                        try simp only [Act.put, pz0, pz1, pz2]
                                                        refine PF.pf_take0 10 (by kernel_rfl) rfl (fun _ _ _ _ _ h => h) (by kernel_rfl) (fun u => by go_simp; try rfl) ?_
                                                        try simp only [Act.put, pz0, pz1, pz2]
                                                        refine PF.pf_take0 11 (by kernel_rfl) rfl (fun _ _ _ _ _ h => h) (by kernel_rfl) (fun u => by go_simp; try rfl) ?_
                                                        try simp only [Act.put, pz0, pz1, pz2]
                                                        refine PF.pf_take1 12 (PF.Same (b) _) (by kernel_rfl) rfl (fun _ _ _ _ _ h => h) (by kernel_rfl) (PF.Same.refl _ _) (fun u hu => by have hcu := hu.cell; go_simp; try rfl) ?_
                                                        try simp only [Act.put, pz0, pz1, pz2]
                                                        refine PF.pf_take0 13 (by kernel_rfl) rfl (fun _ _ _ _ _ h => h) (by kernel_rfl) (fun u => by go_simp; try rfl) ?_
                                                        try simp only [Act.put, pz0, pz1, pz2]
                                                        refine PF.pf_take1 14 (PF.Same (g8) _) (by kernel_rfl) rfl (fun _ _ _ _ _ h => h) (by kernel_rfl) (PF.Same.refl _ _) (fun u hu => by have hcu := hu.cell; go_simp; try rfl) ?_
                                                        try simp only [Act.put, pz0, pz1, pz2]
                                                        refine PF.pf_take0 15 (by kernel_rfl) rfl (fun _ _ _ _ _ h => h) (by kernel_rfl) (fun u => by go_simp; try rfl) ?_
                                                        try simp only [Act.put, pz0, pz1, pz2]
                                                        refine PF.pf_take0 16 (by kernel_rfl) rfl (fun _ _ _ _ _ h => h) (by kernel_rfl) (fun u => by go_simp; try rfl) ?_
                                                        try simp only [Act.put, pz0, pz1, pz2]
                                                        refine PF.pf_take0 17 (by kernel_rfl) rfl (fun _ _ _ _ _ h => h) (by kernel_rfl) (fun u => by go_simp; try rfl) ?_
                                                        try simp only [Act.put, pz0, pz1, pz2]
                                                        refine PF.pf_take0 18 (by kernel_rfl) rfl (fun _ _ _ _ _ h => h) (by kernel_rfl) (fun u => by go_simp; try rfl) ?_
                                                        try simp only [Act.put, pz0, pz1, pz2]
                                                        refine PF.pf_take0 19 (by kernel_rfl) rfl (fun _ _ _ _ _ h => h) (by kernel_rfl) (fun u => by go_simp; try rfl) ?_
                                                        try simp only [Act.put, pz0, pz1, pz2]
                                                        refine PF.pf_take0 20 (by kernel_rfl) rfl (fun _ _ _ _ _ h => h) (by kernel_rfl) (fun u => by go_simp; try rfl) ?_
                                                        try simp only [Act.put, pz0, pz1, pz2]
                                                        refine PF.pf_take0 21 (by kernel_rfl) rfl (fun _ _ _ _ _ h => h) (by kernel_rfl) (fun u => by go_simp; try rfl) ?_
                                                        try simp only [Act.put, pz0, pz1, pz2]
                                                        refine PF.pf_take0 22 (by kernel_rfl) rfl (fun _ _ _ _ _ h => h) (by kernel_rfl) (fun u => by go_simp; try rfl) ?_
                                                        try simp only [Act.put, pz0, pz1, pz2]
                                                        refine PF.pf_take1 23 (PF.Same (b) _) (by kernel_rfl) rfl (fun _ _ _ _ _ h => h) (by kernel_rfl) (PF.Same.refl _ _) (fun u hu => by have hcu := hu.cell; go_simp; try rfl) ?_
                                                        try simp only [Act.put, pz0, pz1, pz2]
                                                        refine PF.pf_take0 24 (by kernel_rfl) rfl (fun _ _ _ _ _ h => h) (by kernel_rfl) (fun u => by go_simp; try rfl) ?_
                                                        try simp only [Act.put, pz0, pz1, pz2]
                                                        refine PF.pf_take1 25 (PF.Same (g8) _) (by kernel_rfl) rfl (fun _ _ _ _ _ h => h) (by kernel_rfl) (PF.Same.refl _ _) (fun u hu => by have hcu := hu.cell; go_simp; try rfl) ?_
                                                        try simp only [Act.put, pz0, pz1, pz2]
                                                        refine PF.pf_take0 26 (by kernel_rfl) rfl (fun _ _ _ _ _ h => h) (by kernel_rfl) (fun u => by go_simp; try rfl) ?_
                                                        try simp only [Act.put, pz0, pz1, pz2]
                                                        refine PF.pf_take0 27 (by kernel_rfl) rfl (fun _ _ _ _ _ h => h) (by kernel_rfl) (fun u => by go_simp; try rfl) ?_
                                                        try simp only [Act.put, pz0, pz1, pz2]
                                                        refine PF.pf_take0 28 (by kernel_rfl) rfl (fun _ _ _ _ _ h => h) (by kernel_rfl) (fun u => by go_simp; try rfl) ?_
                                                        try simp only [Act.put, pz0, pz1, pz2]
                                                        refine PF.pf_take0 29 (by kernel_rfl) rfl (fun _ _ _ _ _ h => h) (by kernel_rfl) (fun u => by go_simp; try rfl) ?_
                                                        try simp only [Act.put, pz0, pz1, pz2]
                                                        refine PF.pf_take0 30 (by kernel_rfl) rfl (fun _ _ _ _ _ h => h) (by kernel_rfl) (fun u => by go_simp; try rfl) ?_
                                                        try simp only [Act.put, pz0, pz1, pz2]
                                                        refine PF.pf_take0 31 (by kernel_rfl) rfl (fun _ _ _ _ _ h => h) (by kernel_rfl) (fun u => by go_simp; try rfl) ?_
                                                        try simp only [Act.put, pz0, pz1, pz2]
                                                        refine PF.pf_take0 32 (by kernel_rfl) rfl (fun _ _ _ _ _ h => h) (by kernel_rfl) (fun u => by go_simp; try rfl) ?_
                                                        try simp only [Act.put, pz0, pz1, pz2]
                                                        refine PF.pf_take0 33 (by kernel_rfl) rfl (fun _ _ _ _ _ h => h) (by kernel_rfl) (fun u => by go_simp; try rfl) ?_
                                                        try simp only [Act.put, pz0, pz1, pz2]
                                                        refine PF.pf_take1 34 (PF.Same (b) _) (by kernel_rfl) rfl (fun _ _ _ _ _ h => h) (by kernel_rfl) (PF.Same.refl _ _) (fun u hu => by have hcu := hu.cell; go_simp; try rfl) ?_
                                                        try simp only [Act.put, pz0, pz1, pz2]
                                                        refine PF.pf_take0 35 (by kernel_rfl) rfl (fun _ _ _ _ _ h => h) (by kernel_rfl) (fun u => by go_simp; try rfl) ?_
                                                        try simp only [Act.put, pz0, pz1, pz2]
                                                        refine PF.pf_take1 36 (PF.Same (g8) _) (by kernel_rfl) rfl (fun _ _ _ _ _ h => h) (by kernel_rfl) (PF.Same.refl _ _) (fun u hu => by have hcu := hu.cell; go_simp; try rfl) ?_
                                                        try simp only [Act.put, pz0, pz1, pz2]
                                                        refine PF.pf_take0 37 (by kernel_rfl) rfl (fun _ _ _ _ _ h => h) (by kernel_rfl) (fun u => by go_simp; try rfl) ?_
                                                        try simp only [Act.put, pz0, pz1, pz2]
                                                        refine PF.pf_take0 38 (by kernel_rfl) rfl (fun _ _ _ _ _ h => h) (by kernel_rfl) (fun u => by go_simp; try rfl) ?_
                                                        try simp only [Act.put, pz0, pz1, pz2]
                                                        refine PF.pf_take0 39 (by kernel_rfl) rfl (fun _ _ _ _ _ h => h) (by kernel_rfl) (fun u => by go_simp; try rfl) ?_
                                                        try simp only [Act.put, pz0, pz1, pz2]
                                                        refine PF.pf_take0 40 (by kernel_rfl) rfl (fun _ _ _ _ _ h => h) (by kernel_rfl) (fun u => by go_simp; try rfl) ?_
                                                        try simp only [Act.put, pz0, pz1, pz2]
                                                        refine PF.pf_take0 41 (by kernel_rfl) rfl (fun _ _ _ _ _ h => h) (by kernel_rfl) (fun u => by go_simp; try rfl) ?_
                                                        try simp only [Act.put, pz0, pz1, pz2]
                                                        refine PF.pf_take0 42 (by kernel_rfl) rfl (fun _ _ _ _ _ h => h) (by kernel_rfl) (fun u => by go_simp; try rfl) ?_
                                                        try simp only [Act.put, pz0, pz1, pz2]
                                                        refine PF.pf_take0 43 (by kernel_rfl) rfl (fun _ _ _ _ _ h => h) (by kernel_rfl) (fun u => by go_simp; try rfl) ?_
                                                        try simp only [Act.put, pz0, pz1, pz2]
                                                        refine PF.pf_take0 44 (by kernel_rfl) rfl (fun _ _ _ _ _ h => h) (by kernel_rfl) (fun u => by go_simp; try rfl) ?_
                                                        try simp only [Act.put, pz0, pz1, pz2]
                                                        refine PF.pf_take1 45 (PF.Same (b) _) (by kernel_rfl) rfl (fun _ _ _ _ _ h => h) (by kernel_rfl) (PF.Same.refl _ _) (fun u hu => by have hcu := hu.cell; go_simp; try rfl) ?_
                                                        try simp only [Act.put, pz0, pz1, pz2]
                                                        refine PF.pf_take0 46 (by kernel_rfl) rfl (fun _ _ _ _ _ h => h) (by kernel_rfl) (fun u => by go_simp; try rfl) ?_
                                                        try simp only [Act.put, pz0, pz1, pz2]
                                                        refine PF.pf_take0 47 (by kernel_rfl) rfl (fun _ _ _ _ _ h => h) (by kernel_rfl) (fun u => by go_simp; try rfl) ?_
                                                        try simp only [Act.put, pz0, pz1, pz2]
                                                        refine PF.pf_done (by kernel_rfl) ?_
                                                        go_wp2_with fail
                                                        go_roundw
                                                        case rel => exact ⟨j + 1, nv3, by omega, by omega, by go_num, rfl, HNV3.out, (by have := HJ.out; first | exact this | exact this.drew), HC8.out, HC5.out, HC6.out⟩
                                                        case measure => simp [intOf]; omega
                                                  · skip
                                                    have z3 : (z.n.call.n == y.n.call.n) = false := beq_eq_false_iff_ne.2 hz3
                                                    have iz3 : ((z.n.call.n : Int) == (y.n.call.n : Int)) = false := beq_eq_false_iff_ne.2 (by omega)
                                                    have nz3 : ((z.n.call.n : Int) != (y.n.call.n : Int)) = true := by simp only [bne, iz3]; rfl
                                                    clear hz3
                                                    as_aux_lemma =>
                                                      go_wp2_with fail
                                                      refine PF.pf_begin (by kernel_rfl) ?_
                                                      refine PF.pf_take0 0 (by kernel_rfl) rfl (fun _ _ _ _ _ h => h) (by kernel_rfl) (fun u => by go_simp; try rfl) ?_
                                                      try simp only [Act.put, pz0, pz1, pz2]
                                                      refine PF.pf_take0 1 (by kernel_rfl) rfl (fun _ _ _ _ _ h => h) (by kernel_rfl) (fun u => by go_simp; try rfl) ?_
                                                      try simp only [Act.put, pz0, pz1, pz2]
                                                      refine PF.pf_take0 2 (by kernel_rfl) rfl (fun _ _ _ _ _ h => h) (by kernel_rfl) (fun u => by go_simp; try rfl) ?_
                                                      try simp only [Act.put, pz0, pz1, pz2]
                                                      refine PF.pf_take0 3 (by kernel_rfl) rfl (fun _ _ _ _ _ h => h) (by kernel_rfl) (fun u => by go_simp; try rfl) ?_
                                                      try simp only [Act.put, pz0, pz1, pz2]
                                                      refine PF.pf_take1 4 (PF.Same (b) _) (by kernel_rfl) rfl (fun _ _ _ _ _ h => h) (by kernel_rfl) (PF.Same.refl _ _) (fun u hu => by have hcu := hu.cell; go_simp; try rfl) ?_
                                                      try simp only [Act.put, pz0, pz1, pz2]
                                                      refine PF.pf_take0 5 (by kernel_rfl) rfl (fun _ _ _ _ _ h => h) (by kernel_rfl) (fun u => by go_simp; try rfl) ?_
                                                      try simp only [Act.put, pz0, pz1, pz2]
                                                      refine PF.pf_take0 6 (by kernel_rfl) rfl (fun _ _ _ _ _ h => h) (by kernel_rfl) (fun u => by go_simp; try rfl) ?_
                                                      try simp only [Act.put, pz0, pz1, pz2]
                                                      refine PF.pf_take0 7 (by kernel_rfl) rfl (fun _ _ _ _ _ h => h) (by kernel_rfl) (fun u => by go_simp; try rfl) ?_
                                                      try simp only [Act.put, pz0, pz1, pz2]
                                                      refine PF.pf_take0 8 (by kernel_rfl) rfl (fun _ _ _ _ _ h => h) (by kernel_rfl) (fun u => by go_simp; try rfl) ?_
                                                      try simp only [Act.put, pz0, pz1, pz2]
                                                      refine PF.pf_take0 9 (by kernel_rfl) rfl (fun _ _ _ _ _ h => h) (by kernel_rfl) (fun u => by go_simp; try rfl) ?_
                                                      try simp only [Act.put, pz0, pz1, pz2]
                                                      refine PF.pf_take0 10 (by kernel_rfl) rfl (fun _ _ _ _ _ h => h) (by kernel_rfl) (fun u => by go_simp; try rfl) ?_
                                                      try simp only [Act.put, pz0, pz1, pz2]
                                                      refine PF.pf_take0 11 (by kernel_rfl) rfl (fun _ _ _ _ _ h => h) (by kernel_rfl) (fun u => by go_simp; try rfl) ?_
                                                      try simp only [Act.put, pz0, pz1, pz2]
                                                      refine PF.pf_take1 12 (PF.Same (b) _) (by kernel_rfl) rfl (fun _ _ _ _ _ h => h) (by kernel_rfl) (PF.Same.refl _ _) (fun u hu => by have hcu := hu.cell; go_simp; try rfl) ?_
                                                      try simp only [Act.put, pz0, pz1, pz2]
                                                      refine PF.pf_take0 13 (by kernel_rfl) rfl (fun _ _ _ _ _ h => h) (by kernel_rfl) (fun u => by go_simp; try rfl) ?_
                                                      try simp only [Act.put, pz0, pz1, pz2]
                                                      refine PF.pf_take1 14 (PF.Same (g8) _) (by kernel_rfl) rfl (fun _ _ _ _ _ h => h) (by kernel_rfl) (PF.Same.refl _ _) (fun u hu => by have hcu := hu.cell; go_simp; try rfl) ?_
                                                      try simp only [Act.put, pz0, pz1, pz2]
                                                      refine PF.pf_take0 15 (by kernel_rfl) rfl (fun _ _ _ _ _ h => h) (by kernel_rfl) (fun u => by go_simp; try rfl) ?_
                                                      try simp only [Act.put, pz0, pz1, pz2]
                                                      refine PF.pf_take0 16 (by kernel_rfl) rfl (fun _ _ _ _ _ h => h) (by kernel_rfl) (fun u => by go_simp; try rfl) ?_
                                                      try simp only [Act.put, pz0, pz1, pz2]
                                                      refine PF.pf_take0 17 (by kernel_rfl) rfl (fun _ _ _ _ _ h => h) (by kernel_rfl) (fun u => by go_simp; try rfl) ?_
                                                      try simp only [Act.put, pz0, pz1, pz2]
                                                      refine PF.pf_take0 18 (by kernel_rfl) rfl (fun _ _ _ _ _ h => h) (by kernel_rfl) (fun u => by go_simp; try rfl) ?_
                                                      try simp only [Act.put, pz0, pz1, pz2]
                                                      refine PF.pf_take0 19 (by kernel_rfl) rfl (fun _ _ _ _ _ h => h) (by kernel_rfl) (fun u => by go_simp; try rfl) ?_
                                                      try simp only [Act.put, pz0, pz1, pz2]
                                                      refine PF.pf_take0 20 (by kernel_rfl) rfl (fun _ _ _ _ _ h => h) (by kernel_rfl) (fun u => by go_simp; try rfl) ?_
                                                      try simp only [Act.put, pz0, pz1, pz2]
                                                      refine PF.pf_take0 21 (by kernel_rfl) rfl (fun _ _ _ _ _ h => h) (by kernel_rfl) (fun u => by go_simp; try rfl) ?_
                                                      try simp only [Act.put, pz0, pz1, pz2]
                                                      refine PF.pf_take0 22 (by kernel_rfl) rfl (fun _ _ _ _ _ h => h) (by kernel_rfl) (fun u => by go_simp; try rfl) ?_
                                                      try simp only [Act.put, pz0, pz1, pz2]
                                                      refine PF.pf_take1 23 (PF.Same (b) _) (by kernel_rfl) rfl (fun _ _ _ _ _ h => h) (by kernel_rfl) (PF.Same.refl _ _) (fun u hu => by have hcu := hu.cell; go_simp; try rfl) ?_
                                                      try simp only [Act.put, pz0, pz1, pz2]
                                                      refine PF.pf_take0 24 (by kernel_rfl) rfl (fun _ _ _ _ _ h => h) (by kernel_rfl) (fun u => by go_simp; try rfl) ?_
                                                      try simp only [Act.put, pz0, pz1, pz2]
                                                      refine PF.pf_take1 25 (PF.Same (g8) _) (by kernel_rfl) rfl (fun _ _ _ _ _ h => h) (by kernel_rfl) (PF.Same.refl _ _) (fun u hu => by have hcu := hu.cell; go_simp; try rfl) ?_
                                                      try simp only [Act.put, pz0, pz1, pz2]
                                                      refine PF.pf_take0 26 (by kernel_rfl) rfl (fun _ _ _ _ _ h => h) (by kernel_rfl) (fun u => by go_simp; try rfl) ?_
                                                      try simp only [Act.put, pz0, pz1, pz2]
                                                      refine PF.pf_take0 27 (by kernel_rfl) rfl (fun _ _ _ _ _ h => h) (by kernel_rfl) (fun u => by go_simp; try rfl) ?_
                                                      try simp only [Act.put, pz0, pz1, pz2]
                                                      refine PF.pf_take0 28 (by kernel_rfl) rfl (fun _ _ _ _ _ h => h) (by kernel_rfl) (fun u => by go_simp; try rfl) ?_
                                                      try simp only [Act.put, pz0, pz1, pz2]
                                                      refine PF.pf_take0 29 (by kernel_rfl) rfl (fun _ _ _ _ _ h => h) (by kernel_rfl) (fun u => by go_simp; try rfl) ?_
                                                      try simp only [Act.put, pz0, pz1, pz2]
                                                      refine PF.pf_take0 30 (by kernel_rfl) rfl (fun _ _ _ _ _ h => h) (by kernel_rfl) (fun u => by go_simp; try rfl) ?_
                                                      try simp only [Act.put, pz0, pz1, pz2]
                                                      refine PF.pf_take0 31 (by kernel_rfl) rfl (fun _ _ _ _ _ h => h) (by kernel_rfl) (fun u => by go_simp; try rfl) ?_
                                                      try simp only [Act.put, pz0, pz1, pz2]
                                                      refine PF.pf_take0 32 (by kernel_rfl) rfl (fun _ _ _ _ _ h => h) (by kernel_rfl) (fun u => by go_simp; try rfl) ?_
                                                      try simp only [Act.put, pz0, pz1, pz2]
                                                      refine PF.pf_take0 33 (by kernel_rfl) rfl (fun _ _ _ _ _ h => h) (by kernel_rfl) (fun u => by go_simp; try rfl) ?_
                                                      try simp only [Act.put, pz0, pz1, pz2]
                                                      refine PF.pf_take1 34 (PF.Same (b) _) (by kernel_rfl) rfl (fun _ _ _ _ _ h => h) (by kernel_rfl) (PF.Same.refl _ _) (fun u hu => by have hcu := hu.cell; go_simp; try rfl) ?_
                                                      try simp only [Act.put, pz0, pz1, pz2]
                                                      refine PF.pf_take0 35 (by kernel_rfl) rfl (fun _ _ _ _ _ h => h) (by kernel_rfl) (fun u => by go_simp; try rfl) ?_
                                                      try simp only [Act.put, pz0, pz1, pz2]
                                                      refine PF.pf_take1 36 (PF.Same (g8) _) (by kernel_rfl) rfl (fun _ _ _ _ _ h => h) (by kernel_rfl) (PF.Same.refl _ _) (fun u hu => by have hcu := hu.cell; go_simp; try rfl) ?_
                                                      try simp only [Act.put, pz0, pz1, pz2]
                                                      refine PF.pf_take0 37 (by kernel_rfl) rfl (fun _ _ _ _ _ h => h) (by kernel_rfl) (fun u => by go_simp; try rfl) ?_
                                                      try simp only [Act.put, pz0, pz1, pz2]
                                                      refine PF.pf_take0 38 (by kernel_rfl) rfl (fun _ _ _ _ _ h => h) (by kernel_rfl) (fun u => by go_simp; try rfl) ?_
                                                      try simp only [Act.put, pz0, pz1, pz2]
                                                      refine PF.pf_take0 39 (by kernel_rfl) rfl (fun _ _ _ _ _ h => h) (by kernel_rfl) (fun u => by go_simp; try rfl) ?_
                                                      try simp only [Act.put, pz0, pz1, pz2]
                                                      refine PF.pf_skip0 40 (by kernel_rfl) rfl (fun _ _ _ _ _ h => h) (by kernel_rfl) ?_
                                                      try simp only [Act.put, pz0, pz1, pz2]
                                                      refine PF.pf_skip0 41 (by kernel_rfl) rfl (fun _ _ _ _ _ h => h) (by kernel_rfl) ?_
                                                      try simp only [Act.put, pz0, pz1, pz2]
                                                      refine PF.pf_skip0 42 (by kernel_rfl) rfl (fun _ _ _ _ _ h => h) (by kernel_rfl) ?_
                                                      try simp only [Act.put, pz0, pz1, pz2]
                                                      refine PF.pf_skip0 43 (by kernel_rfl) rfl (fun _ _ _ _ _ h => h) (by kernel_rfl) ?_
                                                      try simp only [Act.put, pz0, pz1, pz2]
                                                      refine PF.pf_skip0 44 (by kernel_rfl) rfl (fun _ _ _ _ _ h => h) (by kernel_rfl) ?_
                                                      try simp only [Act.put, pz0, pz1, pz2]
                                                      refine PF.pf_skip0 45 (by kernel_rfl) rfl (fun _ _ _ _ _ h => h) (by kernel_rfl) ?_
                                                      try simp only [Act.put, pz0, pz1, pz2]
                                                      refine PF.pf_skip0 46 (by kernel_rfl) rfl (fun _ _ _ _ _ h => h) (by kernel_rfl) ?_
                                                      try simp only [Act.put, pz0, pz1, pz2]
                                                      refine PF.pf_take0 47 (by kernel_rfl) rfl (fun _ _ _ _ _ h => h) (by kernel_rfl) (fun u => by go_simp; try rfl) ?_
                                                      try simp only [Act.put, pz0, pz1, pz2]
                                                      refine PF.pf_done (by kernel_rfl) ?_
                                                      go_wp2_with fail
                                                      go_roundw
                                                      case rel => exact ⟨j + 1, nv3, by omega, by omega, by go_num, rfl, HNV3.out, (by have := HJ.out; first | exact this | exact this.drew), HC8.out, HC5.out, HC6.out⟩
                                                      case measure => simp [intOf]; omega
                                                · skip
                                                  have z2 : (z.n.call.inc == y.n.call.inc) = false := beq_eq_false_iff_ne.2 hz2
                                                  have iz2 : ((z.n.call.inc : Int) == (y.n.call.inc : Int)) = false := beq_eq_false_iff_ne.2 (by omega)
                                                  have nz2 : ((z.n.call.inc : Int) != (y.n.call.inc : Int)) = true := by simp only [bne, iz2]; rfl
                                                  clear hz2
                                                  as_aux_lemma =>
                                                    go_wp2_with fail
                                                    refine PF.pf_begin (by kernel_rfl) ?_
                                                    refine PF.pf_take0 0 (by kernel_rfl) rfl (fun _ _ _ _ _ h => h) (by kernel_rfl) (fun u => by go_simp; try rfl) ?_
                                                    try simp only [Act.put, pz0, pz1, pz2]
                                                    refine PF.pf_take0 1 (by kernel_rfl) rfl (fun _ _ _ _ _ h => h) (by kernel_rfl) (fun u => by go_simp; try rfl) ?_
                                                    try simp only [Act.put, pz0, pz1, pz2]
                                                    refine PF.pf_take0 2 (by kernel_rfl) rfl (fun _ _ _ _ _ h => h) (by kernel_rfl) (fun u => by go_simp; try rfl) ?_
                                                    try simp only [Act.put, pz0, pz1, pz2]
                                                    refine PF.pf_take0 3 (by kernel_rfl) rfl (fun _ _ _ _ _ h => h) (by kernel_rfl) (fun u => by go_simp; try rfl) ?_
                                                    try simp only [Act.put, pz0, pz1, pz2]
                                                    refine PF.pf_take1 4 (PF.Same (b) _) (by kernel_rfl) rfl (fun _ _ _ _ _ h => h) (by kernel_rfl) (PF.Same.refl _ _) (fun u hu => by have hcu := hu.cell; go_simp; try rfl) ?_
                                                    try simp only [Act.put, pz0, pz1, pz2]
                                                    refine PF.pf_take0 5 (by kernel_rfl) rfl (fun _ _ _ _ _ h => h) (by kernel_rfl) (fun u => by go_simp; try rfl) ?_
                                                    try simp only [Act.put, pz0, pz1, pz2]
                                                    refine PF.pf_take0 6 (by kernel_rfl) rfl (fun _ _ _ _ _ h => h) (by kernel_rfl) (fun u => by go_simp; try rfl) ?_
                                                    try simp only [Act.put, pz0, pz1, pz2]
                                                    refine PF.pf_take0 7 (by kernel_rfl) rfl (fun _ _ _ _ _ h => h) (by kernel_rfl) (fun u => by go_simp; try rfl) ?_
                                                    try simp only [Act.put, pz0, pz1, pz2]
                                                    refine PF.pf_take0 8 (by kernel_rfl) rfl (fun _ _ _ _ _ h => h) (by kernel_rfl) (fun u => by go_simp; try rfl) ?_
                                                    try simp only [Act.put, pz0, pz1, pz2]
                                                    refine PF.pf_take0 9 (by kernel_rfl) rfl (fun _ _ _ _ _ h => h) (by kernel_rfl) (fun u => by go_simp; try rfl) ?_
                                                    try simp only [Act.put, pz0, pz1, pz2]
                                                    refine PF.pf_take0 10 (by kernel_rfl) rfl (fun _ _ _ _ _ h => h) (by kernel_rfl) (fun u => by go_simp; try rfl) ?_
                                                    try simp only [Act.put, pz0, pz1, pz2]
                                                    refine PF.pf_take0 11 (by kernel_rfl) rfl (fun _ _ _ _ _ h => h) (by kernel_rfl) (fun u => by go_simp; try rfl) ?_
                                                    try simp only [Act.put, pz0, pz1, pz2]
                                                    refine PF.pf_take1 12 (PF.Same (b) _) (by kernel_rfl) rfl (fun _ _ _ _ _ h => h) (by kernel_rfl) (PF.Same.refl _ _) (fun u hu => by have hcu := hu.cell; go_simp; try rfl) ?_
                                                    try simp only [Act.put, pz0, pz1, pz2]
                                                    refine PF.pf_take0 13 (by kernel_rfl) rfl (fun _ _ _ _ _ h => h) (by kernel_rfl) (fun u => by go_simp; try rfl) ?_
                                                    try simp only [Act.put, pz0, pz1, pz2]
                                                    refine PF.pf_take1 14 (PF.Same (g8) _) (by kernel_rfl) rfl (fun _ _ _ _ _ h => h) (by kernel_rfl) (PF.Same.refl _ _) (fun u hu => by have hcu := hu.cell; go_simp; try rfl) ?_
                                                    try simp only [Act.put, pz0, pz1, pz2]
                                                    refine PF.pf_take0 15 (by kernel_rfl) rfl (fun _ _ _ _ _ h => h) (by kernel_rfl) (fun u => by go_simp; try rfl) ?_
                                                    try simp only [Act.put, pz0, pz1, pz2]
                                                    refine PF.pf_take0 16 (by kernel_rfl) rfl (fun _ _ _ _ _ h => h) (by kernel_rfl) (fun u => by go_simp; try rfl) ?_
                                                    try simp only [Act.put, pz0, pz1, pz2]
                                                    refine PF.pf_take0 17 (by kernel_rfl) rfl (fun _ _ _ _ _ h => h) (by kernel_rfl) (fun u => by go_simp; try rfl) ?_
                                                    try simp only [Act.put, pz0, pz1, pz2]
                                                    refine PF.pf_take0 18 (by kernel_rfl) rfl (fun _ _ _ _ _ h => h) (by kernel_rfl) (fun u => by go_simp; try rfl) ?_
                                                    try simp only [Act.put, pz0, pz1, pz2]
                                                    refine PF.pf_take0 19 (by kernel_rfl) rfl (fun _ _ _ _ _ h => h) (by kernel_rfl) (fun u => by go_simp; try rfl) ?_
                                                    try simp only [Act.put, pz0, pz1, pz2]
                                                    refine PF.pf_take0 20 (by kernel_rfl) rfl (fun _ _ _ _ _ h => h) (by kernel_rfl) (fun u => by go_simp; try rfl) ?_
                                                    try simp only [Act.put, pz0, pz1, pz2]
                                                    refine PF.pf_take0 21 (by kernel_rfl) rfl (fun _ _ _ _ _ h => h) (by kernel_rfl) (fun u => by go_simp; try rfl) ?_
                                                    try simp only [Act.put, pz0, pz1, pz2]
                                                    refine PF.pf_take0 22 (by kernel_rfl) rfl (fun _ _ _ _ _ h => h) (by kernel_rfl) (fun u => by go_simp; try rfl) ?_
                                                    try simp only [Act.put, pz0, pz1, pz2]
                                                    refine PF.pf_take1 23 (PF.Same (b) _) (by kernel_rfl) rfl (fun _ _ _ _ _ h => h) (by kernel_rfl) (PF.Same.refl _ _) (fun u hu => by have hcu := hu.cell; go_simp; try rfl) ?_
                                                    try simp only [Act.put, pz0, pz1, pz2]
                                                    refine PF.pf_take0 24 (by kernel_rfl) rfl (fun _ _ _ _ _ h => h) (by kernel_rfl) (fun u => by go_simp; try rfl) ?_
                                                    try simp only [Act.put, pz0, pz1, pz2]
                                                    refine PF.pf_take1 25 (PF.Same (g8) _) (by kernel_rfl) rfl (fun _ _ _ _ _ h => h) (by kernel_rfl) (PF.Same.refl _ _) (fun u hu => by have hcu := hu.cell; go_simp; try rfl) ?_
                                                    try simp only [Act.put, pz0, pz1, pz2]
                                                    refine PF.pf_take0 26 (by kernel_rfl) rfl (fun _ _ _ _ _ h => h) (by kernel_rfl) (fun u => by go_simp; try rfl) ?_
                                                    try simp only [Act.put, pz0, pz1, pz2]
                                                    refine PF.pf_take0 27 (by kernel_rfl) rfl (fun _ _ _ _ _ h => h) (by kernel_rfl) (fun u => by go_simp; try rfl) ?_
                                                    try simp only [Act.put, pz0, pz1, pz2]
                                                    refine PF.pf_take0 28 (by kernel_rfl) rfl (fun _ _ _ _ _ h => h) (by kernel_rfl) (fun u => by go_simp; try rfl) ?_
                                                    try simp only [Act.put, pz0, pz1, pz2]
                                                    refine PF.pf_skip0 29 (by kernel_rfl) rfl (fun _ _ _ _ _ h => h) (by kernel_rfl) ?_
                                                    try simp only [Act.put, pz0, pz1, pz2]
                                                    refine PF.pf_skip0 30 (by kernel_rfl) rfl (fun _ _ _ _ _ h => h) (by kernel_rfl) ?_
                                                    try simp only [Act.put, pz0, pz1, pz2]
                                                    refine PF.pf_skip0 31 (by kernel_rfl) rfl (fun _ _ _ _ _ h => h) (by kernel_rfl) ?_
                                                    try simp only [Act.put, pz0, pz1, pz2]
                                                    refine PF.pf_skip0 32 (by kernel_rfl) rfl (fun _ _ _ _ _ h => h) (by kernel_rfl) ?_
                                                    try simp only [Act.put, pz0, pz1, pz2]
                                                    refine PF.pf_skip0 33 (by kernel_rfl) rfl (fun _ _ _ _ _ h => h) (by kernel_rfl) ?_
                                                    try simp only [Act.put, pz0, pz1, pz2]
                                                    refine PF.pf_skip0 34 (by kernel_rfl) rfl (fun _ _ _ _ _ h => h) (by kernel_rfl) ?_
                                                    try simp only [Act.put, pz0, pz1, pz2]
                                                    refine PF.pf_skip0 35 (by kernel_rfl) rfl (fun _ _ _ _ _ h => h) (by kernel_rfl) ?_
                                                    try simp only [Act.put, pz0, pz1, pz2]
                                                    refine PF.pf_skip0 36 (by kernel_rfl) rfl (fun _ _ _ _ _ h => h) (by kernel_rfl) ?_
                                                    try simp only [Act.put, pz0, pz1, pz2]
                                                    refine PF.pf_skip0 37 (by kernel_rfl) rfl (fun _ _ _ _ _ h => h) (by kernel_rfl) ?_
                                                    try simp only [Act.put, pz0, pz1, pz2]
                                                    refine PF.pf_take0 38 (by kernel_rfl) rfl (fun _ _ _ _ _ h => h) (by kernel_rfl) (fun u => by go_simp; try rfl) ?_
                                                    try simp only [Act.put, pz0, pz1, pz2]
                                                    refine PF.pf_take0 39 (by kernel_rfl) rfl (fun _ _ _ _ _ h => h) (by kernel_rfl) (fun u => by go_simp; try rfl) ?_
                                                    try simp only [Act.put, pz0, pz1, pz2]
                                                    refine PF.pf_skip0 40 (by kernel_rfl) rfl (fun _ _ _ _ _ h => h) (by kernel_rfl) ?_
                                                    try simp only [Act.put, pz0, pz1, pz2]
                                                    refine PF.pf_skip0 41 (by kernel_rfl) rfl (fun _ _ _ _ _ h => h) (by kernel_rfl) ?_
                                                    try simp only [Act.put, pz0, pz1, pz2]
                                                    refine PF.pf_skip0 42 (by kernel_rfl) rfl (fun _ _ _ _ _ h => h) (by kernel_rfl) ?_
                                                    try simp only [Act.put, pz0, pz1, pz2]
                                                    refine PF.pf_skip0 43 (by kernel_rfl) rfl (fun _ _ _ _ _ h => h) (by kernel_rfl) ?_
                                                    try simp only [Act.put, pz0, pz1, pz2]
                                                    refine PF.pf_skip0 44 (by kernel_rfl) rfl (fun _ _ _ _ _ h => h) (by kernel_rfl) ?_
                                                    try simp only [Act.put, pz0, pz1, pz2]
                                                    refine PF.pf_skip0 45 (by kernel_rfl) rfl (fun _ _ _ _ _ h => h) (by kernel_rfl) ?_
                                                    try simp only [Act.put, pz0, pz1, pz2]
                                                    refine PF.pf_skip0 46 (by kernel_rfl) rfl (fun _ _ _ _ _ h => h) (by kernel_rfl) ?_
                                                    try simp only [Act.put, pz0, pz1, pz2]
                                                    refine PF.pf_take0 47 (by kernel_rfl) rfl (fun _ _ _ _ _ h => h) (by kernel_rfl) (fun u => by go_simp; try rfl) ?_
                                                    try simp only [Act.put, pz0, pz1, pz2]
                                                    refine PF.pf_done (by kernel_rfl) ?_
                                                    go_wp2_with fail
                                                    go_roundw
                                                    case rel => exact ⟨j + 1, nv3, by omega, by omega, by go_num, rfl, HNV3.out, (by have := HJ.out; first | exact this | exact this.drew), HC8.out, HC5.out, HC6.out⟩
                                                    case measure => simp [intOf]; omega
                                              · skip
                                                have z1 : (z.n.call.cl == y.n.call.cl) = false := beq_eq_false_iff_ne.2 hz1
                                                have nz1 : (z.n.call.cl != y.n.call.cl) = true := by simp only [bne, z1]; rfl
                                                clear hz1
                                                as_aux_lemma =>
                                                  go_wp2_with fail
                                                  refine PF.pf_begin (by kernel_rfl) ?_
                                                  refine PF.pf_take0 0 (by kernel_rfl) rfl (fun _ _ _ _ _ h => h) (by kernel_rfl) (fun u => by go_simp; try rfl) ?_
                                                  try simp only [Act.put, pz0, pz1, pz2]
                                                  refine PF.pf_take0 1 (by kernel_rfl) rfl (fun _ _ _ _ _ h => h) (by kernel_rfl) (fun u => by go_simp; try rfl) ?_
                                                  try simp only [Act.put, pz0, pz1, pz2]
                                                  refine PF.pf_take0 2 (by kernel_rfl) rfl (fun _ _ _ _ _ h => h) (by kernel_rfl) (fun u => by go_simp; try rfl) ?_
                                                  try simp only [Act.put, pz0, pz1, pz2]
                                                  refine PF.pf_take0 3 (by kernel_rfl) rfl (fun _ _ _ _ _ h => h) (by kernel_rfl) (fun u => by go_simp; try rfl) ?_
                                                  try simp only [Act.put, pz0, pz1, pz2]
                                                  refine PF.pf_take1 4 (PF.Same (b) _) (by kernel_rfl) rfl (fun _ _ _ _ _ h => h) (by kernel_rfl) (PF.Same.refl _ _) (fun u hu => by have hcu := hu.cell; go_simp; try rfl) ?_
                                                  try simp only [Act.put, pz0, pz1, pz2]
                                                  refine PF.pf_take0 5 (by kernel_rfl) rfl (fun _ _ _ _ _ h => h) (by kernel_rfl) (fun u => by go_simp; try rfl) ?_
                                                  try simp only [Act.put, pz0, pz1, pz2]
                                                  refine PF.pf_take0 6 (by kernel_rfl) rfl (fun _ _ _ _ _ h => h) (by kernel_rfl) (fun u => by go_simp; try rfl) ?_
                                                  try simp only [Act.put, pz0, pz1, pz2]
                                                  refine PF.pf_take0 7 (by kernel_rfl) rfl (fun _ _ _ _ _ h => h) (by kernel_rfl) (fun u => by go_simp; try rfl) ?_
                                                  try simp only [Act.put, pz0, pz1, pz2]
                                                  refine PF.pf_take0 8 (by kernel_rfl) rfl (fun _ _ _ _ _ h => h) (by kernel_rfl) (fun u => by go_simp; try rfl) ?_
                                                  try simp only [Act.put, pz0, pz1, pz2]
                                                  refine PF.pf_take0 9 (by kernel_rfl) rfl (fun _ _ _ _ _ h => h) (by kernel_rfl) (fun u => by go_simp; try rfl) ?_
                                                  try simp only [Act.put, pz0, pz1, pz2]
                                                  refine PF.pf_take0 10 (by kernel_rfl) rfl (fun _ _ _ _ _ h => h) (by kernel_rfl) (fun u => by go_simp; try rfl) ?_
                                                  try simp only [Act.put, pz0, pz1, pz2]
                                                  refine PF.pf_take0 11 (by kernel_rfl) rfl (fun _ _ _ _ _ h => h) (by kernel_rfl) (fun u => by go_simp; try rfl) ?_
                                                  try simp only [Act.put, pz0, pz1, pz2]
                                                  refine PF.pf_take1 12 (PF.Same (b) _) (by kernel_rfl) rfl (fun _ _ _ _ _ h => h) (by kernel_rfl) (PF.Same.refl _ _) (fun u hu => by have hcu := hu.cell; go_simp; try rfl) ?_
                                                  try simp only [Act.put, pz0, pz1, pz2]
                                                  refine PF.pf_take0 13 (by kernel_rfl) rfl (fun _ _ _ _ _ h => h) (by kernel_rfl) (fun u => by go_simp; try rfl) ?_
                                                  try simp only [Act.put, pz0, pz1, pz2]
                                                  refine PF.pf_take1 14 (PF.Same (g8) _) (by kernel_rfl) rfl (fun _ _ _ _ _ h => h) (by kernel_rfl) (PF.Same.refl _ _) (fun u hu => by have hcu := hu.cell; go_simp; try rfl) ?_
                                                  try simp only [Act.put, pz0, pz1, pz2]
                                                  refine PF.pf_take0 15 (by kernel_rfl) rfl (fun _ _ _ _ _ h => h) (by kernel_rfl) (fun u => by go_simp; try rfl) ?_
                                                  try simp only [Act.put, pz0, pz1, pz2]
                                                  refine PF.pf_take0 16 (by kernel_rfl) rfl (fun _ _ _ _ _ h => h) (by kernel_rfl) (fun u => by go_simp; try rfl) ?_
                                                  try simp only [Act.put, pz0, pz1, pz2]
                                                  refine PF.pf_take0 17 (by kernel_rfl) rfl (fun _ _ _ _ _ h => h) (by kernel_rfl) (fun u => by go_simp; try rfl) ?_
                                                  try simp only [Act.put, pz0, pz1, pz2]
                                                  refine PF.pf_skip0 18 (by kernel_rfl) rfl (fun _ _ _ _ _ h => h) (by kernel_rfl) ?_
                                                  try simp only [Act.put, pz0, pz1, pz2]
                                                  refine PF.pf_skip0 19 (by kernel_rfl) rfl (fun _ _ _ _ _ h => h) (by kernel_rfl) ?_
                                                  try simp only [Act.put, pz0, pz1, pz2]
                                                  refine PF.pf_skip0 20 (by kernel_rfl) rfl (fun _ _ _ _ _ h => h) (by kernel_rfl) ?_
                                                  try simp only [Act.put, pz0, pz1, pz2]
                                                  refine PF.pf_skip0 21 (by kernel_rfl) rfl (fun _ _ _ _ _ h => h) (by kernel_rfl) ?_
                                                  try simp only [Act.put, pz0, pz1, pz2]
                                                  refine PF.pf_skip0 22 (by kernel_rfl) rfl (fun _ _ _ _ _ h => h) (by kernel_rfl) ?_
                                                  try simp only [Act.put, pz0, pz1, pz2]
                                                  refine PF.pf_skip0 23 (by kernel_rfl) rfl (fun _ _ _ _ _ h => h) (by kernel_rfl) ?_
                                                  try simp only [Act.put, pz0, pz1, pz2]
                                                  refine PF.pf_skip0 24 (by kernel_rfl) rfl (fun _ _ _ _ _ h => h) (by kernel_rfl) ?_
                                                  try simp only [Act.put, pz0, pz1, pz2]
                                                  refine PF.pf_skip0 25 (by kernel_rfl) rfl (fun _ _ _ _ _ h => h) (by kernel_rfl) ?_
                                                  try simp only [Act.put, pz0, pz1, pz2]
                                                  refine PF.pf_skip0 26 (by kernel_rfl) rfl (fun _ _ _ _ _ h => h) (by kernel_rfl) ?_
                                                  try simp only [Act.put, pz0, pz1, pz2]
                                                  refine PF.pf_take0 27 (by kernel_rfl) rfl (fun _ _ _ _ _ h => h) (by kernel_rfl) (fun u => by go_simp; try rfl) ?_
                                                  try simp only [Act.put, pz0, pz1, pz2]
                                                  refine PF.pf_take0 28 (by kernel_rfl) rfl (fun _ _ _ _ _ h => h) (by kernel_rfl) (fun u => by go_simp; try rfl) ?_
                                                  try simp only [Act.put, pz0, pz1, pz2]
                                                  refine PF.pf_skip0 29 (by kernel_rfl) rfl (fun _ _ _ _ _ h => h) (by kernel_rfl) ?_
                                                  try simp only [Act.put, pz0, pz1, pz2]
                                                  refine PF.pf_skip0 30 (by kernel_rfl) rfl (fun _ _ _ _ _ h => h) (by kernel_rfl) ?_
                                                  try simp only [Act.put, pz0, pz1, pz2]
                                                  refine PF.pf_skip0 31 (by kernel_rfl) rfl (fun _ _ _ _ _ h => h) (by kernel_rfl) ?_
                                                  try simp only [Act.put, pz0, pz1, pz2]
                                                  refine PF.pf_skip0 32 (by kernel_rfl) rfl (fun _ _ _ _ _ h => h) (by kernel_rfl) ?_
                                                  try simp only [Act.put, pz0, pz1, pz2]
                                                  refine PF.pf_skip0 33 (by kernel_rfl) rfl (fun _ _ _ _ _ h => h) (by kernel_rfl) ?_
                                                  try simp only [Act.put, pz0, pz1, pz2]
                                                  refine PF.pf_skip0 34 (by kernel_rfl) rfl (fun _ _ _ _ _ h => h) (by kernel_rfl) ?_
                                                  try simp only [Act.put, pz0, pz1, pz2]
                                                  refine PF.pf_skip0 35 (by kernel_rfl) rfl (fun _ _ _ _ _ h => h) (by kernel_rfl) ?_
                                                  try simp only [Act.put, pz0, pz1, pz2]
                                                  refine PF.pf_skip0 36 (by kernel_rfl) rfl (fun _ _ _ _ _ h => h) (by kernel_rfl) ?_
                                                  try simp only [Act.put, pz0, pz1, pz2]
                                                  refine PF.pf_skip0 37 (by kernel_rfl) rfl (fun _ _ _ _ _ h => h) (by kernel_rfl) ?_
                                                  try simp only [Act.put, pz0, pz1, pz2]
                                                  refine PF.pf_take0 38 (by kernel_rfl) rfl (fun _ _ _ _ _ h => h) (by kernel_rfl) (fun u => by go_simp; try rfl) ?_
                                                  try simp only [Act.put, pz0, pz1, pz2]
                                                  refine PF.pf_take0 39 (by kernel_rfl) rfl (fun _ _ _ _ _ h => h) (by kernel_rfl) (fun u => by go_simp; try rfl) ?_
                                                  try simp only [Act.put, pz0, pz1, pz2]
                                                  refine PF.pf_skip0 40 (by kernel_rfl) rfl (fun _ _ _ _ _ h => h) (by kernel_rfl) ?_
                                                  try simp only [Act.put, pz0, pz1, pz2]
                                                  refine PF.pf_skip0 41 (by kernel_rfl) rfl (fun _ _ _ _ _ h => h) (by kernel_rfl) ?_
                                                  try simp only [Act.put, pz0, pz1, pz2]
                                                  refine PF.pf_skip0 42 (by kernel_rfl) rfl (fun _ _ _ _ _ h => h) (by kernel_rfl) ?_
                                                  try simp only [Act.put, pz0, pz1, pz2]
                                                  refine PF.pf_skip0 43 (by kernel_rfl) rfl (fun _ _ _ _ _ h => h) (by kernel_rfl) ?_
                                                  try simp only [Act.put, pz0, pz1, pz2]
                                                  refine PF.pf_skip0 44 (by kernel_rfl) rfl (fun _ _ _ _ _ h => h) (by kernel_rfl) ?_
                                                  try simp only [Act.put, pz0, pz1, pz2]
                                                  refine PF.pf_skip0 45 (by kernel_rfl) rfl (fun _ _ _ _ _ h => h) (by kernel_rfl) ?_
                                                  try simp only [Act.put, pz0, pz1, pz2]
                                                  refine PF.pf_skip0 46 (by kernel_rfl) rfl (fun _ _ _ _ _ h => h) (by kernel_rfl) ?_
                                                  try simp only [Act.put, pz0, pz1, pz2]
                                                  refine PF.pf_take0 47 (by kernel_rfl) rfl (fun _ _ _ _ _ h => h) (by kernel_rfl) (fun u => by go_simp; try rfl) ?_
                                                  try simp only [Act.put, pz0, pz1, pz2]
                                                  refine PF.pf_done (by kernel_rfl) ?_
                                                  go_wp2_with fail
                                                  go_roundw
                                                  case rel => exact ⟨j + 1, nv3, by omega, by omega, by go_num, rfl, HNV3.out, (by have := HJ.out; first | exact this | exact this.drew), HC8.out, HC5.out, HC6.out⟩
                                                  case measure => simp [intOf]; omega
                                            · skip
                                              have z0 : (z.n.kind == 2) = false := beq_eq_false_iff_ne.2 hz0
                                              have nz0 : (z.n.kind != 2) = true := by simp only [bne, z0]; rfl
                                              clear hz0
                                              as_aux_lemma =>
                                                go_wp2_with fail
                                                refine PF.pf_begin (by kernel_rfl) ?_
                                                refine PF.pf_take0 0 (by kernel_rfl) rfl (fun _ _ _ _ _ h => h) (by kernel_rfl) (fun u => by go_simp; try rfl) ?_
                                                try simp only [Act.put, pz0, pz1, pz2]
                                                refine PF.pf_take0 1 (by kernel_rfl) rfl (fun _ _ _ _ _ h => h) (by kernel_rfl) (fun u => by go_simp; try rfl) ?_
                                                try simp only [Act.put, pz0, pz1, pz2]
                                                refine PF.pf_take0 2 (by kernel_rfl) rfl (fun _ _ _ _ _ h => h) (by kernel_rfl) (fun u => by go_simp; try rfl) ?_
                                                try simp only [Act.put, pz0, pz1, pz2]
                                                refine PF.pf_take0 3 (by kernel_rfl) rfl (fun _ _ _ _ _ h => h) (by kernel_rfl) (fun u => by go_simp; try rfl) ?_
                                                try simp only [Act.put, pz0, pz1, pz2]
                                                refine PF.pf_take1 4 (PF.Same (b) _) (by kernel_rfl) rfl (fun _ _ _ _ _ h => h) (by kernel_rfl) (PF.Same.refl _ _) (fun u hu => by have hcu := hu.cell; go_simp; try rfl) ?_
                                                try simp only [Act.put, pz0, pz1, pz2]
                                                refine PF.pf_take0 5 (by kernel_rfl) rfl (fun _ _ _ _ _ h => h) (by kernel_rfl) (fun u => by go_simp; try rfl) ?_
                                                try simp only [Act.put, pz0, pz1, pz2]
                                                refine PF.pf_take0 6 (by kernel_rfl) rfl (fun _ _ _ _ _ h => h) (by kernel_rfl) (fun u => by go_simp; try rfl) ?_
                                                try simp only [Act.put, pz0, pz1, pz2]
                                                refine PF.pf_skip0 7 (by kernel_rfl) rfl (fun _ _ _ _ _ h => h) (by kernel_rfl) ?_
                                                try simp only [Act.put, pz0, pz1, pz2]
                                                refine PF.pf_skip0 8 (by kernel_rfl) rfl (fun _ _ _ _ _ h => h) (by kernel_rfl) ?_
                                                try simp only [Act.put, pz0, pz1, pz2]
                                                refine PF.pf_skip0 9 (by kernel_rfl) rfl (fun _ _ _ _ _ h => h) (by kernel_rfl) ?_
                                                try simp only [Act.put, pz0, pz1, pz2]
                                                refine PF.pf_skip0 10 (by kernel_rfl) rfl (fun _ _ _ _ _ h => h) (by kernel_rfl) ?_
                                                try simp only [Act.put, pz0, pz1, pz2]
                                                refine PF.pf_skip0 11 (by kernel_rfl) rfl (fun _ _ _ _ _ h => h) (by kernel_rfl) ?_
                                                try simp only [Act.put, pz0, pz1, pz2]
                                                refine PF.pf_skip0 12 (by kernel_rfl) rfl (fun _ _ _ _ _ h => h) (by kernel_rfl) ?_
                                                try simp only [Act.put, pz0, pz1, pz2]
                                                refine PF.pf_skip0 13 (by kernel_rfl) rfl (fun _ _ _ _ _ h => h) (by kernel_rfl) ?_
                                                try simp only [Act.put, pz0, pz1, pz2]
                                                refine PF.pf_skip0 14 (by kernel_rfl) rfl (fun _ _ _ _ _ h => h) (by kernel_rfl) ?_
                                                try simp only [Act.put, pz0, pz1, pz2]
                                                refine PF.pf_skip0 15 (by kernel_rfl) rfl (fun _ _ _ _ _ h => h) (by kernel_rfl) ?_
                                                try simp only [Act.put, pz0, pz1, pz2]
                                                refine PF.pf_take0 16 (by kernel_rfl) rfl (fun _ _ _ _ _ h => h) (by kernel_rfl) (fun u => by go_simp; try rfl) ?_
                                                try simp only [Act.put, pz0, pz1, pz2]
                                                refine PF.pf_take0 17 (by kernel_rfl) rfl (fun _ _ _ _ _ h => h) (by kernel_rfl) (fun u => by go_simp; try rfl) ?_
                                                try simp only [Act.put, pz0, pz1, pz2]
                                                refine PF.pf_skip0 18 (by kernel_rfl) rfl (fun _ _ _ _ _ h => h) (by kernel_rfl) ?_
                                                try simp only [Act.put, pz0, pz1, pz2]
                                                refine PF.pf_skip0 19 (by kernel_rfl) rfl (fun _ _ _ _ _ h => h) (by kernel_rfl) ?_
                                                try simp only [Act.put, pz0, pz1, pz2]
                                                refine PF.pf_skip0 20 (by kernel_rfl) rfl (fun _ _ _ _ _ h => h) (by kernel_rfl) ?_
                                                try simp only [Act.put, pz0, pz1, pz2]
                                                refine PF.pf_skip0 21 (by kernel_rfl) rfl (fun _ _ _ _ _ h => h) (by kernel_rfl) ?_
                                                try simp only [Act.put, pz0, pz1, pz2]
                                                refine PF.pf_skip0 22 (by kernel_rfl) rfl (fun _ _ _ _ _ h => h) (by kernel_rfl) ?_
                                                try simp only [Act.put, pz0, pz1, pz2]
                                                refine PF.pf_skip0 23 (by kernel_rfl) rfl (fun _ _ _ _ _ h => h) (by kernel_rfl) ?_
                                                try simp only [Act.put, pz0, pz1, pz2]
                                                refine PF.pf_skip0 24 (by kernel_rfl) rfl (fun _ _ _ _ _ h => h) (by kernel_rfl) ?_
                                                try simp only [Act.put, pz0, pz1, pz2]
                                                refine PF.pf_skip0 25 (by kernel_rfl) rfl (fun _ _ _ _ _ h => h) (by kernel_rfl) ?_
                                                try simp only [Act.put, pz0, pz1, pz2]
                                                refine PF.pf_skip0 26 (by kernel_rfl) rfl (fun _ _ _ _ _ h => h) (by kernel_rfl) ?_
                                                try simp only [Act.put, pz0, pz1, pz2]
                                                refine PF.pf_take0 27 (by kernel_rfl) rfl (fun _ _ _ _ _ h => h) (by kernel_rfl) (fun u => by go_simp; try rfl) ?_
                                                try simp only [Act.put, pz0, pz1, pz2]
                                                refine PF.pf_take0 28 (by kernel_rfl) rfl (fun _ _ _ _ _ h => h) (by kernel_rfl) (fun u => by go_simp; try rfl) ?_
                                                try simp only [Act.put, pz0, pz1, pz2]
                                                refine PF.pf_skip0 29 (by kernel_rfl) rfl (fun _ _ _ _ _ h => h) (by kernel_rfl) ?_
                                                try simp only [Act.put, pz0, pz1, pz2]
                                                refine PF.pf_skip0 30 (by kernel_rfl) rfl (fun _ _ _ _ _ h => h) (by kernel_rfl) ?_
                                                try simp only [Act.put, pz0, pz1, pz2]
                                                refine PF.pf_skip0 31 (by kernel_rfl) rfl (fun _ _ _ _ _ h => h) (by kernel_rfl) ?_
                                                try simp only [Act.put, pz0, pz1, pz2]
                                                refine PF.pf_skip0 32 (by kernel_rfl) rfl (fun _ _ _ _ _ h => h) (by kernel_rfl) ?_
                                                try simp only [Act.put, pz0, pz1, pz2]
                                                refine PF.pf_skip0 33 (by kernel_rfl) rfl (fun _ _ _ _ _ h => h) (by kernel_rfl) ?_
                                                try simp only [Act.put, pz0, pz1, pz2]
                                                refine PF.pf_skip0 34 (by kernel_rfl) rfl (fun _ _ _ _ _ h => h) (by kernel_rfl) ?_
                                                try simp only [Act.put, pz0, pz1, pz2]
                                                refine PF.pf_skip0 35 (by kernel_rfl) rfl (fun _ _ _ _ _ h => h) (by kernel_rfl) ?_
                                                try simp only [Act.put, pz0, pz1, pz2]
                                                refine PF.pf_skip0 36 (by kernel_rfl) rfl (fun _ _ _ _ _ h => h) (by kernel_rfl) ?_
                                                try simp only [Act.put, pz0, pz1, pz2]
                                                refine PF.pf_skip0 37 (by kernel_rfl) rfl (fun _ _ _ _ _ h => h) (by kernel_rfl) ?_
                                                try simp only [Act.put, pz0, pz1, pz2]
                                                refine PF.pf_take0 38 (by kernel_rfl) rfl (fun _ _ _ _ _ h => h) (by kernel_rfl) (fun u => by go_simp; try rfl) ?_
                                                try simp only [Act.put, pz0, pz1, pz2]
                                                refine PF.pf_take0 39 (by kernel_rfl) rfl (fun _ _ _ _ _ h => h) (by kernel_rfl) (fun u => by go_simp; try rfl) ?_
                                                try simp only [Act.put, pz0, pz1, pz2]
                                                refine PF.pf_skip0 40 (by kernel_rfl) rfl (fun _ _ _ _ _ h => h) (by kernel_rfl) ?_
                                                try simp only [Act.put, pz0, pz1, pz2]
                                                refine PF.pf_skip0 41 (by kernel_rfl) rfl (fun _ _ _ _ _ h => h) (by kernel_rfl) ?_
                                                try simp only [Act.put, pz0, pz1, pz2]
                                                refine PF.pf_skip0 42 (by kernel_rfl) rfl (fun _ _ _ _ _ h => h) (by kernel_rfl) ?_
                                                try simp only [Act.put, pz0, pz1, pz2]
                                                refine PF.pf_skip0 43 (by kernel_rfl) rfl (fun _ _ _ _ _ h => h) (by kernel_rfl) ?_
                                                try simp only [Act.put, pz0, pz1, pz2]
                                                refine PF.pf_skip0 44 (by kernel_rfl) rfl (fun _ _ _ _ _ h => h) (by kernel_rfl) ?_
                                                try simp only [Act.put, pz0, pz1, pz2]
                                                refine PF.pf_skip0 45 (by kernel_rfl) rfl (fun _ _ _ _ _ h => h) (by kernel_rfl) ?_
                                                try simp only [Act.put, pz0, pz1, pz2]
                                                refine PF.pf_skip0 46 (by kernel_rfl) rfl (fun _ _ _ _ _ h => h) (by kernel_rfl) ?_
                                                try simp only [Act.put, pz0, pz1, pz2]
                                                refine PF.pf_take0 47 (by kernel_rfl) rfl (fun _ _ _ _ _ h => h) (by kernel_rfl) (fun u => by go_simp; try rfl) ?_
                                                try simp only [Act.put, pz0, pz1, pz2]
                                                refine PF.pf_done (by kernel_rfl) ?_
                                                go_wp2_with fail
                                                go_roundw
                                                case rel => exact ⟨j + 1, nv3, by omega, by omega, by go_num, rfl, HNV3.out, (by have := HJ.out; first | exact this | exact this.drew), HC8.out, HC5.out, HC6.out⟩
                                                case measure => simp [intOf]; omega
                                          · obtain rfl : j = l.length := by omega
                                            go_wp2_with fail
                                            go_roundw
                                            case rel => exact ⟨k + 1, nv3, by omega, by omega, by go_num, rfl, HNV3.out, HJ.out, HC5.out, HC6.out⟩
                                            case measure => simp [intOf]; omega
                                    · skip
                                      have s2 : (y.n.call.at_ == x.n.rep.at_) = false := beq_eq_false_iff_ne.2 hs2
                                      have is2 : ((y.n.call.at_ : Int) == (x.n.rep.at_ : Int)) = false := beq_eq_false_iff_ne.2 (by omega)
                                      have ns2 : ((y.n.call.at_ : Int) != (x.n.rep.at_ : Int)) = true := by simp only [bne, is2]; rfl
                                      clear hs2
                                      as_aux_lemma =>
                                        go_wp2_with fail
                                        go_roundw
                                        case rel => exact ⟨k + 1, nv2, by omega, by omega, by go_num, rfl, HNV2.out, HW.out, H5.out, H6.out⟩
                                        case measure => simp [intOf]; omega
                                  · skip
                                    have s1 : (y.n.call.kind == 2) = false := beq_eq_false_iff_ne.2 hs1
                                    have ns1 : (y.n.call.kind != 2) = true := by simp only [bne, s1]; rfl
                                    clear hs1
                                    as_aux_lemma =>
                                      go_wp2_with fail
                                      go_roundw
                                      case rel => exact ⟨k + 1, nv2, by omega, by omega, by go_num, rfl, HNV2.out, HW.out, H5.out, H6.out⟩
                                      case measure => simp [intOf]; omega
                                · skip
                                  have kB : (y.n.kind == 1) = false := beq_eq_false_iff_ne.2 hkB
                                  have nkB : (y.n.kind != 1) = true := by simp only [bne, kB]; rfl
                                  clear hkB
                                  as_aux_lemma =>
                                    go_wp2_with fail
                                    go_roundw
                                    case rel => exact ⟨k + 1, nv2, by omega, by omega, by go_num, rfl, HNV2.out, HW.out, H5.out, H6.out⟩
                                    case measure => simp [intOf]; omega
                            · skip
                              have ch : (y.n.call.ch == x.n.call.ch) = false := beq_eq_false_iff_ne.2 hch
                              have nch : (y.n.call.ch != x.n.call.ch) = true := by simp only [bne, ch]; rfl
                              clear hch
                              as_aux_lemma =>
                                go_wp2_with fail
                                go_roundw
                                case rel => exact ⟨k + 1, nv2, by omega, by omega, by go_num, rfl, HNV2.out, HW.out, H5.out, H6.out⟩
                                case measure => simp [intOf]; omega
                      · obtain rfl : k = l.length := by omega
                        go_wp2_with fail
                        go_roundw
                        case rel => exact ⟨i + 1, nv2, hlt, by go_num, rfl, HNV2.out, HK.out⟩
                        case measure => simp [intOf]; omega
                  · skip
                    have p3 : (x.n.rep.res == 0) = false := beq_eq_false_iff_ne.2 hp3
                    have np3 : (x.n.rep.res != 0) = true := by simp only [bne, p3]; rfl
                    clear hp3
                    as_aux_lemma =>
                      go_wp2_with fail
                      go_roundw
                      case rel => exact ⟨i + 1, nv, hlt, by go_num, rfl, HNV.out, HW.out⟩
                      case measure => simp [intOf]; omega
                · skip
                  have p2 : (x.n.call.kind == 1) = false := beq_eq_false_iff_ne.2 hp2
                  have np2 : (x.n.call.kind != 1) = true := by simp only [bne, p2]; rfl
                  clear hp2
                  as_aux_lemma =>
                    go_wp2_with fail
                    go_roundw
                    case rel => exact ⟨i + 1, nv, hlt, by go_num, rfl, HNV.out, HW.out⟩
                    case measure => simp [intOf]; omega
              · skip
                have p1 : (x.n.kind == 2) = false := beq_eq_false_iff_ne.2 hp1
                have np1 : (x.n.kind != 2) = true := by simp only [bne, p1]; rfl
                clear hp1
                as_aux_lemma =>
                  go_wp2_with fail
                  go_roundw
                  case rel => exact ⟨i + 1, nv, hlt, by go_num, rfl, HNV.out, HW.out⟩
                  case measure => simp [intOf]; omega
        · obtain rfl : i = l.length := by omega
          have hmay := jmay_any (HSL.out.below HB.out) HOK.out (by rw [List.length_map]; omega)
          have HMAY := Lib.hid hmay
          clear hmay
          go_wp2_with fail
          refine HMAY.out.mono ?_
          rintro e w4 ⟨hb4, b4, e4, rfl, hp⟩
          have HT4 := Lib.hid (HB.out.trans (hb4.mono HB.out.size))
          have HP := Lib.hid hp
          clear hb4 hp HMAY
          cases nv with
          | false =>
            go_wp2_with fail
            refine (HAW.out w4 HT4.out).mono ?_
            rintro e w5 ⟨rfl, hb⟩
            go_wp2_with fail
            go_ret
            exact ⟨rfl, hb⟩
          | true =>
            cases b4 with
            | true => exact absurd (HNV.out rfl) (never_may HP.out rfl)
            | false =>
              go_wp2_with fail
              refine (HAW.out w4 HT4.out).mono ?_
              rintro e w5 ⟨rfl, hb⟩
              go_wp2_with fail
              go_ret
              exact ⟨rfl, hb⟩
end JudgeNever
end Go.Proofs.YtpjmolnkmlpfeaaGreatDoor
