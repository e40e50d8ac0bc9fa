/- The document's Fold. -/
import Derived.Test.YtgdbknbpnlpdnaaFoldC
namespace Go.Proofs.Ytgdbknbpnlpdnaa
set_option linter.unusedVariables false
set_option linter.unusedSimpArgs false
open Go.RowKit

theorem behind_at {out : List Mk} {j : Nat} (hj : out.length = j + 1) (x : Mk) : behindB out x = decide (out[j].p.toInt < x.p.toInt) := by
  obtain ⟨A, y, rfl⟩ := snoc_of hj
  have hA : A.length = j := by simpa using hj
  subst hA
  rw [behind_snoc, List.getElem_concat_length rfl]
theorem pick_cases {M out : List Mk} {i : Nat} {k : Int} (h : PickI M out i k) : k = -1 ∨ ∃ n : Nat, k = (n : Int) ∧ n < M.length := by
  by_cases e : k = -1
  · exact .inl e
  · obtain ⟨n, h1, _, h3, _⟩ := h.some_ e
    exact .inr ⟨n, h1, h3⟩
def lenV (v : Value) : Nat := match v with | .slice _ n _ => n | _ => 0
set_option maxRecDepth 100000 in
set_option maxHeartbeats 16000000 in
theorem reffold_any (A : Option Addr) (c : Nat) (ms : List Mk) (B : Option Addr) (d : Nat) (ns : List Mk) (q : UInt64) (w : World) (hA : Marks w A ms) (hB : Marks w B ns) (hn : ms.length ≤ 100000) (hm : ns.length ≤ 100000) :
    Calls Try.prog 30 #[.slice A ms.length c, .slice B ns.length d, .int .u64 (q.toNat : Int)] w fun e w' => (∃ v S, e = .returned v ∧ FoldOf (aheadF q (ms ++ ns)) S ∧ S.length ≤ 200000 ∧ OwnM w' w.heap.size v S) ∧ Below w.heap.size w w' := by
  have hown0 : (w.alloc (.cells #[] 38)).ownsRow w.heap.size 38 3 (.slice (some ⟨w.heap.size, 0, none⟩) 0 0) 0 [] := World.ownsRow_made _ _ _ (Nat.le_refl _) (by simp [maxLen]) rfl
  have hA' := Reads.alloc hA (.cells #[] 38)
  have h1 := Mk.row_one ms
  have h2 := Mk.row_one ns
  have HB := Lib.hid hB
  have HB0 := Lib.hid (below_new w (.cells #[] 38))
  have HLM : Hid ((ms ++ ns).length ≤ 200000) := by show _ ≤ _; rw [List.length_append]; omega
  clear hA hB
  obtain ⟨L, hL⟩ : ∃ L, ms ++ ns = L := ⟨_, rfl⟩
  obtain ⟨M, hM⟩ : ∃ M, aheadF q L = M := ⟨_, rfl⟩
  rw [hL, hM]
  have HLE := Lib.hid hL
  have HME := Lib.hid hM
  clear hL hM
  go_enter Try.func30, Try.ntmps30
  go_wp2_with (at_builtin; refine app_list marks_ty rfl rfl hown0 rfl hA' rfl h1 (by omega) (by simp) ?_; intro v3 w3 hown3 hg3 _; refine Hid.out ?_)
  refine Lib.hid ?_
  have HB3 := Lib.hid (HB0.out.grown hg3 (by simp) (own_ge hown0))
  have ho3 : OwnM w3 w.heap.size v3 ms := by
    have h : OwnM w3 w.heap.size v3 ([] ++ ms) := OwnM.app (w' := w3) hown3 rfl rfl
    exact h
  clear hown3 hg3 hA' hown0 h1 HB0
  obtain ⟨A3, c3, rfl, _, _⟩ := ho3.form
  have hB' := HB.out.below HB3.out
  have HS3 := Lib.hid HB3.out.size
  go_wp2_with (at_builtin; refine app_list marks_ty rfl rfl ho3 rfl hB' rfl h2 (by omega) (by have := HS3.out; omega) ?_; intro v4 w4 hown4 hg4 _; refine Hid.out ?_)
  refine Lib.hid ?_
  have HB4 := Lib.hid (HB3.out.grown hg4 HB3.out.size (own_ge ho3))
  have ho4 : OwnM w4 w.heap.size v4 (ms ++ ns) := OwnM.app (w' := w4) hown4 rfl rfl
  have HN0 : Hid (ms.length + ns.length = (ms ++ ns).length) := by { show _ = _; rw [List.length_append] }
  clear hown4 hg4 hB' h2 HB3 HS3 ho3 HB hn hm
  rw [HLE.out] at ho4 HLM HN0
  obtain ⟨A4, c4, e4, _, _⟩ := ho4.form
  subst e4
  have HC := Lib.hid (refcut_any A4 c4 L q w4 ho4.marks (by have := HLM.out; omega))
  clear ho4
  go_wp2_with fail
  refine HC.out.mono ?_
  rintro e w1 ⟨⟨vM, rfl, hoM⟩, hb1⟩
  have HBW := Lib.hid (below_call HB4.out HB4.out.size hb1)
  have HML : Hid ((aheadF q L).length ≤ 200000) := Nat.le_trans (List.length_filter_le _ _) HLM.out
  have hoM : OwnM w1 w4.heap.size vM (aheadF q L) := hoM
  rw [HME.out] at hoM HML
  obtain ⟨AM, cM, rfl, _, _⟩ := hoM.form
  have HOM := Lib.hid hoM.marks
  clear hoM hb1 HC HB4 HLM HN0
  go_wp2_with fail
  obtain ⟨w0, rfl⟩ : ∃ w0 : World, w0 = w1 := ⟨_, rfl⟩
  go_loopw [8] (fun v wr => ∃ out : List Mk, Told M out ∧ out.length + restF M out ≤ M.length ∧ OwnM wr w0.heap.size v out ∧ Below w0.heap.size w0 wr) (fun v _ => M.length - lenV v)
  case atStart => exact ⟨[], Told.nil M, by have := restF_le M []; simpa using this, OwnM.nil_ _ _, Below.refl _ _⟩
  case round =>
    skip
    obtain ⟨wo, rfl⟩ : ∃ wo : World, wo = wr := ⟨_, rfl⟩
    obtain ⟨out, ht, hr, ho, hb⟩ := hrel
    have HT := Lib.hid ht
    have HR := Lib.hid hr
    have HO := Lib.hid ho
    have HB := Lib.hid hb
    obtain ⟨Ao, co, rfl, _, _⟩ := ho.form
    have HOL : Hid (out.length ≤ 200000) := by { show _ ≤ _; have := HML.out; omega }
    clear ht hr ho hb
    rcases Nat.eq_zero_or_pos out.length with h0 | h0
    · have HJ : Hid (out.length = 0) := h0
      rw [h0]
      clear h0
      go_wp2_with fail
      go_loopw [9, 10] (fun kv iv wi => ∃ (i : Nat) (kk : Int), i ≤ M.length ∧ iv = .int .i64 (i : Int) ∧ kv = .int .i64 kk ∧ PickI M out i kk ∧ Below wo.heap.size wo wi) (fun _ iv _ => M.length - (intOf iv).toNat)
      case atStart => exact ⟨0, -1, by omega, rfl, rfl, PickI.zero M out, Below.refl _ _⟩
      case round =>
        skip
        obtain ⟨i, kk, hi, rfl, rfl, hp, hbi⟩ := hrel
        have HP := Lib.hid hp
        have HBI := Lib.hid hbi
        clear hp hbi
        by_cases hlt : i < M.length
        · have hkb : i < 200000 := by have := HML.out; omega
          have HBB := Lib.hid (below_call HB.out HB.out.size HBI.out)
          obtain ⟨b, oo, rfl, had, c0, _, _⟩ := HOM.out.at_ hlt
          have c0 := (HBB.out.cell (p := ⟨b, oo + i * 3, none⟩) had).trans c0
          have HLT := Lib.hid hlt
          generalize hxi : M[i] = xi at c0
          have HXI := Lib.hid hxi
          clear hxi
          have HBH : Hid (behindB out xi = true) := by { rw [List.eq_nil_of_length_eq_zero HJ.out]; rfl }
          rcases pick_cases HP.out with hk1 | ⟨n, hk1, hnM⟩
          · have HNX := Lib.hid (HP.out.take HLT.out (by have h := HBH.out; rw [← HXI.out] at h; exact h) (fun h => absurd hk1 h))
            subst hk1
            go_wp2_with fail
            refine PF.pf_begin (by kernel_rfl) ?_
            refine PF.pf_take0 0 (by kernel_rfl) rfl (fun _ _ _ _ _ h => h) (by kernel_rfl) (fun u => by go_simp; try rfl) ?_
            try simp only [Act.put, pz0, pz1, pz2]
            refine PF.pf_take0 1 (by kernel_rfl) rfl (fun _ _ _ _ _ h => h) (by kernel_rfl) (fun u => by go_simp; try rfl) ?_
            try simp only [Act.put, pz0, pz1, pz2]
            refine PF.pf_take0 2 (by kernel_rfl) rfl (fun _ _ _ _ _ h => h) (by kernel_rfl) (fun u => by go_simp; try rfl) ?_
            try simp only [Act.put, pz0, pz1, pz2]
            refine PF.pf_take0 3 (by kernel_rfl) rfl (fun _ _ _ _ _ h => h) (by kernel_rfl) (fun u => by go_simp; try rfl) ?_
            try simp only [Act.put, pz0, pz1, pz2]
            refine PF.pf_skip0 4 (by kernel_rfl) rfl (fun _ _ _ _ _ h => h) (by kernel_rfl) ?_
            try simp only [Act.put, pz0, pz1, pz2]
            refine PF.pf_skip0 5 (by kernel_rfl) rfl (fun _ _ _ _ _ h => h) (by kernel_rfl) ?_
            try simp only [Act.put, pz0, pz1, pz2]
            refine PF.pf_skip0 6 (by kernel_rfl) rfl (fun _ _ _ _ _ h => h) (by kernel_rfl) ?_
            try simp only [Act.put, pz0, pz1, pz2]
            refine PF.pf_skip0 7 (by kernel_rfl) rfl (fun _ _ _ _ _ h => h) (by kernel_rfl) ?_
            try simp only [Act.put, pz0, pz1, pz2]
            refine PF.pf_skip0 8 (by kernel_rfl) rfl (fun _ _ _ _ _ h => h) (by kernel_rfl) ?_
            try simp only [Act.put, pz0, pz1, pz2]
            refine PF.pf_skip0 9 (by kernel_rfl) rfl (fun _ _ _ _ _ h => h) (by kernel_rfl) ?_
            try simp only [Act.put, pz0, pz1, pz2]
            refine PF.pf_skip0 10 (by kernel_rfl) rfl (fun _ _ _ _ _ h => h) (by kernel_rfl) ?_
            try simp only [Act.put, pz0, pz1, pz2]
            refine PF.pf_skip0 11 (by kernel_rfl) rfl (fun _ _ _ _ _ h => h) (by kernel_rfl) ?_
            try simp only [Act.put, pz0, pz1, pz2]
            refine PF.pf_skip0 12 (by kernel_rfl) rfl (fun _ _ _ _ _ h => h) (by kernel_rfl) ?_
            try simp only [Act.put, pz0, pz1, pz2]
            refine PF.pf_skip0 13 (by kernel_rfl) rfl (fun _ _ _ _ _ h => h) (by kernel_rfl) ?_
            try simp only [Act.put, pz0, pz1, pz2]
            refine PF.pf_skip0 14 (by kernel_rfl) rfl (fun _ _ _ _ _ h => h) (by kernel_rfl) ?_
            try simp only [Act.put, pz0, pz1, pz2]
            refine PF.pf_skip0 15 (by kernel_rfl) rfl (fun _ _ _ _ _ h => h) (by kernel_rfl) ?_
            try simp only [Act.put, pz0, pz1, pz2]
            refine PF.pf_skip0 16 (by kernel_rfl) rfl (fun _ _ _ _ _ h => h) (by kernel_rfl) ?_
            try simp only [Act.put, pz0, pz1, pz2]
            refine PF.pf_take0 17 (by kernel_rfl) rfl (fun _ _ _ _ _ h => h) (by kernel_rfl) (fun u => by go_simp; try rfl) ?_
            try simp only [Act.put, pz0, pz1, pz2]
            refine PF.pf_take0 18 (by kernel_rfl) rfl (fun _ _ _ _ _ h => h) (by kernel_rfl) (fun u => by go_simp; try rfl) ?_
            try simp only [Act.put, pz0, pz1, pz2]
            refine PF.pf_done (by kernel_rfl) ?_
            go_wp2_with fail
            refine PF.pf_begin (by kernel_rfl) ?_
            refine PF.pf_take0 0 (by kernel_rfl) rfl (fun _ _ _ _ _ h => h) (by kernel_rfl) (fun u => by go_simp; try rfl) ?_
            try simp only [Act.put, pz0, pz1, pz2]
            refine PF.pf_take0 1 (by kernel_rfl) rfl (fun _ _ _ _ _ h => h) (by kernel_rfl) (fun u => by go_simp; try rfl) ?_
            try simp only [Act.put, pz0, pz1, pz2]
            refine PF.pf_take0 2 (by kernel_rfl) rfl (fun _ _ _ _ _ h => h) (by kernel_rfl) (fun u => by go_simp; try rfl) ?_
            try simp only [Act.put, pz0, pz1, pz2]
            refine PF.pf_take0 3 (by kernel_rfl) rfl (fun _ _ _ _ _ h => h) (by kernel_rfl) (fun u => by go_simp; try rfl) ?_
            try simp only [Act.put, pz0, pz1, pz2]
            refine PF.pf_take0 4 (by kernel_rfl) rfl (fun _ _ _ _ _ h => h) (by kernel_rfl) (fun u => by go_simp; try rfl) ?_
            try simp only [Act.put, pz0, pz1, pz2]
            refine PF.pf_skip0 5 (by kernel_rfl) rfl (fun _ _ _ _ _ h => h) (by kernel_rfl) ?_
            try simp only [Act.put, pz0, pz1, pz2]
            refine PF.pf_skip0 6 (by kernel_rfl) rfl (fun _ _ _ _ _ h => h) (by kernel_rfl) ?_
            try simp only [Act.put, pz0, pz1, pz2]
            refine PF.pf_skip0 7 (by kernel_rfl) rfl (fun _ _ _ _ _ h => h) (by kernel_rfl) ?_
            try simp only [Act.put, pz0, pz1, pz2]
            refine PF.pf_skip0 8 (by kernel_rfl) rfl (fun _ _ _ _ _ h => h) (by kernel_rfl) ?_
            try simp only [Act.put, pz0, pz1, pz2]
            refine PF.pf_skip0 9 (by kernel_rfl) rfl (fun _ _ _ _ _ h => h) (by kernel_rfl) ?_
            try simp only [Act.put, pz0, pz1, pz2]
            refine PF.pf_skip0 10 (by kernel_rfl) rfl (fun _ _ _ _ _ h => h) (by kernel_rfl) ?_
            try simp only [Act.put, pz0, pz1, pz2]
            refine PF.pf_skip0 11 (by kernel_rfl) rfl (fun _ _ _ _ _ h => h) (by kernel_rfl) ?_
            try simp only [Act.put, pz0, pz1, pz2]
            refine PF.pf_skip0 12 (by kernel_rfl) rfl (fun _ _ _ _ _ h => h) (by kernel_rfl) ?_
            try simp only [Act.put, pz0, pz1, pz2]
            refine PF.pf_skip0 13 (by kernel_rfl) rfl (fun _ _ _ _ _ h => h) (by kernel_rfl) ?_
            try simp only [Act.put, pz0, pz1, pz2]
            refine PF.pf_skip0 14 (by kernel_rfl) rfl (fun _ _ _ _ _ h => h) (by kernel_rfl) ?_
            try simp only [Act.put, pz0, pz1, pz2]
            refine PF.pf_skip0 15 (by kernel_rfl) rfl (fun _ _ _ _ _ h => h) (by kernel_rfl) ?_
            try simp only [Act.put, pz0, pz1, pz2]
            refine PF.pf_take0 16 (by kernel_rfl) rfl (fun _ _ _ _ _ h => h) (by kernel_rfl) (fun u => by go_simp; try rfl) ?_
            try simp only [Act.put, pz0, pz1, pz2]
            refine PF.pf_take0 17 (by kernel_rfl) rfl (fun _ _ _ _ _ h => h) (by kernel_rfl) (fun u => by go_simp; try rfl) ?_
            try simp only [Act.put, pz0, pz1, pz2]
            refine PF.pf_done (by kernel_rfl) ?_
            go_wp2_with fail
            go_roundw
            case rel => exact ⟨i + 1, (i : Int), by have := HLT.out; omega, by go_num, rfl, HNX.out, HBI.out.drew.drew⟩
            case measure => have := HLT.out; simp [intOf]; omega
          subst hk1
          obtain ⟨b', o', e', _, k0, _, _⟩ := HOM.out.at_ hnM
          injection e' with e'
          injection e' with e1 e2
          subst e1 e2
          have k0 := (HBB.out.cell (p := ⟨b, oo + n * 3, none⟩) had).trans k0
          generalize hxn : M[n] = xn at k0
          have HXN := Lib.hid hxn
          have HNM := Lib.hid hnM
          have n1 : decide ((n : Int) < 0) = false := decide_eq_false (by omega)
          have n2 : (n : Int) < (M.length : Int) := by omega
          clear hxn
          by_cases hle : xi.p.toInt ≤ xn.p.toInt
          · skip
            have HNX := Lib.hid (HP.out.take HLT.out (by have h := HBH.out; rw [← HXI.out] at h; exact h) (fun _ => ⟨n, rfl, HNM.out, by have h := hle; rw [← HXI.out, ← HXN.out] at h; exact h⟩))
            have l1 : decide (xi.p.toInt ≤ xn.p.toInt) = true := decide_eq_true hle
            clear hle
            go_wp2_with fail
            refine PF.pf_begin (by kernel_rfl) ?_
            refine PF.pf_take0 0 (by kernel_rfl) rfl (fun _ _ _ _ _ h => h) (by kernel_rfl) (fun u => by go_simp; try rfl) ?_
            try simp only [Act.put, pz0, pz1, pz2]
            refine PF.pf_take0 1 (by kernel_rfl) rfl (fun _ _ _ _ _ h => h) (by kernel_rfl) (fun u => by go_simp; try rfl) ?_
            try simp only [Act.put, pz0, pz1, pz2]
            refine PF.pf_take0 2 (by kernel_rfl) rfl (fun _ _ _ _ _ h => h) (by kernel_rfl) (fun u => by go_simp; try rfl) ?_
            try simp only [Act.put, pz0, pz1, pz2]
            refine PF.pf_take0 3 (by kernel_rfl) rfl (fun _ _ _ _ _ h => h) (by kernel_rfl) (fun u => by go_simp; try rfl) ?_
            try simp only [Act.put, pz0, pz1, pz2]
            refine PF.pf_skip0 4 (by kernel_rfl) rfl (fun _ _ _ _ _ h => h) (by kernel_rfl) ?_
            try simp only [Act.put, pz0, pz1, pz2]
            refine PF.pf_skip0 5 (by kernel_rfl) rfl (fun _ _ _ _ _ h => h) (by kernel_rfl) ?_
            try simp only [Act.put, pz0, pz1, pz2]
            refine PF.pf_skip0 6 (by kernel_rfl) rfl (fun _ _ _ _ _ h => h) (by kernel_rfl) ?_
            try simp only [Act.put, pz0, pz1, pz2]
            refine PF.pf_skip0 7 (by kernel_rfl) rfl (fun _ _ _ _ _ h => h) (by kernel_rfl) ?_
            try simp only [Act.put, pz0, pz1, pz2]
            refine PF.pf_skip0 8 (by kernel_rfl) rfl (fun _ _ _ _ _ h => h) (by kernel_rfl) ?_
            try simp only [Act.put, pz0, pz1, pz2]
            refine PF.pf_skip0 9 (by kernel_rfl) rfl (fun _ _ _ _ _ h => h) (by kernel_rfl) ?_
            try simp only [Act.put, pz0, pz1, pz2]
            refine PF.pf_skip0 10 (by kernel_rfl) rfl (fun _ _ _ _ _ h => h) (by kernel_rfl) ?_
            try simp only [Act.put, pz0, pz1, pz2]
            refine PF.pf_skip0 11 (by kernel_rfl) rfl (fun _ _ _ _ _ h => h) (by kernel_rfl) ?_
            try simp only [Act.put, pz0, pz1, pz2]
            refine PF.pf_skip0 12 (by kernel_rfl) rfl (fun _ _ _ _ _ h => h) (by kernel_rfl) ?_
            try simp only [Act.put, pz0, pz1, pz2]
            refine PF.pf_skip0 13 (by kernel_rfl) rfl (fun _ _ _ _ _ h => h) (by kernel_rfl) ?_
            try simp only [Act.put, pz0, pz1, pz2]
            refine PF.pf_skip0 14 (by kernel_rfl) rfl (fun _ _ _ _ _ h => h) (by kernel_rfl) ?_
            try simp only [Act.put, pz0, pz1, pz2]
            refine PF.pf_skip0 15 (by kernel_rfl) rfl (fun _ _ _ _ _ h => h) (by kernel_rfl) ?_
            try simp only [Act.put, pz0, pz1, pz2]
            refine PF.pf_skip0 16 (by kernel_rfl) rfl (fun _ _ _ _ _ h => h) (by kernel_rfl) ?_
            try simp only [Act.put, pz0, pz1, pz2]
            refine PF.pf_take0 17 (by kernel_rfl) rfl (fun _ _ _ _ _ h => h) (by kernel_rfl) (fun u => by go_simp; try rfl) ?_
            try simp only [Act.put, pz0, pz1, pz2]
            refine PF.pf_take0 18 (by kernel_rfl) rfl (fun _ _ _ _ _ h => h) (by kernel_rfl) (fun u => by go_simp; try rfl) ?_
            try simp only [Act.put, pz0, pz1, pz2]
            refine PF.pf_done (by kernel_rfl) ?_
            go_wp2_with fail
            refine PF.pf_begin (by kernel_rfl) ?_
            refine PF.pf_take0 0 (by kernel_rfl) rfl (fun _ _ _ _ _ h => h) (by kernel_rfl) (fun u => by go_simp; try rfl) ?_
            try simp only [Act.put, pz0, pz1, pz2]
            refine PF.pf_take0 1 (by kernel_rfl) rfl (fun _ _ _ _ _ h => h) (by kernel_rfl) (fun u => by go_simp; try rfl) ?_
            try simp only [Act.put, pz0, pz1, pz2]
            refine PF.pf_take0 2 (by kernel_rfl) rfl (fun _ _ _ _ _ h => h) (by kernel_rfl) (fun u => by go_simp; try rfl) ?_
            try simp only [Act.put, pz0, pz1, pz2]
            refine PF.pf_take0 3 (by kernel_rfl) rfl (fun _ _ _ _ _ h => h) (by kernel_rfl) (fun u => by go_simp; try rfl) ?_
            try simp only [Act.put, pz0, pz1, pz2]
            refine PF.pf_take0 4 (by kernel_rfl) rfl (fun _ _ _ _ _ h => h) (by kernel_rfl) (fun u => by go_simp; try rfl) ?_
            try simp only [Act.put, pz0, pz1, pz2]
            refine PF.pf_take0 5 (by kernel_rfl) rfl (fun _ _ _ _ _ h => h) (by kernel_rfl) (fun u => by go_simp; try rfl) ?_
            try simp only [Act.put, pz0, pz1, pz2]
            refine PF.pf_take0 6 (by kernel_rfl) rfl (fun _ _ _ _ _ h => h) (by kernel_rfl) (fun u => by go_simp; try rfl) ?_
            try simp only [Act.put, pz0, pz1, pz2]
            refine PF.pf_take0 7 (by kernel_rfl) rfl (fun _ _ _ _ _ h => h) (by kernel_rfl) (fun u => by go_simp; try rfl) ?_
            try simp only [Act.put, pz0, pz1, pz2]
            refine PF.pf_take0 8 (by kernel_rfl) rfl (fun _ _ _ _ _ h => h) (by kernel_rfl) (fun u => by go_simp; try rfl) ?_
            try simp only [Act.put, pz0, pz1, pz2]
            refine PF.pf_take1 9 (PF.Same (b) _) (by kernel_rfl) rfl (fun _ _ _ _ _ h => h) (by kernel_rfl) (PF.Same.refl _ _) (fun u hu => by have hcu := hu.cell; go_simp; try rfl) ?_
            try simp only [Act.put, pz0, pz1, pz2]
            refine PF.pf_take0 10 (by kernel_rfl) rfl (fun _ _ _ _ _ h => h) (by kernel_rfl) (fun u => by go_simp; try rfl) ?_
            try simp only [Act.put, pz0, pz1, pz2]
            refine PF.pf_take0 11 (by kernel_rfl) rfl (fun _ _ _ _ _ h => h) (by kernel_rfl) (fun u => by go_simp; try rfl) ?_
            try simp only [Act.put, pz0, pz1, pz2]
            refine PF.pf_take0 12 (by kernel_rfl) rfl (fun _ _ _ _ _ h => h) (by kernel_rfl) (fun u => by go_simp; try rfl) ?_
            try simp only [Act.put, pz0, pz1, pz2]
            refine PF.pf_take0 13 (by kernel_rfl) rfl (fun _ _ _ _ _ h => h) (by kernel_rfl) (fun u => by go_simp; try rfl) ?_
            try simp only [Act.put, pz0, pz1, pz2]
            refine PF.pf_take1 14 (PF.Same (b) _) (by kernel_rfl) rfl (fun _ _ _ _ _ h => h) (by kernel_rfl) (PF.Same.refl _ _) (fun u hu => by have hcu := hu.cell; go_simp; try rfl) ?_
            try simp only [Act.put, pz0, pz1, pz2]
            refine PF.pf_take0 15 (by kernel_rfl) rfl (fun _ _ _ _ _ h => h) (by kernel_rfl) (fun u => by go_simp; try rfl) ?_
            try simp only [Act.put, pz0, pz1, pz2]
            refine PF.pf_take0 16 (by kernel_rfl) rfl (fun _ _ _ _ _ h => h) (by kernel_rfl) (fun u => by go_simp; try rfl) ?_
            try simp only [Act.put, pz0, pz1, pz2]
            refine PF.pf_take0 17 (by kernel_rfl) rfl (fun _ _ _ _ _ h => h) (by kernel_rfl) (fun u => by go_simp; try rfl) ?_
            try simp only [Act.put, pz0, pz1, pz2]
            refine PF.pf_done (by kernel_rfl) ?_
            go_wp2_with fail
            go_roundw
            case rel => exact ⟨i + 1, (i : Int), by have := HLT.out; omega, by go_num, rfl, HNX.out, HBI.out.drew.drew⟩
            case measure => have := HLT.out; simp [intOf]; omega
          · skip
            have HNX := Lib.hid (HP.out.keep HLT.out HNM.out (by have h := Int.lt_of_not_ge hle; rw [← HXI.out, ← HXN.out] at h; exact h))
            have l1 : decide (xi.p.toInt ≤ xn.p.toInt) = false := decide_eq_false hle
            clear hle
            go_wp2_with fail
            refine PF.pf_begin (by kernel_rfl) ?_
            refine PF.pf_take0 0 (by kernel_rfl) rfl (fun _ _ _ _ _ h => h) (by kernel_rfl) (fun u => by go_simp; try rfl) ?_
            try simp only [Act.put, pz0, pz1, pz2]
            refine PF.pf_take0 1 (by kernel_rfl) rfl (fun _ _ _ _ _ h => h) (by kernel_rfl) (fun u => by go_simp; try rfl) ?_
            try simp only [Act.put, pz0, pz1, pz2]
            refine PF.pf_take0 2 (by kernel_rfl) rfl (fun _ _ _ _ _ h => h) (by kernel_rfl) (fun u => by go_simp; try rfl) ?_
            try simp only [Act.put, pz0, pz1, pz2]
            refine PF.pf_take0 3 (by kernel_rfl) rfl (fun _ _ _ _ _ h => h) (by kernel_rfl) (fun u => by go_simp; try rfl) ?_
            try simp only [Act.put, pz0, pz1, pz2]
            refine PF.pf_skip0 4 (by kernel_rfl) rfl (fun _ _ _ _ _ h => h) (by kernel_rfl) ?_
            try simp only [Act.put, pz0, pz1, pz2]
            refine PF.pf_skip0 5 (by kernel_rfl) rfl (fun _ _ _ _ _ h => h) (by kernel_rfl) ?_
            try simp only [Act.put, pz0, pz1, pz2]
            refine PF.pf_skip0 6 (by kernel_rfl) rfl (fun _ _ _ _ _ h => h) (by kernel_rfl) ?_
            try simp only [Act.put, pz0, pz1, pz2]
            refine PF.pf_skip0 7 (by kernel_rfl) rfl (fun _ _ _ _ _ h => h) (by kernel_rfl) ?_
            try simp only [Act.put, pz0, pz1, pz2]
            refine PF.pf_skip0 8 (by kernel_rfl) rfl (fun _ _ _ _ _ h => h) (by kernel_rfl) ?_
            try simp only [Act.put, pz0, pz1, pz2]
            refine PF.pf_skip0 9 (by kernel_rfl) rfl (fun _ _ _ _ _ h => h) (by kernel_rfl) ?_
            try simp only [Act.put, pz0, pz1, pz2]
            refine PF.pf_skip0 10 (by kernel_rfl) rfl (fun _ _ _ _ _ h => h) (by kernel_rfl) ?_
            try simp only [Act.put, pz0, pz1, pz2]
            refine PF.pf_skip0 11 (by kernel_rfl) rfl (fun _ _ _ _ _ h => h) (by kernel_rfl) ?_
            try simp only [Act.put, pz0, pz1, pz2]
            refine PF.pf_skip0 12 (by kernel_rfl) rfl (fun _ _ _ _ _ h => h) (by kernel_rfl) ?_
            try simp only [Act.put, pz0, pz1, pz2]
            refine PF.pf_skip0 13 (by kernel_rfl) rfl (fun _ _ _ _ _ h => h) (by kernel_rfl) ?_
            try simp only [Act.put, pz0, pz1, pz2]
            refine PF.pf_skip0 14 (by kernel_rfl) rfl (fun _ _ _ _ _ h => h) (by kernel_rfl) ?_
            try simp only [Act.put, pz0, pz1, pz2]
            refine PF.pf_skip0 15 (by kernel_rfl) rfl (fun _ _ _ _ _ h => h) (by kernel_rfl) ?_
            try simp only [Act.put, pz0, pz1, pz2]
            refine PF.pf_skip0 16 (by kernel_rfl) rfl (fun _ _ _ _ _ h => h) (by kernel_rfl) ?_
            try simp only [Act.put, pz0, pz1, pz2]
            refine PF.pf_take0 17 (by kernel_rfl) rfl (fun _ _ _ _ _ h => h) (by kernel_rfl) (fun u => by go_simp; try rfl) ?_
            try simp only [Act.put, pz0, pz1, pz2]
            refine PF.pf_take0 18 (by kernel_rfl) rfl (fun _ _ _ _ _ h => h) (by kernel_rfl) (fun u => by go_simp; try rfl) ?_
            try simp only [Act.put, pz0, pz1, pz2]
            refine PF.pf_done (by kernel_rfl) ?_
            go_wp2_with fail
            refine PF.pf_begin (by kernel_rfl) ?_
            refine PF.pf_take0 0 (by kernel_rfl) rfl (fun _ _ _ _ _ h => h) (by kernel_rfl) (fun u => by go_simp; try rfl) ?_
            try simp only [Act.put, pz0, pz1, pz2]
            refine PF.pf_take0 1 (by kernel_rfl) rfl (fun _ _ _ _ _ h => h) (by kernel_rfl) (fun u => by go_simp; try rfl) ?_
            try simp only [Act.put, pz0, pz1, pz2]
            refine PF.pf_take0 2 (by kernel_rfl) rfl (fun _ _ _ _ _ h => h) (by kernel_rfl) (fun u => by go_simp; try rfl) ?_
            try simp only [Act.put, pz0, pz1, pz2]
            refine PF.pf_take0 3 (by kernel_rfl) rfl (fun _ _ _ _ _ h => h) (by kernel_rfl) (fun u => by go_simp; try rfl) ?_
            try simp only [Act.put, pz0, pz1, pz2]
            refine PF.pf_take0 4 (by kernel_rfl) rfl (fun _ _ _ _ _ h => h) (by kernel_rfl) (fun u => by go_simp; try rfl) ?_
            try simp only [Act.put, pz0, pz1, pz2]
            refine PF.pf_take0 5 (by kernel_rfl) rfl (fun _ _ _ _ _ h => h) (by kernel_rfl) (fun u => by go_simp; try rfl) ?_
            try simp only [Act.put, pz0, pz1, pz2]
            refine PF.pf_take0 6 (by kernel_rfl) rfl (fun _ _ _ _ _ h => h) (by kernel_rfl) (fun u => by go_simp; try rfl) ?_
            try simp only [Act.put, pz0, pz1, pz2]
            refine PF.pf_take0 7 (by kernel_rfl) rfl (fun _ _ _ _ _ h => h) (by kernel_rfl) (fun u => by go_simp; try rfl) ?_
            try simp only [Act.put, pz0, pz1, pz2]
            refine PF.pf_take0 8 (by kernel_rfl) rfl (fun _ _ _ _ _ h => h) (by kernel_rfl) (fun u => by go_simp; try rfl) ?_
            try simp only [Act.put, pz0, pz1, pz2]
            refine PF.pf_take1 9 (PF.Same (b) _) (by kernel_rfl) rfl (fun _ _ _ _ _ h => h) (by kernel_rfl) (PF.Same.refl _ _) (fun u hu => by have hcu := hu.cell; go_simp; try rfl) ?_
            try simp only [Act.put, pz0, pz1, pz2]
            refine PF.pf_take0 10 (by kernel_rfl) rfl (fun _ _ _ _ _ h => h) (by kernel_rfl) (fun u => by go_simp; try rfl) ?_
            try simp only [Act.put, pz0, pz1, pz2]
            refine PF.pf_take0 11 (by kernel_rfl) rfl (fun _ _ _ _ _ h => h) (by kernel_rfl) (fun u => by go_simp; try rfl) ?_
            try simp only [Act.put, pz0, pz1, pz2]
            refine PF.pf_take0 12 (by kernel_rfl) rfl (fun _ _ _ _ _ h => h) (by kernel_rfl) (fun u => by go_simp; try rfl) ?_
            try simp only [Act.put, pz0, pz1, pz2]
            refine PF.pf_take0 13 (by kernel_rfl) rfl (fun _ _ _ _ _ h => h) (by kernel_rfl) (fun u => by go_simp; try rfl) ?_
            try simp only [Act.put, pz0, pz1, pz2]
            refine PF.pf_take1 14 (PF.Same (b) _) (by kernel_rfl) rfl (fun _ _ _ _ _ h => h) (by kernel_rfl) (PF.Same.refl _ _) (fun u hu => by have hcu := hu.cell; go_simp; try rfl) ?_
            try simp only [Act.put, pz0, pz1, pz2]
            refine PF.pf_take0 15 (by kernel_rfl) rfl (fun _ _ _ _ _ h => h) (by kernel_rfl) (fun u => by go_simp; try rfl) ?_
            try simp only [Act.put, pz0, pz1, pz2]
            refine PF.pf_take0 16 (by kernel_rfl) rfl (fun _ _ _ _ _ h => h) (by kernel_rfl) (fun u => by go_simp; try rfl) ?_
            try simp only [Act.put, pz0, pz1, pz2]
            refine PF.pf_take0 17 (by kernel_rfl) rfl (fun _ _ _ _ _ h => h) (by kernel_rfl) (fun u => by go_simp; try rfl) ?_
            try simp only [Act.put, pz0, pz1, pz2]
            refine PF.pf_done (by kernel_rfl) ?_
            go_wp2_with fail
            go_roundw
            case rel => exact ⟨i + 1, (n : Int), by have := HLT.out; omega, by go_num, rfl, HNX.out, HBI.out.drew.drew⟩
            case measure => have := HLT.out; simp [intOf]; omega
        obtain rfl : i = M.length := by omega
        rcases pick_cases HP.out with hk1 | ⟨n, hk1, hnM⟩
        · subst hk1
          have HBB := Lib.hid (below_call HB.out HB.out.size HBI.out)
          have HOI := Lib.hid (HO.out.call HBI.out)
          go_wp2_with fail
          go_ret
          refine ⟨⟨_, out, rfl, HT.out.done HP.out, HOL.out, ?_⟩, HBW.out.trans (HBB.out.mono HBW.out.size)⟩
          have h := HOI.out.less HBW.out.size
          rw [HJ.out] at h
          exact h
        subst hk1
        have HBB := Lib.hid (below_call HB.out HB.out.size HBI.out)
        obtain ⟨b, oo, rfl, had, c0, c1, c2⟩ := HOM.out.at_ hnM
        have c0 := (HBB.out.cell (p := ⟨b, oo + n * 3, none⟩) had).trans c0
        have c1 := (HBB.out.cell (p := ⟨b, oo + n * 3 + 1, none⟩) had).trans c1
        have c2 := (HBB.out.cell (p := ⟨b, oo + n * 3 + 2, none⟩) had).trans c2
        have HT2 := Lib.hid (HT.out.step HP.out hnM)
        have HRS := Lib.hid (restF_step HP.out hnM)
        have HNM := Lib.hid hnM
        have n1 : decide ((n : Int) < 0) = false := decide_eq_false (by omega)
        have n2 : (n : Int) < (M.length : Int) := by omega
        generalize M[n] = x at c0 c1 c2 HT2 HRS
        have hoi := HO.out.call HBI.out
        rw [HJ.out] at hoi
        have ho3 := hoi.alloc (.cells #[.int .i64 x.p.toInt, .int .u64 (x.s.toNat : Int), .int .u64 (x.o.toNat : Int)] 38)
        unfold OwnM at ho3
        rw [HJ.out] at ho3
        have hnew := Marks.new wr 38 [x] #[.int .i64 x.p.toInt, .int .u64 (x.s.toNat : Int), .int .u64 (x.o.toNat : Int)] (0, 0) rfl
        have hr1 := Mk.row_one [x]
        have hs2 := HBB.out.size
        have hol := HOL.out
        rw [HJ.out] at hol
        clear hoi hlt hi
        go_wp2_with (at_builtin; refine app_list marks_ty rfl rfl ho3 rfl hnew rfl hr1 (by first | (simp; done) | (simp; omega)) (by simp; omega) ?_; intro v3 w3 hown3 hg3 _)
        have hrs := HRS.out
        have hrr := HR.out
        have hln : (out ++ [x]).length = out.length + 1 := by simp
        have hown4 : OwnM w3 w0.heap.size v3 (out ++ [x]) := by
          refine OwnM.snoc (w := w3) hown3 ?_
          rw [HJ.out]
        obtain ⟨Av, cv, ev, _, _⟩ := hown4.form
        have HEV := Lib.hid ev
        go_roundw
        case rel => exact ⟨out ++ [x], HT2.out, by rw [hln]; omega, hown4, (HBB.out.alloc HBB.out.size _).grown hg3 (by have := HBB.out.size; simp; omega) (own_ge ho3)⟩
        case measure => rw [HEV.out]; show M.length - (out ++ [x]).length < M.length - 0; have := HJ.out; omega
    obtain ⟨j, hj⟩ : ∃ j, out.length = j + 1 := ⟨out.length - 1, by omega⟩
    have HJ : Hid (out.length = j + 1) := hj
    rw [hj]
    clear hj h0
    go_wp2_with fail
    go_loopw [9, 10] (fun kv iv wi => ∃ (i : Nat) (kk : Int), i ≤ M.length ∧ iv = .int .i64 (i : Int) ∧ kv = .int .i64 kk ∧ PickI M out i kk ∧ Below wo.heap.size wo wi) (fun _ iv _ => M.length - (intOf iv).toNat)
    case atStart => exact ⟨0, -1, by omega, rfl, rfl, PickI.zero M out, Below.refl _ _⟩
    case round =>
      skip
      obtain ⟨i, kk, hi, rfl, rfl, hp, hbi⟩ := hrel
      have HP := Lib.hid hp
      have HBI := Lib.hid hbi
      clear hp hbi
      by_cases hlt : i < M.length
      · have hkb : i < 200000 := by have := HML.out; omega
        have HBB := Lib.hid (below_call HB.out HB.out.size HBI.out)
        obtain ⟨b, oo, rfl, had, c0, _, _⟩ := HOM.out.at_ hlt
        have c0 := (HBB.out.cell (p := ⟨b, oo + i * 3, none⟩) had).trans c0
        have HLT := Lib.hid hlt
        generalize hxi : M[i] = xi at c0
        have HXI := Lib.hid hxi
        clear hxi
        have hoi := HO.out.call HBI.out
        obtain ⟨go, cg, eg, _, _, _, _⟩ := hoi.ptr (by have := HJ.out; omega)
        have eg2 : Ao = some ⟨go, 0, none⟩ := by { rw [HJ.out] at eg; injection eg }
        subst eg2
        have hjl : j < out.length := by { have := HJ.out; omega }
        have y0 := (OwnM.at_ (c := co) hoi (k := j) hjl).1
        generalize hyl : out[j] = yl at y0
        have HYB : Hid (behindB out xi = decide (yl.p.toInt < xi.p.toInt)) := by { show _ = _; rw [behind_at HJ.out, ← hyl] }
        have s1 : IntKind.i64.wrap (j : Int) = (j : Int) := by rw [IntKind.wrap_i64]; have := HOL.out; have := HJ.out; omega
        have s2 : (j : Int) < (j : Int) + 1 := by omega
        clear hoi eg hyl
        by_cases hyx : yl.p.toInt < xi.p.toInt
        · have HBH : Hid (behindB out xi = true) := by { show _ = _; rw [HYB.out]; exact decide_eq_true hyx }
          have g1 : decide (yl.p.toInt < xi.p.toInt) = true := decide_eq_true hyx
          clear hyx
          rcases pick_cases HP.out with hk1 | ⟨n, hk1, hnM⟩
          · have HNX := Lib.hid (HP.out.take HLT.out (by have h := HBH.out; rw [← HXI.out] at h; exact h) (fun h => absurd hk1 h))
            subst hk1
            go_wp2_with fail
            refine PF.pf_begin (by kernel_rfl) ?_
            refine PF.pf_take0 0 (by kernel_rfl) rfl (fun _ _ _ _ _ h => h) (by kernel_rfl) (fun u => by go_simp; try rfl) ?_
            try simp only [Act.put, pz0, pz1, pz2]
            refine PF.pf_take0 1 (by kernel_rfl) rfl (fun _ _ _ _ _ h => h) (by kernel_rfl) (fun u => by go_simp; try rfl) ?_
            try simp only [Act.put, pz0, pz1, pz2]
            refine PF.pf_take0 2 (by kernel_rfl) rfl (fun _ _ _ _ _ h => h) (by kernel_rfl) (fun u => by go_simp; try rfl) ?_
            try simp only [Act.put, pz0, pz1, pz2]
            refine PF.pf_take0 3 (by kernel_rfl) rfl (fun _ _ _ _ _ h => h) (by kernel_rfl) (fun u => by go_simp; try rfl) ?_
            try simp only [Act.put, pz0, pz1, pz2]
            refine PF.pf_take0 4 (by kernel_rfl) rfl (fun _ _ _ _ _ h => h) (by kernel_rfl) (fun u => by go_simp; try rfl) ?_
            try simp only [Act.put, pz0, pz1, pz2]
            refine PF.pf_take0 5 (by kernel_rfl) rfl (fun _ _ _ _ _ h => h) (by kernel_rfl) (fun u => by go_simp; try rfl) ?_
            try simp only [Act.put, pz0, pz1, pz2]
            refine PF.pf_take0 6 (by kernel_rfl) rfl (fun _ _ _ _ _ h => h) (by kernel_rfl) (fun u => by go_simp; try rfl) ?_
            try simp only [Act.put, pz0, pz1, pz2]
            refine PF.pf_take0 7 (by kernel_rfl) rfl (fun _ _ _ _ _ h => h) (by kernel_rfl) (fun u => by go_simp; try rfl) ?_
            try simp only [Act.put, pz0, pz1, pz2]
            refine PF.pf_take1 8 (PF.Same (b) _) (by kernel_rfl) rfl (fun _ _ _ _ _ h => h) (by kernel_rfl) (PF.Same.refl _ _) (fun u hu => by have hcu := hu.cell; go_simp; try rfl) ?_
            try simp only [Act.put, pz0, pz1, pz2]
            refine PF.pf_take0 9 (by kernel_rfl) rfl (fun _ _ _ _ _ h => h) (by kernel_rfl) (fun u => by go_simp; try rfl) ?_
            try simp only [Act.put, pz0, pz1, pz2]
            refine PF.pf_take0 10 (by kernel_rfl) rfl (fun _ _ _ _ _ h => h) (by kernel_rfl) (fun u => by go_simp; try rfl) ?_
            try simp only [Act.put, pz0, pz1, pz2]
            refine PF.pf_take0 11 (by kernel_rfl) rfl (fun _ _ _ _ _ h => h) (by kernel_rfl) (fun u => by go_simp; try rfl) ?_
            try simp only [Act.put, pz0, pz1, pz2]
            refine PF.pf_take0 12 (by kernel_rfl) rfl (fun _ _ _ _ _ h => h) (by kernel_rfl) (fun u => by go_simp; try rfl) ?_
            try simp only [Act.put, pz0, pz1, pz2]
            refine PF.pf_take0 13 (by kernel_rfl) rfl (fun _ _ _ _ _ h => h) (by kernel_rfl) (fun u => by go_simp; try rfl) ?_
            try simp only [Act.put, pz0, pz1, pz2]
            refine PF.pf_take0 14 (by kernel_rfl) rfl (fun _ _ _ _ _ h => h) (by kernel_rfl) (fun u => by go_simp; try rfl) ?_
            try simp only [Act.put, pz0, pz1, pz2]
            refine PF.pf_take1 15 (PF.Same (go) _) (by kernel_rfl) rfl (fun _ _ _ _ _ h => h) (by kernel_rfl) (PF.Same.refl _ _) (fun u hu => by have hcu := hu.cell; go_simp; try rfl) ?_
            try simp only [Act.put, pz0, pz1, pz2]
            refine PF.pf_take0 16 (by kernel_rfl) rfl (fun _ _ _ _ _ h => h) (by kernel_rfl) (fun u => by go_simp; try rfl) ?_
            try simp only [Act.put, pz0, pz1, pz2]
            refine PF.pf_take0 17 (by kernel_rfl) rfl (fun _ _ _ _ _ h => h) (by kernel_rfl) (fun u => by go_simp; try rfl) ?_
            try simp only [Act.put, pz0, pz1, pz2]
            refine PF.pf_take0 18 (by kernel_rfl) rfl (fun _ _ _ _ _ h => h) (by kernel_rfl) (fun u => by go_simp; try rfl) ?_
            try simp only [Act.put, pz0, pz1, pz2]
            refine PF.pf_done (by kernel_rfl) ?_
            go_wp2_with fail
            refine PF.pf_begin (by kernel_rfl) ?_
            refine PF.pf_take0 0 (by kernel_rfl) rfl (fun _ _ _ _ _ h => h) (by kernel_rfl) (fun u => by go_simp; try rfl) ?_
            try simp only [Act.put, pz0, pz1, pz2]
            refine PF.pf_take0 1 (by kernel_rfl) rfl (fun _ _ _ _ _ h => h) (by kernel_rfl) (fun u => by go_simp; try rfl) ?_
            try simp only [Act.put, pz0, pz1, pz2]
            refine PF.pf_take0 2 (by kernel_rfl) rfl (fun _ _ _ _ _ h => h) (by kernel_rfl) (fun u => by go_simp; try rfl) ?_
            try simp only [Act.put, pz0, pz1, pz2]
            refine PF.pf_take0 3 (by kernel_rfl) rfl (fun _ _ _ _ _ h => h) (by kernel_rfl) (fun u => by go_simp; try rfl) ?_
            try simp only [Act.put, pz0, pz1, pz2]
            refine PF.pf_take0 4 (by kernel_rfl) rfl (fun _ _ _ _ _ h => h) (by kernel_rfl) (fun u => by go_simp; try rfl) ?_
            try simp only [Act.put, pz0, pz1, pz2]
            refine PF.pf_skip0 5 (by kernel_rfl) rfl (fun _ _ _ _ _ h => h) (by kernel_rfl) ?_
            try simp only [Act.put, pz0, pz1, pz2]
            refine PF.pf_skip0 6 (by kernel_rfl) rfl (fun _ _ _ _ _ h => h) (by kernel_rfl) ?_
            try simp only [Act.put, pz0, pz1, pz2]
            refine PF.pf_skip0 7 (by kernel_rfl) rfl (fun _ _ _ _ _ h => h) (by kernel_rfl) ?_
            try simp only [Act.put, pz0, pz1, pz2]
            refine PF.pf_skip0 8 (by kernel_rfl) rfl (fun _ _ _ _ _ h => h) (by kernel_rfl) ?_
            try simp only [Act.put, pz0, pz1, pz2]
            refine PF.pf_skip0 9 (by kernel_rfl) rfl (fun _ _ _ _ _ h => h) (by kernel_rfl) ?_
            try simp only [Act.put, pz0, pz1, pz2]
            refine PF.pf_skip0 10 (by kernel_rfl) rfl (fun _ _ _ _ _ h => h) (by kernel_rfl) ?_
            try simp only [Act.put, pz0, pz1, pz2]
            refine PF.pf_skip0 11 (by kernel_rfl) rfl (fun _ _ _ _ _ h => h) (by kernel_rfl) ?_
            try simp only [Act.put, pz0, pz1, pz2]
            refine PF.pf_skip0 12 (by kernel_rfl) rfl (fun _ _ _ _ _ h => h) (by kernel_rfl) ?_
            try simp only [Act.put, pz0, pz1, pz2]
            refine PF.pf_skip0 13 (by kernel_rfl) rfl (fun _ _ _ _ _ h => h) (by kernel_rfl) ?_
            try simp only [Act.put, pz0, pz1, pz2]
            refine PF.pf_skip0 14 (by kernel_rfl) rfl (fun _ _ _ _ _ h => h) (by kernel_rfl) ?_
            try simp only [Act.put, pz0, pz1, pz2]
            refine PF.pf_skip0 15 (by kernel_rfl) rfl (fun _ _ _ _ _ h => h) (by kernel_rfl) ?_
            try simp only [Act.put, pz0, pz1, pz2]
            refine PF.pf_take0 16 (by kernel_rfl) rfl (fun _ _ _ _ _ h => h) (by kernel_rfl) (fun u => by go_simp; try rfl) ?_
            try simp only [Act.put, pz0, pz1, pz2]
            refine PF.pf_take0 17 (by kernel_rfl) rfl (fun _ _ _ _ _ h => h) (by kernel_rfl) (fun u => by go_simp; try rfl) ?_
            try simp only [Act.put, pz0, pz1, pz2]
            refine PF.pf_done (by kernel_rfl) ?_
            go_wp2_with fail
            go_roundw
            case rel => exact ⟨i + 1, (i : Int), by have := HLT.out; omega, by go_num, rfl, HNX.out, HBI.out.drew.drew⟩
            case measure => have := HLT.out; simp [intOf]; omega
          subst hk1
          obtain ⟨b', o', e', _, k0, _, _⟩ := HOM.out.at_ hnM
          injection e' with e'
          injection e' with e1 e2
          subst e1 e2
          have k0 := (HBB.out.cell (p := ⟨b, oo + n * 3, none⟩) had).trans k0
          generalize hxn : M[n] = xn at k0
          have HXN := Lib.hid hxn
          have HNM := Lib.hid hnM
          have n1 : decide ((n : Int) < 0) = false := decide_eq_false (by omega)
          have n2 : (n : Int) < (M.length : Int) := by omega
          clear hxn
          by_cases hle : xi.p.toInt ≤ xn.p.toInt
          · skip
            have HNX := Lib.hid (HP.out.take HLT.out (by have h := HBH.out; rw [← HXI.out] at h; exact h) (fun _ => ⟨n, rfl, HNM.out, by have h := hle; rw [← HXI.out, ← HXN.out] at h; exact h⟩))
            have l1 : decide (xi.p.toInt ≤ xn.p.toInt) = true := decide_eq_true hle
            clear hle
            go_wp2_with fail
            refine PF.pf_begin (by kernel_rfl) ?_
            refine PF.pf_take0 0 (by kernel_rfl) rfl (fun _ _ _ _ _ h => h) (by kernel_rfl) (fun u => by go_simp; try rfl) ?_
            try simp only [Act.put, pz0, pz1, pz2]
            refine PF.pf_take0 1 (by kernel_rfl) rfl (fun _ _ _ _ _ h => h) (by kernel_rfl) (fun u => by go_simp; try rfl) ?_
            try simp only [Act.put, pz0, pz1, pz2]
            refine PF.pf_take0 2 (by kernel_rfl) rfl (fun _ _ _ _ _ h => h) (by kernel_rfl) (fun u => by go_simp; try rfl) ?_
            try simp only [Act.put, pz0, pz1, pz2]
            refine PF.pf_take0 3 (by kernel_rfl) rfl (fun _ _ _ _ _ h => h) (by kernel_rfl) (fun u => by go_simp; try rfl) ?_
            try simp only [Act.put, pz0, pz1, pz2]
            refine PF.pf_take0 4 (by kernel_rfl) rfl (fun _ _ _ _ _ h => h) (by kernel_rfl) (fun u => by go_simp; try rfl) ?_
            try simp only [Act.put, pz0, pz1, pz2]
            refine PF.pf_take0 5 (by kernel_rfl) rfl (fun _ _ _ _ _ h => h) (by kernel_rfl) (fun u => by go_simp; try rfl) ?_
            try simp only [Act.put, pz0, pz1, pz2]
            refine PF.pf_take0 6 (by kernel_rfl) rfl (fun _ _ _ _ _ h => h) (by kernel_rfl) (fun u => by go_simp; try rfl) ?_
            try simp only [Act.put, pz0, pz1, pz2]
            refine PF.pf_take0 7 (by kernel_rfl) rfl (fun _ _ _ _ _ h => h) (by kernel_rfl) (fun u => by go_simp; try rfl) ?_
            try simp only [Act.put, pz0, pz1, pz2]
            refine PF.pf_take1 8 (PF.Same (b) _) (by kernel_rfl) rfl (fun _ _ _ _ _ h => h) (by kernel_rfl) (PF.Same.refl _ _) (fun u hu => by have hcu := hu.cell; go_simp; try rfl) ?_
            try simp only [Act.put, pz0, pz1, pz2]
            refine PF.pf_take0 9 (by kernel_rfl) rfl (fun _ _ _ _ _ h => h) (by kernel_rfl) (fun u => by go_simp; try rfl) ?_
            try simp only [Act.put, pz0, pz1, pz2]
            refine PF.pf_take0 10 (by kernel_rfl) rfl (fun _ _ _ _ _ h => h) (by kernel_rfl) (fun u => by go_simp; try rfl) ?_
            try simp only [Act.put, pz0, pz1, pz2]
            refine PF.pf_take0 11 (by kernel_rfl) rfl (fun _ _ _ _ _ h => h) (by kernel_rfl) (fun u => by go_simp; try rfl) ?_
            try simp only [Act.put, pz0, pz1, pz2]
            refine PF.pf_take0 12 (by kernel_rfl) rfl (fun _ _ _ _ _ h => h) (by kernel_rfl) (fun u => by go_simp; try rfl) ?_
            try simp only [Act.put, pz0, pz1, pz2]
            refine PF.pf_take0 13 (by kernel_rfl) rfl (fun _ _ _ _ _ h => h) (by kernel_rfl) (fun u => by go_simp; try rfl) ?_
            try simp only [Act.put, pz0, pz1, pz2]
            refine PF.pf_take0 14 (by kernel_rfl) rfl (fun _ _ _ _ _ h => h) (by kernel_rfl) (fun u => by go_simp; try rfl) ?_
            try simp only [Act.put, pz0, pz1, pz2]
            refine PF.pf_take1 15 (PF.Same (go) _) (by kernel_rfl) rfl (fun _ _ _ _ _ h => h) (by kernel_rfl) (PF.Same.refl _ _) (fun u hu => by have hcu := hu.cell; go_simp; try rfl) ?_
            try simp only [Act.put, pz0, pz1, pz2]
            refine PF.pf_take0 16 (by kernel_rfl) rfl (fun _ _ _ _ _ h => h) (by kernel_rfl) (fun u => by go_simp; try rfl) ?_
            try simp only [Act.put, pz0, pz1, pz2]
            refine PF.pf_take0 17 (by kernel_rfl) rfl (fun _ _ _ _ _ h => h) (by kernel_rfl) (fun u => by go_simp; try rfl) ?_
            try simp only [Act.put, pz0, pz1, pz2]
            refine PF.pf_take0 18 (by kernel_rfl) rfl (fun _ _ _ _ _ h => h) (by kernel_rfl) (fun u => by go_simp; try rfl) ?_
            try simp only [Act.put, pz0, pz1, pz2]
            refine PF.pf_done (by kernel_rfl) ?_
            go_wp2_with fail
            refine PF.pf_begin (by kernel_rfl) ?_
            refine PF.pf_take0 0 (by kernel_rfl) rfl (fun _ _ _ _ _ h => h) (by kernel_rfl) (fun u => by go_simp; try rfl) ?_
            try simp only [Act.put, pz0, pz1, pz2]
            refine PF.pf_take0 1 (by kernel_rfl) rfl (fun _ _ _ _ _ h => h) (by kernel_rfl) (fun u => by go_simp; try rfl) ?_
            try simp only [Act.put, pz0, pz1, pz2]
            refine PF.pf_take0 2 (by kernel_rfl) rfl (fun _ _ _ _ _ h => h) (by kernel_rfl) (fun u => by go_simp; try rfl) ?_
            try simp only [Act.put, pz0, pz1, pz2]
            refine PF.pf_take0 3 (by kernel_rfl) rfl (fun _ _ _ _ _ h => h) (by kernel_rfl) (fun u => by go_simp; try rfl) ?_
            try simp only [Act.put, pz0, pz1, pz2]
            refine PF.pf_take0 4 (by kernel_rfl) rfl (fun _ _ _ _ _ h => h) (by kernel_rfl) (fun u => by go_simp; try rfl) ?_
            try simp only [Act.put, pz0, pz1, pz2]
            refine PF.pf_take0 5 (by kernel_rfl) rfl (fun _ _ _ _ _ h => h) (by kernel_rfl) (fun u => by go_simp; try rfl) ?_
            try simp only [Act.put, pz0, pz1, pz2]
            refine PF.pf_take0 6 (by kernel_rfl) rfl (fun _ _ _ _ _ h => h) (by kernel_rfl) (fun u => by go_simp; try rfl) ?_
            try simp only [Act.put, pz0, pz1, pz2]
            refine PF.pf_take0 7 (by kernel_rfl) rfl (fun _ _ _ _ _ h => h) (by kernel_rfl) (fun u => by go_simp; try rfl) ?_
            try simp only [Act.put, pz0, pz1, pz2]
            refine PF.pf_take0 8 (by kernel_rfl) rfl (fun _ _ _ _ _ h => h) (by kernel_rfl) (fun u => by go_simp; try rfl) ?_
            try simp only [Act.put, pz0, pz1, pz2]
            refine PF.pf_take1 9 (PF.Same (b) _) (by kernel_rfl) rfl (fun _ _ _ _ _ h => h) (by kernel_rfl) (PF.Same.refl _ _) (fun u hu => by have hcu := hu.cell; go_simp; try rfl) ?_
            try simp only [Act.put, pz0, pz1, pz2]
            refine PF.pf_take0 10 (by kernel_rfl) rfl (fun _ _ _ _ _ h => h) (by kernel_rfl) (fun u => by go_simp; try rfl) ?_
            try simp only [Act.put, pz0, pz1, pz2]
            refine PF.pf_take0 11 (by kernel_rfl) rfl (fun _ _ _ _ _ h => h) (by kernel_rfl) (fun u => by go_simp; try rfl) ?_
            try simp only [Act.put, pz0, pz1, pz2]
            refine PF.pf_take0 12 (by kernel_rfl) rfl (fun _ _ _ _ _ h => h) (by kernel_rfl) (fun u => by go_simp; try rfl) ?_
            try simp only [Act.put, pz0, pz1, pz2]
            refine PF.pf_take0 13 (by kernel_rfl) rfl (fun _ _ _ _ _ h => h) (by kernel_rfl) (fun u => by go_simp; try rfl) ?_
            try simp only [Act.put, pz0, pz1, pz2]
            refine PF.pf_take1 14 (PF.Same (b) _) (by kernel_rfl) rfl (fun _ _ _ _ _ h => h) (by kernel_rfl) (PF.Same.refl _ _) (fun u hu => by have hcu := hu.cell; go_simp; try rfl) ?_
            try simp only [Act.put, pz0, pz1, pz2]
            refine PF.pf_take0 15 (by kernel_rfl) rfl (fun _ _ _ _ _ h => h) (by kernel_rfl) (fun u => by go_simp; try rfl) ?_
            try simp only [Act.put, pz0, pz1, pz2]
            refine PF.pf_take0 16 (by kernel_rfl) rfl (fun _ _ _ _ _ h => h) (by kernel_rfl) (fun u => by go_simp; try rfl) ?_
            try simp only [Act.put, pz0, pz1, pz2]
            refine PF.pf_take0 17 (by kernel_rfl) rfl (fun _ _ _ _ _ h => h) (by kernel_rfl) (fun u => by go_simp; try rfl) ?_
            try simp only [Act.put, pz0, pz1, pz2]
            refine PF.pf_done (by kernel_rfl) ?_
            go_wp2_with fail
            go_roundw
            case rel => exact ⟨i + 1, (i : Int), by have := HLT.out; omega, by go_num, rfl, HNX.out, HBI.out.drew.drew⟩
            case measure => have := HLT.out; simp [intOf]; omega
          · skip
            have HNX := Lib.hid (HP.out.keep HLT.out HNM.out (by have h := Int.lt_of_not_ge hle; rw [← HXI.out, ← HXN.out] at h; exact h))
            have l1 : decide (xi.p.toInt ≤ xn.p.toInt) = false := decide_eq_false hle
            clear hle
            go_wp2_with fail
            refine PF.pf_begin (by kernel_rfl) ?_
            refine PF.pf_take0 0 (by kernel_rfl) rfl (fun _ _ _ _ _ h => h) (by kernel_rfl) (fun u => by go_simp; try rfl) ?_
            try simp only [Act.put, pz0, pz1, pz2]
            refine PF.pf_take0 1 (by kernel_rfl) rfl (fun _ _ _ _ _ h => h) (by kernel_rfl) (fun u => by go_simp; try rfl) ?_
            try simp only [Act.put, pz0, pz1, pz2]
            refine PF.pf_take0 2 (by kernel_rfl) rfl (fun _ _ _ _ _ h => h) (by kernel_rfl) (fun u => by go_simp; try rfl) ?_
            try simp only [Act.put, pz0, pz1, pz2]
            refine PF.pf_take0 3 (by kernel_rfl) rfl (fun _ _ _ _ _ h => h) (by kernel_rfl) (fun u => by go_simp; try rfl) ?_
            try simp only [Act.put, pz0, pz1, pz2]
            refine PF.pf_take0 4 (by kernel_rfl) rfl (fun _ _ _ _ _ h => h) (by kernel_rfl) (fun u => by go_simp; try rfl) ?_
            try simp only [Act.put, pz0, pz1, pz2]
            refine PF.pf_take0 5 (by kernel_rfl) rfl (fun _ _ _ _ _ h => h) (by kernel_rfl) (fun u => by go_simp; try rfl) ?_
            try simp only [Act.put, pz0, pz1, pz2]
            refine PF.pf_take0 6 (by kernel_rfl) rfl (fun _ _ _ _ _ h => h) (by kernel_rfl) (fun u => by go_simp; try rfl) ?_
            try simp only [Act.put, pz0, pz1, pz2]
            refine PF.pf_take0 7 (by kernel_rfl) rfl (fun _ _ _ _ _ h => h) (by kernel_rfl) (fun u => by go_simp; try rfl) ?_
            try simp only [Act.put, pz0, pz1, pz2]
            refine PF.pf_take1 8 (PF.Same (b) _) (by kernel_rfl) rfl (fun _ _ _ _ _ h => h) (by kernel_rfl) (PF.Same.refl _ _) (fun u hu => by have hcu := hu.cell; go_simp; try rfl) ?_
            try simp only [Act.put, pz0, pz1, pz2]
            refine PF.pf_take0 9 (by kernel_rfl) rfl (fun _ _ _ _ _ h => h) (by kernel_rfl) (fun u => by go_simp; try rfl) ?_
            try simp only [Act.put, pz0, pz1, pz2]
            refine PF.pf_take0 10 (by kernel_rfl) rfl (fun _ _ _ _ _ h => h) (by kernel_rfl) (fun u => by go_simp; try rfl) ?_
            try simp only [Act.put, pz0, pz1, pz2]
            refine PF.pf_take0 11 (by kernel_rfl) rfl (fun _ _ _ _ _ h => h) (by kernel_rfl) (fun u => by go_simp; try rfl) ?_
            try simp only [Act.put, pz0, pz1, pz2]
            refine PF.pf_take0 12 (by kernel_rfl) rfl (fun _ _ _ _ _ h => h) (by kernel_rfl) (fun u => by go_simp; try rfl) ?_
            try simp only [Act.put, pz0, pz1, pz2]
            refine PF.pf_take0 13 (by kernel_rfl) rfl (fun _ _ _ _ _ h => h) (by kernel_rfl) (fun u => by go_simp; try rfl) ?_
            try simp only [Act.put, pz0, pz1, pz2]
            refine PF.pf_take0 14 (by kernel_rfl) rfl (fun _ _ _ _ _ h => h) (by kernel_rfl) (fun u => by go_simp; try rfl) ?_
            try simp only [Act.put, pz0, pz1, pz2]
            refine PF.pf_take1 15 (PF.Same (go) _) (by kernel_rfl) rfl (fun _ _ _ _ _ h => h) (by kernel_rfl) (PF.Same.refl _ _) (fun u hu => by have hcu := hu.cell; go_simp; try rfl) ?_
            try simp only [Act.put, pz0, pz1, pz2]
            refine PF.pf_take0 16 (by kernel_rfl) rfl (fun _ _ _ _ _ h => h) (by kernel_rfl) (fun u => by go_simp; try rfl) ?_
            try simp only [Act.put, pz0, pz1, pz2]
            refine PF.pf_take0 17 (by kernel_rfl) rfl (fun _ _ _ _ _ h => h) (by kernel_rfl) (fun u => by go_simp; try rfl) ?_
            try simp only [Act.put, pz0, pz1, pz2]
            refine PF.pf_take0 18 (by kernel_rfl) rfl (fun _ _ _ _ _ h => h) (by kernel_rfl) (fun u => by go_simp; try rfl) ?_
            try simp only [Act.put, pz0, pz1, pz2]
            refine PF.pf_done (by kernel_rfl) ?_
            go_wp2_with fail
            refine PF.pf_begin (by kernel_rfl) ?_
            refine PF.pf_take0 0 (by kernel_rfl) rfl (fun _ _ _ _ _ h => h) (by kernel_rfl) (fun u => by go_simp; try rfl) ?_
            try simp only [Act.put, pz0, pz1, pz2]
            refine PF.pf_take0 1 (by kernel_rfl) rfl (fun _ _ _ _ _ h => h) (by kernel_rfl) (fun u => by go_simp; try rfl) ?_
            try simp only [Act.put, pz0, pz1, pz2]
            refine PF.pf_take0 2 (by kernel_rfl) rfl (fun _ _ _ _ _ h => h) (by kernel_rfl) (fun u => by go_simp; try rfl) ?_
            try simp only [Act.put, pz0, pz1, pz2]
            refine PF.pf_take0 3 (by kernel_rfl) rfl (fun _ _ _ _ _ h => h) (by kernel_rfl) (fun u => by go_simp; try rfl) ?_
            try simp only [Act.put, pz0, pz1, pz2]
            refine PF.pf_take0 4 (by kernel_rfl) rfl (fun _ _ _ _ _ h => h) (by kernel_rfl) (fun u => by go_simp; try rfl) ?_
            try simp only [Act.put, pz0, pz1, pz2]
            refine PF.pf_take0 5 (by kernel_rfl) rfl (fun _ _ _ _ _ h => h) (by kernel_rfl) (fun u => by go_simp; try rfl) ?_
            try simp only [Act.put, pz0, pz1, pz2]
            refine PF.pf_take0 6 (by kernel_rfl) rfl (fun _ _ _ _ _ h => h) (by kernel_rfl) (fun u => by go_simp; try rfl) ?_
            try simp only [Act.put, pz0, pz1, pz2]
            refine PF.pf_take0 7 (by kernel_rfl) rfl (fun _ _ _ _ _ h => h) (by kernel_rfl) (fun u => by go_simp; try rfl) ?_
            try simp only [Act.put, pz0, pz1, pz2]
            refine PF.pf_take0 8 (by kernel_rfl) rfl (fun _ _ _ _ _ h => h) (by kernel_rfl) (fun u => by go_simp; try rfl) ?_
            try simp only [Act.put, pz0, pz1, pz2]
            refine PF.pf_take1 9 (PF.Same (b) _) (by kernel_rfl) rfl (fun _ _ _ _ _ h => h) (by kernel_rfl) (PF.Same.refl _ _) (fun u hu => by have hcu := hu.cell; go_simp; try rfl) ?_
            try simp only [Act.put, pz0, pz1, pz2]
            refine PF.pf_take0 10 (by kernel_rfl) rfl (fun _ _ _ _ _ h => h) (by kernel_rfl) (fun u => by go_simp; try rfl) ?_
            try simp only [Act.put, pz0, pz1, pz2]
            refine PF.pf_take0 11 (by kernel_rfl) rfl (fun _ _ _ _ _ h => h) (by kernel_rfl) (fun u => by go_simp; try rfl) ?_
            try simp only [Act.put, pz0, pz1, pz2]
            refine PF.pf_take0 12 (by kernel_rfl) rfl (fun _ _ _ _ _ h => h) (by kernel_rfl) (fun u => by go_simp; try rfl) ?_
            try simp only [Act.put, pz0, pz1, pz2]
            refine PF.pf_take0 13 (by kernel_rfl) rfl (fun _ _ _ _ _ h => h) (by kernel_rfl) (fun u => by go_simp; try rfl) ?_
            try simp only [Act.put, pz0, pz1, pz2]
            refine PF.pf_take1 14 (PF.Same (b) _) (by kernel_rfl) rfl (fun _ _ _ _ _ h => h) (by kernel_rfl) (PF.Same.refl _ _) (fun u hu => by have hcu := hu.cell; go_simp; try rfl) ?_
            try simp only [Act.put, pz0, pz1, pz2]
            refine PF.pf_take0 15 (by kernel_rfl) rfl (fun _ _ _ _ _ h => h) (by kernel_rfl) (fun u => by go_simp; try rfl) ?_
            try simp only [Act.put, pz0, pz1, pz2]
            refine PF.pf_take0 16 (by kernel_rfl) rfl (fun _ _ _ _ _ h => h) (by kernel_rfl) (fun u => by go_simp; try rfl) ?_
            try simp only [Act.put, pz0, pz1, pz2]
            refine PF.pf_take0 17 (by kernel_rfl) rfl (fun _ _ _ _ _ h => h) (by kernel_rfl) (fun u => by go_simp; try rfl) ?_
            try simp only [Act.put, pz0, pz1, pz2]
            refine PF.pf_done (by kernel_rfl) ?_
            go_wp2_with fail
            go_roundw
            case rel => exact ⟨i + 1, (n : Int), by have := HLT.out; omega, by go_num, rfl, HNX.out, HBI.out.drew.drew⟩
            case measure => have := HLT.out; simp [intOf]; omega
        · have HBH : Hid (behindB out xi = false) := by { show _ = _; rw [HYB.out]; exact decide_eq_false hyx }
          have g1 : decide (yl.p.toInt < xi.p.toInt) = false := decide_eq_false hyx
          clear hyx
          have HNX := Lib.hid (HP.out.skip HLT.out (by have h := HBH.out; rw [← HXI.out] at h; exact h))
          go_wp2_with fail
          refine PF.pf_begin (by kernel_rfl) ?_
          refine PF.pf_take0 0 (by kernel_rfl) rfl (fun _ _ _ _ _ h => h) (by kernel_rfl) (fun u => by go_simp; try rfl) ?_
          try simp only [Act.put, pz0, pz1, pz2]
          refine PF.pf_take0 1 (by kernel_rfl) rfl (fun _ _ _ _ _ h => h) (by kernel_rfl) (fun u => by go_simp; try rfl) ?_
          try simp only [Act.put, pz0, pz1, pz2]
          refine PF.pf_take0 2 (by kernel_rfl) rfl (fun _ _ _ _ _ h => h) (by kernel_rfl) (fun u => by go_simp; try rfl) ?_
          try simp only [Act.put, pz0, pz1, pz2]
          refine PF.pf_take0 3 (by kernel_rfl) rfl (fun _ _ _ _ _ h => h) (by kernel_rfl) (fun u => by go_simp; try rfl) ?_
          try simp only [Act.put, pz0, pz1, pz2]
          refine PF.pf_take0 4 (by kernel_rfl) rfl (fun _ _ _ _ _ h => h) (by kernel_rfl) (fun u => by go_simp; try rfl) ?_
          try simp only [Act.put, pz0, pz1, pz2]
          refine PF.pf_take0 5 (by kernel_rfl) rfl (fun _ _ _ _ _ h => h) (by kernel_rfl) (fun u => by go_simp; try rfl) ?_
          try simp only [Act.put, pz0, pz1, pz2]
          refine PF.pf_take0 6 (by kernel_rfl) rfl (fun _ _ _ _ _ h => h) (by kernel_rfl) (fun u => by go_simp; try rfl) ?_
          try simp only [Act.put, pz0, pz1, pz2]
          refine PF.pf_take0 7 (by kernel_rfl) rfl (fun _ _ _ _ _ h => h) (by kernel_rfl) (fun u => by go_simp; try rfl) ?_
          try simp only [Act.put, pz0, pz1, pz2]
          refine PF.pf_take1 8 (PF.Same (b) _) (by kernel_rfl) rfl (fun _ _ _ _ _ h => h) (by kernel_rfl) (PF.Same.refl _ _) (fun u hu => by have hcu := hu.cell; go_simp; try rfl) ?_
          try simp only [Act.put, pz0, pz1, pz2]
          refine PF.pf_take0 9 (by kernel_rfl) rfl (fun _ _ _ _ _ h => h) (by kernel_rfl) (fun u => by go_simp; try rfl) ?_
          try simp only [Act.put, pz0, pz1, pz2]
          refine PF.pf_take0 10 (by kernel_rfl) rfl (fun _ _ _ _ _ h => h) (by kernel_rfl) (fun u => by go_simp; try rfl) ?_
          try simp only [Act.put, pz0, pz1, pz2]
          refine PF.pf_take0 11 (by kernel_rfl) rfl (fun _ _ _ _ _ h => h) (by kernel_rfl) (fun u => by go_simp; try rfl) ?_
          try simp only [Act.put, pz0, pz1, pz2]
          refine PF.pf_take0 12 (by kernel_rfl) rfl (fun _ _ _ _ _ h => h) (by kernel_rfl) (fun u => by go_simp; try rfl) ?_
          try simp only [Act.put, pz0, pz1, pz2]
          refine PF.pf_take0 13 (by kernel_rfl) rfl (fun _ _ _ _ _ h => h) (by kernel_rfl) (fun u => by go_simp; try rfl) ?_
          try simp only [Act.put, pz0, pz1, pz2]
          refine PF.pf_take0 14 (by kernel_rfl) rfl (fun _ _ _ _ _ h => h) (by kernel_rfl) (fun u => by go_simp; try rfl) ?_
          try simp only [Act.put, pz0, pz1, pz2]
          refine PF.pf_take1 15 (PF.Same (go) _) (by kernel_rfl) rfl (fun _ _ _ _ _ h => h) (by kernel_rfl) (PF.Same.refl _ _) (fun u hu => by have hcu := hu.cell; go_simp; try rfl) ?_
          try simp only [Act.put, pz0, pz1, pz2]
          refine PF.pf_take0 16 (by kernel_rfl) rfl (fun _ _ _ _ _ h => h) (by kernel_rfl) (fun u => by go_simp; try rfl) ?_
          try simp only [Act.put, pz0, pz1, pz2]
          refine PF.pf_take0 17 (by kernel_rfl) rfl (fun _ _ _ _ _ h => h) (by kernel_rfl) (fun u => by go_simp; try rfl) ?_
          try simp only [Act.put, pz0, pz1, pz2]
          refine PF.pf_take0 18 (by kernel_rfl) rfl (fun _ _ _ _ _ h => h) (by kernel_rfl) (fun u => by go_simp; try rfl) ?_
          try simp only [Act.put, pz0, pz1, pz2]
          refine PF.pf_done (by kernel_rfl) ?_
          go_wp2_with fail
          refine PF.pf_begin (by kernel_rfl) ?_
          refine PF.pf_take0 0 (by kernel_rfl) rfl (fun _ _ _ _ _ h => h) (by kernel_rfl) (fun u => by go_simp; try rfl) ?_
          try simp only [Act.put, pz0, pz1, pz2]
          refine PF.pf_take0 1 (by kernel_rfl) rfl (fun _ _ _ _ _ h => h) (by kernel_rfl) (fun u => by go_simp; try rfl) ?_
          try simp only [Act.put, pz0, pz1, pz2]
          refine PF.pf_skip0 2 (by kernel_rfl) rfl (fun _ _ _ _ _ h => h) (by kernel_rfl) ?_
          try simp only [Act.put, pz0, pz1, pz2]
          refine PF.pf_skip0 3 (by kernel_rfl) rfl (fun _ _ _ _ _ h => h) (by kernel_rfl) ?_
          try simp only [Act.put, pz0, pz1, pz2]
          refine PF.pf_skip0 4 (by kernel_rfl) rfl (fun _ _ _ _ _ h => h) (by kernel_rfl) ?_
          try simp only [Act.put, pz0, pz1, pz2]
          refine PF.pf_skip0 5 (by kernel_rfl) rfl (fun _ _ _ _ _ h => h) (by kernel_rfl) ?_
          try simp only [Act.put, pz0, pz1, pz2]
          refine PF.pf_skip0 6 (by kernel_rfl) rfl (fun _ _ _ _ _ h => h) (by kernel_rfl) ?_
          try simp only [Act.put, pz0, pz1, pz2]
          refine PF.pf_skip0 7 (by kernel_rfl) rfl (fun _ _ _ _ _ h => h) (by kernel_rfl) ?_
          try simp only [Act.put, pz0, pz1, pz2]
          refine PF.pf_skip0 8 (by kernel_rfl) rfl (fun _ _ _ _ _ h => h) (by kernel_rfl) ?_
          try simp only [Act.put, pz0, pz1, pz2]
          refine PF.pf_skip0 9 (by kernel_rfl) rfl (fun _ _ _ _ _ h => h) (by kernel_rfl) ?_
          try simp only [Act.put, pz0, pz1, pz2]
          refine PF.pf_skip0 10 (by kernel_rfl) rfl (fun _ _ _ _ _ h => h) (by kernel_rfl) ?_
          try simp only [Act.put, pz0, pz1, pz2]
          refine PF.pf_skip0 11 (by kernel_rfl) rfl (fun _ _ _ _ _ h => h) (by kernel_rfl) ?_
          try simp only [Act.put, pz0, pz1, pz2]
          refine PF.pf_skip0 12 (by kernel_rfl) rfl (fun _ _ _ _ _ h => h) (by kernel_rfl) ?_
          try simp only [Act.put, pz0, pz1, pz2]
          refine PF.pf_skip0 13 (by kernel_rfl) rfl (fun _ _ _ _ _ h => h) (by kernel_rfl) ?_
          try simp only [Act.put, pz0, pz1, pz2]
          refine PF.pf_skip0 14 (by kernel_rfl) rfl (fun _ _ _ _ _ h => h) (by kernel_rfl) ?_
          try simp only [Act.put, pz0, pz1, pz2]
          refine PF.pf_skip0 15 (by kernel_rfl) rfl (fun _ _ _ _ _ h => h) (by kernel_rfl) ?_
          try simp only [Act.put, pz0, pz1, pz2]
          refine PF.pf_skip0 16 (by kernel_rfl) rfl (fun _ _ _ _ _ h => h) (by kernel_rfl) ?_
          try simp only [Act.put, pz0, pz1, pz2]
          refine PF.pf_take0 17 (by kernel_rfl) rfl (fun _ _ _ _ _ h => h) (by kernel_rfl) (fun u => by go_simp; try rfl) ?_
          try simp only [Act.put, pz0, pz1, pz2]
          refine PF.pf_done (by kernel_rfl) ?_
          go_wp2_with fail
          go_roundw
          case rel => exact ⟨i + 1, kk, by have := HLT.out; omega, by go_num, rfl, HNX.out, HBI.out.drew.drew⟩
          case measure => have := HLT.out; simp [intOf]; omega
      obtain rfl : i = M.length := by omega
      rcases pick_cases HP.out with hk1 | ⟨n, hk1, hnM⟩
      · subst hk1
        have HBB := Lib.hid (below_call HB.out HB.out.size HBI.out)
        have HOI := Lib.hid (HO.out.call HBI.out)
        go_wp2_with fail
        go_ret
        refine ⟨⟨_, out, rfl, HT.out.done HP.out, HOL.out, ?_⟩, HBW.out.trans (HBB.out.mono HBW.out.size)⟩
        have h := HOI.out.less HBW.out.size
        rw [HJ.out] at h
        exact h
      subst hk1
      have HBB := Lib.hid (below_call HB.out HB.out.size HBI.out)
      obtain ⟨b, oo, rfl, had, c0, c1, c2⟩ := HOM.out.at_ hnM
      have c0 := (HBB.out.cell (p := ⟨b, oo + n * 3, none⟩) had).trans c0
      have c1 := (HBB.out.cell (p := ⟨b, oo + n * 3 + 1, none⟩) had).trans c1
      have c2 := (HBB.out.cell (p := ⟨b, oo + n * 3 + 2, none⟩) had).trans c2
      have HT2 := Lib.hid (HT.out.step HP.out hnM)
      have HRS := Lib.hid (restF_step HP.out hnM)
      have HNM := Lib.hid hnM
      have n1 : decide ((n : Int) < 0) = false := decide_eq_false (by omega)
      have n2 : (n : Int) < (M.length : Int) := by omega
      generalize M[n] = x at c0 c1 c2 HT2 HRS
      have hoi := HO.out.call HBI.out
      rw [HJ.out] at hoi
      have ho3 := hoi.alloc (.cells #[.int .i64 x.p.toInt, .int .u64 (x.s.toNat : Int), .int .u64 (x.o.toNat : Int)] 38)
      unfold OwnM at ho3
      rw [HJ.out] at ho3
      have hnew := Marks.new wr 38 [x] #[.int .i64 x.p.toInt, .int .u64 (x.s.toNat : Int), .int .u64 (x.o.toNat : Int)] (0, 0) rfl
      have hr1 := Mk.row_one [x]
      have hs2 := HBB.out.size
      have hol := HOL.out
      rw [HJ.out] at hol
      clear hoi hlt hi
      go_wp2_with (at_builtin; refine app_list marks_ty rfl rfl ho3 rfl hnew rfl hr1 (by first | (simp; done) | (simp; omega)) (by simp; omega) ?_; intro v3 w3 hown3 hg3 _)
      have hrs := HRS.out
      have hrr := HR.out
      have hln : (out ++ [x]).length = out.length + 1 := by simp
      have hown4 : OwnM w3 w0.heap.size v3 (out ++ [x]) := by
        refine OwnM.snoc (w := w3) hown3 ?_
        rw [HJ.out]
      obtain ⟨Av, cv, ev, _, _⟩ := hown4.form
      have HEV := Lib.hid ev
      go_roundw
      case rel => exact ⟨out ++ [x], HT2.out, by rw [hln]; omega, hown4, (HBB.out.alloc HBB.out.size _).grown hg3 (by have := HBB.out.size; simp; omega) (own_ge ho3)⟩
      case measure => rw [HEV.out]; show M.length - (out ++ [x]).length < M.length - (j + 1); have := HJ.out; omega
end Go.Proofs.Ytgdbknbpnlpdnaa
