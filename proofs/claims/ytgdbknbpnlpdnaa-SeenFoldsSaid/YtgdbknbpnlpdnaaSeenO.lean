/- The reference's Take. -/
import Derived.Test.YtgdbknbpnlpdnaaSeenN
namespace Go.Proofs.Ytgdbknbpnlpdnaa
set_option linter.unusedVariables false
set_option linter.unusedSimpArgs false
open Go.RowKit

theorem all_take_succ {es : List En} {k : Nat} (hk : k < es.length) (h : (es.take k).all En.may = true) (hm : es[k].may = true) : (es.take (k + 1)).all En.may = true := by
  rw [List.take_succ_eq_append_getElem hk, List.all_append, h]
  simp [hm]
theorem take_none_may {ms : List Mk} {fr : UInt64} {es : List En} {k : Nat} (hk : k < es.length) (h : es[k].may = false) : takeR ms fr es = none := by
  have : es.all En.may = false := by
    rw [List.all_eq_false]
    exact ⟨_, List.getElem_mem hk, by simp [h]⟩
  unfold takeR
  rw [this]
  simp
theorem take_none_fit {ms : List Mk} {fr : UInt64} {es : List En} {k : Nat} (hk : k < es.length) (h : 4611686018427387903 < fr.toNat ∨ 4611686018427387903 - fr.toNat < k) : takeR ms fr es = none := by
  have : fitsB fr es.length = false := by
    unfold fitsB
    rw [decide_eq_false_iff_not]
    omega
  unfold takeR
  rw [this]
  simp

theorem GoPost.form {base : Nat} {g : Option (List Mk)} {e : Ending} {w' : World} (h : GoPost base g e w') :
    ∃ (v : Value) (n : Int), e = .returned (.tuple #[v, .int .i64 n]) ∧ ((∃ L, g = some L ∧ n = 0 ∧ OwnM w' base v L) ∨ (g = none ∧ n = 3 ∧ v = .slice none 0 0)) := by
  cases g with
  | none => exact ⟨_, _, h, .inr ⟨rfl, rfl, rfl⟩⟩
  | some L =>
    obtain ⟨v, he, ho⟩ := h
    exact ⟨v, 0, he, .inl ⟨L, rfl, rfl, ho⟩⟩
set_option maxHeartbeats 1000000 in
theorem reftake_any (A : Option Addr) (c : Nat) (ms : List Mk) (fr : UInt64) (B : Option Addr) (d : Nat) (es : List En) (w : World) (hA : Marks w A ms) (hB : Entries w B es) (hn : ms.length ≤ 10000) (hm : es.length ≤ 10000) :
    Calls Try.prog 18 #[.slice A ms.length c, .int .u64 (fr.toNat : Int), .slice B es.length d] w fun e w' => OutPost w.heap.size (takeR ms fr es) e w' ∧ Below w.heap.size w w' := by
  obtain ⟨r, hr⟩ : ∃ r, r = takeR ms fr es := ⟨_, rfl⟩
  rw [← hr]
  have hmay := refmay_any A c ms w hA (by omega)
  have HMAY := Lib.hid hmay
  clear hmay
  have hfr := fr.toNat_lt
  cases hma : mayB ms with
  | false =>
    rw [hma] at HMAY
    have HR : Hid (r = none) := by
      show _ = _
      rw [hr, takeR, hma]; rfl
    clear hr hma
    go_enter Try.func18, Try.ntmps18
    go_wp2_with fail
    refine HMAY.out.mono ?_
    rintro e w1 ⟨rfl, hb1⟩
    go_wp2_with fail
    go_ret2
    exact ⟨OutPost.bad HR.out rfl, hb1⟩
  | true =>
    rw [hma] at HMAY
    have HR := Lib.hid hr
    have HMA := Lib.hid hma
    clear hr hma
    go_enter Try.func18, Try.ntmps18
    go_wp2_with fail
    refine HMAY.out.mono ?_
    rintro e w1 ⟨rfl, hb1⟩
    clear HMAY
    go_wp2_with fail
    go_loopw [8] (fun i wr => ∃ k : Nat, k ≤ es.length ∧ i = .int .i64 k ∧ Below w.heap.size w wr ∧ (es.take k).all En.may = true ∧ (0 < k → fr.toNat ≤ 4611686018427387903 ∧ k - 1 ≤ 4611686018427387903 - fr.toNat)) (fun i _ => es.length - (intOf i).toNat)
    case atStart => exact ⟨0, by omega, rfl, hb1, rfl, fun h => absurd h (by omega)⟩
    case round =>
      clear hb1
      obtain ⟨k, hk, rfl, hb, hal, hfit⟩ := hrel
      have HAL := Lib.hid hal
      have HFIT := Lib.hid hfit
      clear hal hfit
      by_cases hlt : k < es.length
      · obtain ⟨b, o, rfl, had, c0, c1', c2⟩ := hB.at_ hlt
        replace c0 := (hb.cell (p := ⟨b, o + k * 3, none⟩) had).trans c0
        replace c1' := (hb.cell (p := ⟨b, o + k * 3 + 1, none⟩) had).trans c1'
        replace c2 := (hb.cell (p := ⟨b, o + k * 3 + 2, none⟩) had).trans c2
        have HNM := Lib.hid (fun h => HR.out.trans (take_none_may (ms := ms) (fr := fr) hlt h))
        have HNF := Lib.hid (fun h => HR.out.trans (take_none_fit (ms := ms) (fr := fr) hlt h))
        have HAS := Lib.hid (all_take_succ hlt HAL.out)
        generalize es[k] = x at c0 c1' c2 HNM HAS
        cases hx : x.may with
        | false =>
          have HE := Lib.hid (HNM.out hx)
          have HX := Lib.hid hx
          clear hx HNM HNF HAS
          go_wp2_with fail
          refine (remay_any x _).mono ?_
          rintro e w2 ⟨rfl, hb2⟩
          rw [HX.out]
          go_wp2_with fail
          go_ret2
          exact ⟨OutPost.bad HE.out rfl, below_call hb hb.size hb2⟩
        | true =>
          have HA2 := Lib.hid (HAS.out hx)
          have HX := Lib.hid hx
          clear hx HNM HAS
          by_cases hbig : 4611686018427387903 < fr.toNat
          · have HE := Lib.hid (HNF.out (.inl hbig))
            clear HNF
            go_wp2_with fail
            refine (remay_any x _).mono ?_
            rintro e w2 ⟨rfl, hb2⟩
            rw [HX.out]
            go_wp2_with fail
            go_ret2
            exact ⟨OutPost.bad HE.out rfl, below_call hb hb.size hb2⟩
          · by_cases hfar : 4611686018427387903 - fr.toNat < k
            · have HE := Lib.hid (HNF.out (.inr hfar))
              have hfar2 : (4611686018427387903 : Int) - (fr.toNat : Int) < (k : Int) := by omega
              clear HNF
              go_wp2_with fail
              refine (remay_any x _).mono ?_
              rintro e w2 ⟨rfl, hb2⟩
              rw [HX.out]
              go_wp2_with fail
              go_ret2
              exact ⟨OutPost.bad HE.out rfl, below_call hb hb.size hb2⟩
            · have hfar2 : ¬ (4611686018427387903 : Int) - (fr.toNat : Int) < (k : Int) := by omega
              clear HNF
              go_wp2_with fail
              refine (remay_any x _).mono ?_
              rintro e w2 ⟨rfl, hb2⟩
              rw [HX.out]
              go_wp2_with fail
              go_roundw
              case rel => exact ⟨k + 1, by omega, by go_num, below_call hb hb.size hb2, HA2.out, fun _ => ⟨by omega, by omega⟩⟩
              case measure => simp [intOf]; omega
      · obtain rfl : k = es.length := by omega
        have HOK : Hid (0 < es.length → fr.toNat ≤ 4611686018427387903 ∧ es.length - 1 ≤ 4611686018427387903 - fr.toNat) := HFIT.out
        have HRR : Hid (r = some (goesR ms (marksUp fr es es.length))) := by
          show _ = _
          have h1 := HAL.out
          rw [List.take_length] at h1
          have h2 : fitsB fr es.length = true := by
            unfold fitsB
            rw [decide_eq_true_iff]
            rcases Nat.eq_zero_or_pos es.length with h0 | h0
            · exact .inl h0
            · exact .inr (HOK.out h0)
          rw [HR.out, takeR, HMA.out, h1, h2]
          rfl
        clear HAL HFIT HR HMA
        have hown0 : (wr.alloc (.cells #[] 38)).ownsRow w.heap.size 38 3 (.slice (some ⟨wr.heap.size, 0, none⟩) 0 0) 0 [] := World.ownsRow_made _ _ _ hb.size (by simp [maxLen]) rfl
        have hA' : Marks (wr.alloc (.cells #[] 38)) A ms := (hA.below hb).below (below_new _ _)
        have h1 := Mk.row_one ms
        go_wp2_with (first
          | (at_builtin; refine app_list marks_ty rfl rfl hown0 rfl hA' rfl h1 (by omega) (by have := hb.size; simp; omega) ?_; intro v3 w3 hown3 hg3 _))
        have hw3 : Below w.heap.size w w3 := (hb.alloc hb.size _).grown hg3 (by have := hb.size; simp; omega) (own_ge hown0)
        have ho3 : OwnM w3 w.heap.size v3 ms := by unfold OwnM; simpa using hown3
        clear hown3 hg3 hown0 hA' h1 hb
        go_loopw [9, 10] (fun v i wr => ∃ k : Nat, k ≤ es.length ∧ i = .int .i64 k ∧ Below w.heap.size w wr ∧ ∃ L, goesR ms ((marksUp fr es es.length).take k) = some L ∧ L.length ≤ ms.length + k ∧ OwnM wr w.heap.size v L) (fun _ i _ => es.length - (intOf i).toNat)
        case atStart => exact ⟨0, by omega, rfl, hw3, ms, rfl, by omega, ho3⟩
        case round =>
          clear ho3 hw3
          obtain ⟨k, hk, rfl, hb, L, hL, hle, ho⟩ := hrel
          obtain ⟨A1, c1, rfl, hc1, hc2⟩ := ho.form
          by_cases hlt : k < es.length
          · obtain ⟨b, o, rfl, had, c0, c1', c2⟩ := hB.at_ hlt
            replace c0 := (hb.cell (p := ⟨b, o + k * 3, none⟩) had).trans c0
            replace c1' := (hb.cell (p := ⟨b, o + k * 3 + 1, none⟩) had).trans c1'
            have hkm : k < (marksUp fr es es.length).length := by rw [marksUp_len]; exact hlt
            have hmk : (marksUp fr es es.length)[k] = ⟨es[k].p, es[k].s, fr + UInt64.ofNat k⟩ := by
              rw [← mkOf_at fr es hlt]
              simp [marksUp]
            have hle2 : fr.toNat + k ≤ 4611686018427387903 := by have := HOK.out (by omega); omega
            have hoff := off_at fr k hle2
            have HS := Lib.hid (goesR_succ hkm hL)
            have HSTOP := Lib.hid (goesR_stop hkm hL)
            rw [hmk] at HS HSTOP
            clear hL hmk c2
            generalize es[k] = x at c0 c1' HS HSTOP
            obtain ⟨mk, hmk⟩ : ∃ mk : Mk, mk = ⟨x.p, x.s, fr + UInt64.ofNat k⟩ := ⟨_, rfl⟩
            rw [← hmk] at HS HSTOP
            have hval : Value.agg #[.int .i64 x.p.toInt, .int .u64 (x.s.toNat : Int), .int .u64 ((fr.toNat : Int) + (k : Int))] = mk.val := by
              rw [hmk, ← hoff]; rfl
            have HVAL := Lib.hid hval
            have hw1 : IntKind.u64.wrap (k : Int) = (k : Int) := by rw [IntKind.wrap_u64]; omega
            have hw2 : IntKind.u64.wrap ((fr.toNat : Int) + (k : Int)) = (fr.toNat : Int) + (k : Int) := by rw [IntKind.wrap_u64]; omega
            have hlt2 : (k : Int) < (es.length : Int) := by omega
            have hgo := refgo_any A1 c1 L mk wr.drew (OwnM.marks ho.drew) (by omega)
            have HGO := Lib.hid hgo
            have HLEN := Lib.hid (goR_len L mk)
            clear hgo hmk hoff hval
            generalize goR L mk = g at HGO HS HSTOP HLEN
            go_wp2_with fail
            refine PF.pf_begin (by kernel_rfl) ?_
            refine PF.pf_take0 0 (by kernel_rfl) rfl (fun _ _ _ _ _ h => h) (by kernel_rfl) (fun u => by go_simp; try rfl) ?_
            try simp only [Act.put, pz0, pz1, pz2]
            refine PF.pf_take0 1 (by kernel_rfl) rfl (fun _ _ _ _ _ h => h) (by kernel_rfl) (fun u => by go_simp; try rfl) ?_
            try simp only [Act.put, pz0, pz1, pz2]
            refine PF.pf_take0 2 (by kernel_rfl) rfl (fun _ _ _ _ _ h => h) (by kernel_rfl) (fun u => by go_simp; try rfl) ?_
            try simp only [Act.put, pz0, pz1, pz2]
            refine PF.pf_take0 3 (by kernel_rfl) rfl (fun _ _ _ _ _ h => h) (by kernel_rfl) (fun u => by go_simp; try rfl) ?_
            try simp only [Act.put, pz0, pz1, pz2]
            refine PF.pf_take0 4 (by kernel_rfl) rfl (fun _ _ _ _ _ h => h) (by kernel_rfl) (fun u => by go_simp; try rfl) ?_
            try simp only [Act.put, pz0, pz1, pz2]
            refine PF.pf_take1 5 (PF.Same (b) _) (by kernel_rfl) rfl (fun _ _ _ _ _ h => h) (by kernel_rfl) (PF.Same.refl _ _) (fun u hu => by have hcu := hu.cell; go_simp; try rfl) ?_
            try simp only [Act.put, pz0, pz1, pz2]
            refine PF.pf_take0 6 (by kernel_rfl) rfl (fun _ _ _ _ _ h => h) (by kernel_rfl) (fun u => by go_simp; try rfl) ?_
            try simp only [Act.put, pz0, pz1, pz2]
            refine PF.pf_take0 7 (by kernel_rfl) rfl (fun _ _ _ _ _ h => h) (by kernel_rfl) (fun u => by go_simp; try rfl) ?_
            try simp only [Act.put, pz0, pz1, pz2]
            refine PF.pf_take0 8 (by kernel_rfl) rfl (fun _ _ _ _ _ h => h) (by kernel_rfl) (fun u => by go_simp; try rfl) ?_
            try simp only [Act.put, pz0, pz1, pz2]
            refine PF.pf_take0 9 (by kernel_rfl) rfl (fun _ _ _ _ _ h => h) (by kernel_rfl) (fun u => by go_simp; try rfl) ?_
            try simp only [Act.put, pz0, pz1, pz2]
            refine PF.pf_take1 10 (PF.Same (b) _) (by kernel_rfl) rfl (fun _ _ _ _ _ h => h) (by kernel_rfl) (PF.Same.refl _ _) (fun u hu => by have hcu := hu.cell; go_simp; try rfl) ?_
            try simp only [Act.put, pz0, pz1, pz2]
            refine PF.pf_take0 11 (by kernel_rfl) rfl (fun _ _ _ _ _ h => h) (by kernel_rfl) (fun u => by go_simp; try rfl) ?_
            try simp only [Act.put, pz0, pz1, pz2]
            refine PF.pf_take0 12 (by kernel_rfl) rfl (fun _ _ _ _ _ h => h) (by kernel_rfl) (fun u => by go_simp; try rfl) ?_
            try simp only [Act.put, pz0, pz1, pz2]
            refine PF.pf_take0 13 (by kernel_rfl) rfl (fun _ _ _ _ _ h => h) (by kernel_rfl) (fun u => by go_simp; try rfl) ?_
            try simp only [Act.put, pz0, pz1, pz2]
            refine PF.pf_take0 14 (by kernel_rfl) rfl (fun _ _ _ _ _ h => h) (by kernel_rfl) (fun u => by go_simp; try rfl) ?_
            try simp only [Act.put, pz0, pz1, pz2]
            refine PF.pf_take0 15 (by kernel_rfl) rfl (fun _ _ _ _ _ h => h) (by kernel_rfl) (fun u => by go_simp; try rfl) ?_
            try simp only [Act.put, pz0, pz1, pz2]
            refine PF.pf_exec 16 (by kernel_rfl) rfl (by kernel_rfl) (fun K hK => ?_)
            go_simp
            rw [HVAL.out]; refine HGO.out.mono ?_; rintro e w4 ⟨hg, hb4⟩; obtain ⟨v4, n4, rfl, hcase⟩ := hg.form; have hw4 : Below w.heap.size w w4 := below_call hb.drew hb.size hb4
            refine hK _ _ (by repeat (first | exact PF.owes_nil | refine PF.owes_left ?_ | refine PF.owes_no (by decide +kernel) ?_ | refine PF.owes_yes (by first | rfl | assumption | go_simp) ?_)) ?_
            clear hK K
            try simp only [Act.put, pz0, pz1, pz2]
            refine PF.pf_take0 17 (by kernel_rfl) rfl (fun _ _ _ _ _ h => h) (by kernel_rfl) (fun u => by go_simp; try rfl) ?_
            try simp only [Act.put, pz0, pz1, pz2]
            refine PF.pf_take0 18 (by kernel_rfl) rfl (fun _ _ _ _ _ h => h) (by kernel_rfl) (fun u => by go_simp; try rfl) ?_
            try simp only [Act.put, pz0, pz1, pz2]
            refine PF.pf_take0 19 (by kernel_rfl) rfl (fun _ _ _ _ _ h => h) (by kernel_rfl) (fun u => by go_simp; try rfl) ?_
            try simp only [Act.put, pz0, pz1, pz2]
            refine PF.pf_take0 20 (by kernel_rfl) rfl (fun _ _ _ _ _ h => h) (by kernel_rfl) (fun u => by go_simp; try rfl) ?_
            try simp only [Act.put, pz0, pz1, pz2]
            refine PF.pf_take0 21 (by kernel_rfl) rfl (fun _ _ _ _ _ h => h) (by kernel_rfl) (fun u => by go_simp; try rfl) ?_
            try simp only [Act.put, pz0, pz1, pz2]
            refine PF.pf_done (by kernel_rfl) ?_
            rcases hcase with ⟨L2, rfl, rfl, ho4⟩ | ⟨rfl, rfl, rfl⟩
            · obtain ⟨A4, c4, rfl, _, _⟩ := ho4.form
              have HL2 := Lib.hid (HLEN.out L2 rfl)
              go_wp2_with fail
              go_roundw
              case rel => exact ⟨k + 1, by omega, by go_num, hw4, L2, HS.out, by have := HL2.out; omega, ho4.less hb.size⟩
              case measure => simp [intOf]; omega
            · go_wp2_with fail
              go_ret2
              exact ⟨OutPost.full (by have h1 := HSTOP.out; rw [HRR.out]; simp at h1 ⊢; exact h1) rfl, hw4⟩
          · obtain rfl : k = es.length := by omega
            have h9 : (marksUp fr es es.length).take es.length = marksUp fr es es.length := List.take_of_length_le (by rw [marksUp_len]; exact Nat.le_refl _)
            rw [h9] at hL
            go_wp2_with fail
            go_ret2
            exact ⟨OutPost.good (by rw [HRR.out, hL]) rfl ho, hb⟩
end Go.Proofs.Ytgdbknbpnlpdnaa
