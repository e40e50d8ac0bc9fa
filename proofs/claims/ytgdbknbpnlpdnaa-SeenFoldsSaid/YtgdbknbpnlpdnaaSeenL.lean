/- seen.goes. -/
import Derived.Test.YtgdbknbpnlpdnaaSeenI
import Derived.Test.YtgdbknbpnlpdnaaSeenK
namespace Go.Proofs.Ytgdbknbpnlpdnaa
set_option linter.unusedVariables false
set_option linter.unusedSimpArgs false
open Go.RowKit

/-- Where a mark goes. -/
def posS (L : List Mk) (m : Mk) : Nat := if findI (fun x => decide (m.p.toInt < x.p.toInt)) L < 0 then L.length else (findI (fun x => decide (m.p.toInt < x.p.toInt)) L).toNat
theorem posS_le (L : List Mk) (m : Mk) : posS L m ≤ L.length := by
  unfold posS
  have := findI_lt (fun x => decide (m.p.toInt < x.p.toInt)) L
  split <;> omega
def atS (L : List Mk) (m : Mk) : Int := findI (fun x => x.p.toInt == m.p.toInt) L
def goS (L : List Mk) (m : Mk) : Option (List Mk) :=
  if 0 ≤ atS L m then (if (L.getD (atS L m).toNat Mk.zero).s.toNat < m.s.toNat then some (L.set (atS L m).toNat m) else some L)
  else if 6 ≤ L.length then none else some (L.take (posS L m) ++ ([m] ++ L.drop (posS L m)))
def goesS (l more : List Mk) : Option (List Mk) := more.foldl (fun o m => o.bind (goS · m)) (some l)
theorem goesS_none (more : List Mk) : more.foldl (fun o m => o.bind (goS · m)) (none : Option (List Mk)) = none := by
  induction more with
  | nil => rfl
  | cons m more ih => exact ih
theorem goesS_succ {l more L : List Mk} {k : Nat} (hk : k < more.length) (h : goesS l (more.take k) = some L) : goesS l (more.take (k + 1)) = goS L more[k] := by
  unfold goesS at h ⊢
  rw [List.take_succ_eq_append_getElem hk, List.foldl_append, h]
  rfl
theorem goesS_stop {l more L : List Mk} {k : Nat} (hk : k < more.length) (h : goesS l (more.take k) = some L) (h2 : goS L more[k] = none) : goesS l more = none := by
  have e : more = more.take (k + 1) ++ more.drop (k + 1) := (List.take_append_drop _ _).symm
  have h3 := goesS_succ hk h
  rw [h2] at h3
  unfold goesS at h3 ⊢
  rw [e, List.foldl_append, h3]
  exact goesS_none _
theorem goS_len {L L' : List Mk} {m : Mk} (h : goS L m = some L') : L'.length ≤ L.length + 1 := by
  unfold goS at h
  split at h
  · split at h
    · injection h with h; subst h; simp
    · injection h with h; subst h; omega
  · split at h
    · cases h
    · injection h with h; subst h; have := posS_le L m; simp; omega

set_option maxRecDepth 100000 in
set_option maxHeartbeats 2000000 in
theorem goes_any (A : Option Addr) (c : Nat) (ms : List Mk) (B : Option Addr) (d : Nat) (more : List Mk) (w : World) (hA : Marks w A ms) (hB : Marks w B more) (hn : ms.length ≤ 100000) (hm : more.length ≤ 100000) :
    Calls Try.prog 36 #[.slice A ms.length c, .slice B more.length d] w fun e w' => GoPost w.heap.size (goesS ms more) e w' ∧ Below w.heap.size w w' := by
  obtain ⟨r, hr⟩ : ∃ r, r = goesS ms more := ⟨_, rfl⟩
  rw [← hr]
  have HR := Lib.hid hr
  clear hr
  have eg : ∀ args w, (callFunc 60 args).run Try.prog w = .ok (.enter 60 args) w := enters_of Try.func60 (by kernel_rfl) rfl
  have EG := Lib.hid eg
  clear eg
  go_enter Try.func36, Try.ntmps36
  go_wp2_with fail
  refine (clone_any A c ms w hA (by omega)).mono ?_
  rintro e w0 ⟨⟨v0, rfl, hown0⟩, hb0⟩
  go_wp2_with fail
  go_loopw [0, 13] (fun v i wr => ∃ k : Nat, k ≤ more.length ∧ i = .int .i64 k ∧ Below w.heap.size w wr ∧ ∃ L, goesS ms (more.take k) = some L ∧ L.length ≤ ms.length + k ∧ OwnM wr w.heap.size v L) (fun _ i _ => more.length - (intOf i).toNat)
  case atStart => exact ⟨0, by omega, rfl, hb0, ms, rfl, by omega, hown0⟩
  case round =>
    clear hown0 hb0
    obtain ⟨k, hk, rfl, hb, L, hL, hle, ho⟩ := hrel
    obtain ⟨A1, c1, rfl, hc1, hc2⟩ := ho.form
    simp only [maxLen] at hc2
    by_cases hlt : k < more.length
    · obtain ⟨b, o, rfl, had, c0, c1', c2⟩ := hB.at_ hlt
      replace c0 := (hb.cell (p := ⟨b, o + k * 3, none⟩) had).trans c0
      replace c1' := (hb.cell (p := ⟨b, o + k * 3 + 1, none⟩) had).trans c1'
      replace c2 := (hb.cell (p := ⟨b, o + k * 3 + 2, none⟩) had).trans c2
      have HS := Lib.hid (goesS_succ hlt hL)
      have HSTOP := Lib.hid (goesS_stop hlt hL)
      clear hL
      generalize more[k] = m at c0 c1' c2 HS HSTOP
      obtain ⟨f, hf⟩ : ∃ f, f = atS L m := ⟨_, rfl⟩
      have hflt := findI_lt (fun x => x.p.toInt == m.p.toInt) L
      have hat := at_any A1 c1 L m.p (wr.alloc (.cells #[.int .i64 m.p.toInt, .int .u64 (m.s.toNat : Int), .int .u64 (m.o.toNat : Int)] 38)) (ho.marks.below (below_new _ _)) (by omega)
      rw [show findI (fun x => x.p.toInt == m.p.toInt) L = f from hf.symm] at hat hflt
      have HAT := Lib.hid hat
      have HF := Lib.hid hf
      clear hat hf
      have hbs : w.heap.size ≤ wr.heap.size := hb.size
      go_wp2_with fail
      refine HAT.out.mono ?_
      rintro e w1 ⟨rfl, hb1⟩
      clear HAT c0 c1' c2
      have hbk := (Blk.new wr 38 #[.int .i64 m.p.toInt, .int .u64 (m.s.toNat : Int), .int .u64 (m.o.toNat : Int)]).below hb1 (by simp)
      have hbw1 : Below w.heap.size w w1 := below_call (hb.alloc hb.size _) (by simp; omega) hb1
      have ho1 : OwnM w1 w.heap.size (.slice A1 L.length c1) L := (ho.alloc _).call hb1
      have hlt1 := own_ge ho1
      have hgne : ∀ g, A1 = some ⟨g, 0, none⟩ → g ≠ wr.heap.size := fun g e => by
        have := (World.ownsRow.lt ho g (by simp [Value.ownBlock, e])).2
        omega
      have m0 : w1.cell? ⟨wr.heap.size, 0, none⟩ = some (.int .i64 m.p.toInt) := hbk.cell 0
      have m1 : w1.cell? ⟨wr.heap.size, 1, none⟩ = some (.int .u64 (m.s.toNat : Int)) := hbk.cell 1
      have m2 : w1.cell? ⟨wr.heap.size, 2, none⟩ = some (.int .u64 (m.o.toNat : Int)) := hbk.cell 2
      clear ho hb1
      by_cases hf0 : 0 ≤ f
      · obtain ⟨j, rfl⟩ := Int.eq_ofNat_of_zero_le hf0
        have hj : j < L.length := by omega
        obtain ⟨g, cg, e, hg, hgw, _, _⟩ := ho1.ptr (by omega)
        injection e with e1 _ e2
        subst e1 e2
        have hgn := hgne g rfl
        obtain ⟨d0, d1, d2, hfr, _, _⟩ := ho1.at_ hj
        have HG : Hid (L.getD j Mk.zero = L[j]) := by
          show _ = _
          rw [List.getD_eq_getElem?_getD, List.getElem?_eq_getElem hj]; rfl
        have hji : (j : Int) < (L.length : Int) := by omega
        by_cases hs : (L.getD j Mk.zero).s.toNat < m.s.toNat
        · have HGO : Hid (goS L m = some (L.set j m)) := by
            show _ = _
            rw [goS, ← HF.out, if_pos hf0]
            exact if_pos hs
          have hs' : L[j].s.toNat < m.s.toNat := by rw [← HG.out]; exact hs
          clear hs HG
          have f0 := hfr (j * 3)
          have f1 := hfr (j * 3 + 1)
          have f2 := hfr (j * 3 + 2)
          have HSET := Lib.hid (ho1.set j m)
          have HLEN := Lib.hid (goS_len HGO.out)
          generalize L[j] = x at d0 d1 d2 hs'
          have hd : decide (x.s.toNat < m.s.toNat) = true := by rw [decide_eq_true_iff]; omega
          have HD := Lib.hid hd
          clear hd hs' hfr ho1
          go_wp2_with fail
          refine PF.pf_begin (by kernel_rfl) ?_
          refine PF.pf_take0 0 (by kernel_rfl) rfl (fun _ _ _ _ _ h => h) (by kernel_rfl) (fun u => by go_simp; try rfl) ?_
          try simp only [Act.put, pz0, pz1, pz2]
          refine PF.pf_take0 1 (by kernel_rfl) rfl (fun _ _ _ _ _ h => h) (by kernel_rfl) (fun u => by go_simp; try rfl) ?_
          try simp only [Act.put, pz0, pz1, pz2]
          refine PF.pf_take0 2 (by kernel_rfl) rfl (fun _ _ _ _ _ h => h) (by kernel_rfl) (fun u => by go_simp; try rfl) ?_
          try simp only [Act.put, pz0, pz1, pz2]
          refine PF.pf_take0 3 (by kernel_rfl) rfl (fun _ _ _ _ _ h => h) (by kernel_rfl) (fun u => by go_simp; try rfl) ?_
          try simp only [Act.put, pz0, pz1, pz2]
          refine PF.pf_take0 4 (by kernel_rfl) rfl (fun _ _ _ _ _ h => h) (by kernel_rfl) (fun u => by go_simp; try rfl) ?_
          try simp only [Act.put, pz0, pz1, pz2]
          refine PF.pf_take0 5 (by kernel_rfl) rfl (fun _ _ _ _ _ h => h) (by kernel_rfl) (fun u => by go_simp; try rfl) ?_
          try simp only [Act.put, pz0, pz1, pz2]
          refine PF.pf_take0 6 (by kernel_rfl) rfl (fun _ _ _ _ _ h => h) (by kernel_rfl) (fun u => by go_simp; try rfl) ?_
          try simp only [Act.put, pz0, pz1, pz2]
          refine PF.pf_take1 7 (PF.Same (g) _) (by kernel_rfl) rfl (fun _ _ _ _ _ h => h) (by kernel_rfl) (PF.Same.refl _ _) (fun u hu => by have hcu := hu.cell; go_simp; try rfl) ?_
          try simp only [Act.put, pz0, pz1, pz2]
          refine PF.pf_take0 8 (by kernel_rfl) rfl (fun _ _ _ _ _ h => h) (by kernel_rfl) (fun u => by go_simp; try rfl) ?_
          try simp only [Act.put, pz0, pz1, pz2]
          refine PF.pf_take1 9 (PF.Same (wr.heap.size) _) (by kernel_rfl) rfl (fun _ _ _ _ _ h => h) (by kernel_rfl) (PF.Same.refl _ _) (fun u hu => by have hcu := hu.cell; go_simp; try rfl) ?_
          try simp only [Act.put, pz0, pz1, pz2]
          refine PF.pf_take0 10 (by kernel_rfl) rfl (fun _ _ _ _ _ h => h) (by kernel_rfl) (fun u => by go_simp; try rfl) ?_
          try simp only [Act.put, pz0, pz1, pz2]
          refine PF.pf_take0 11 (by kernel_rfl) rfl (fun _ _ _ _ _ h => h) (by kernel_rfl) (fun u => by go_simp; try rfl) ?_
          try simp only [Act.put, pz0, pz1, pz2]
          refine PF.pf_take0 12 (by kernel_rfl) rfl (fun _ _ _ _ _ h => h) (by kernel_rfl) (fun u => by go_simp; try rfl) ?_
          try simp only [Act.put, pz0, pz1, pz2]
          refine PF.pf_done (by kernel_rfl) ?_
          rw [HD.out]
          go_wp2_with fail
          go_roundw
          case rel => exact ⟨k + 1, by omega, by go_num, (hbw1.grown HSET.out.2 hbw1.size (fun i hi => by cases hi; exact hg)).drew, L.set j m, by rw [HS.out, HGO.out], by simp; omega, by have := OwnM.drew HSET.out.1; first | exact this | (rw [List.length_set]; exact this)⟩
          case measure => simp [intOf]; omega
        · have HGO : Hid (goS L m = some L) := by
            show _ = _
            rw [goS, ← HF.out, if_pos hf0]
            exact if_neg hs
          have hs' : ¬ L[j].s.toNat < m.s.toNat := by rw [← HG.out]; exact hs
          clear hs HG hfr
          generalize L[j] = x at d0 d1 d2 hs'
          have hd : decide (x.s.toNat < m.s.toNat) = false := by rw [decide_eq_false_iff_not]; omega
          have HD := Lib.hid hd
          clear hd hs'
          go_wp2_with fail
          refine PF.pf_begin (by kernel_rfl) ?_
          refine PF.pf_take0 0 (by kernel_rfl) rfl (fun _ _ _ _ _ h => h) (by kernel_rfl) (fun u => by go_simp; try rfl) ?_
          try simp only [Act.put, pz0, pz1, pz2]
          refine PF.pf_take0 1 (by kernel_rfl) rfl (fun _ _ _ _ _ h => h) (by kernel_rfl) (fun u => by go_simp; try rfl) ?_
          try simp only [Act.put, pz0, pz1, pz2]
          refine PF.pf_take0 2 (by kernel_rfl) rfl (fun _ _ _ _ _ h => h) (by kernel_rfl) (fun u => by go_simp; try rfl) ?_
          try simp only [Act.put, pz0, pz1, pz2]
          refine PF.pf_take0 3 (by kernel_rfl) rfl (fun _ _ _ _ _ h => h) (by kernel_rfl) (fun u => by go_simp; try rfl) ?_
          try simp only [Act.put, pz0, pz1, pz2]
          refine PF.pf_take0 4 (by kernel_rfl) rfl (fun _ _ _ _ _ h => h) (by kernel_rfl) (fun u => by go_simp; try rfl) ?_
          try simp only [Act.put, pz0, pz1, pz2]
          refine PF.pf_take0 5 (by kernel_rfl) rfl (fun _ _ _ _ _ h => h) (by kernel_rfl) (fun u => by go_simp; try rfl) ?_
          try simp only [Act.put, pz0, pz1, pz2]
          refine PF.pf_take0 6 (by kernel_rfl) rfl (fun _ _ _ _ _ h => h) (by kernel_rfl) (fun u => by go_simp; try rfl) ?_
          try simp only [Act.put, pz0, pz1, pz2]
          refine PF.pf_take1 7 (PF.Same (g) _) (by kernel_rfl) rfl (fun _ _ _ _ _ h => h) (by kernel_rfl) (PF.Same.refl _ _) (fun u hu => by have hcu := hu.cell; go_simp; try rfl) ?_
          try simp only [Act.put, pz0, pz1, pz2]
          refine PF.pf_take0 8 (by kernel_rfl) rfl (fun _ _ _ _ _ h => h) (by kernel_rfl) (fun u => by go_simp; try rfl) ?_
          try simp only [Act.put, pz0, pz1, pz2]
          refine PF.pf_take1 9 (PF.Same (wr.heap.size) _) (by kernel_rfl) rfl (fun _ _ _ _ _ h => h) (by kernel_rfl) (PF.Same.refl _ _) (fun u hu => by have hcu := hu.cell; go_simp; try rfl) ?_
          try simp only [Act.put, pz0, pz1, pz2]
          refine PF.pf_take0 10 (by kernel_rfl) rfl (fun _ _ _ _ _ h => h) (by kernel_rfl) (fun u => by go_simp; try rfl) ?_
          try simp only [Act.put, pz0, pz1, pz2]
          refine PF.pf_take0 11 (by kernel_rfl) rfl (fun _ _ _ _ _ h => h) (by kernel_rfl) (fun u => by go_simp; try rfl) ?_
          try simp only [Act.put, pz0, pz1, pz2]
          refine PF.pf_take0 12 (by kernel_rfl) rfl (fun _ _ _ _ _ h => h) (by kernel_rfl) (fun u => by go_simp; try rfl) ?_
          try simp only [Act.put, pz0, pz1, pz2]
          refine PF.pf_done (by kernel_rfl) ?_
          rw [HD.out]
          go_wp2_with fail
          go_roundw
          case rel => exact ⟨k + 1, by omega, by go_num, hbw1.drew, L, by rw [HS.out, HGO.out], by omega, ho1.drew⟩
          case measure => simp [intOf]; omega
      · by_cases h6 : 6 ≤ L.length
        · have HGO : Hid (goS L m = none) := by
            show _ = _
            rw [goS, ← HF.out, if_neg hf0, if_pos h6]
          have hd : decide (0 ≤ f) = false := by simpa using hf0
          go_wp2_with fail
          refine PF.pf_begin (by kernel_rfl) ?_
          refine PF.pf_take0 0 (by kernel_rfl) rfl (fun _ _ _ _ _ h => h) (by kernel_rfl) (fun u => by go_simp; try rfl) ?_
          try simp only [Act.put, pz0, pz1, pz2]
          refine PF.pf_take0 1 (by kernel_rfl) rfl (fun _ _ _ _ _ h => h) (by kernel_rfl) (fun u => by go_simp; try rfl) ?_
          try simp only [Act.put, pz0, pz1, pz2]
          refine PF.pf_take0 2 (by kernel_rfl) rfl (fun _ _ _ _ _ h => h) (by kernel_rfl) (fun u => by go_simp; try rfl) ?_
          try simp only [Act.put, pz0, pz1, pz2]
          refine PF.pf_skip0 3 (by kernel_rfl) rfl (fun _ _ _ _ _ h => h) (by kernel_rfl) ?_
          try simp only [Act.put, pz0, pz1, pz2]
          refine PF.pf_skip0 4 (by kernel_rfl) rfl (fun _ _ _ _ _ h => h) (by kernel_rfl) ?_
          try simp only [Act.put, pz0, pz1, pz2]
          refine PF.pf_skip0 5 (by kernel_rfl) rfl (fun _ _ _ _ _ h => h) (by kernel_rfl) ?_
          try simp only [Act.put, pz0, pz1, pz2]
          refine PF.pf_skip0 6 (by kernel_rfl) rfl (fun _ _ _ _ _ h => h) (by kernel_rfl) ?_
          try simp only [Act.put, pz0, pz1, pz2]
          refine PF.pf_skip0 7 (by kernel_rfl) rfl (fun _ _ _ _ _ h => h) (by kernel_rfl) ?_
          try simp only [Act.put, pz0, pz1, pz2]
          refine PF.pf_skip0 8 (by kernel_rfl) rfl (fun _ _ _ _ _ h => h) (by kernel_rfl) ?_
          try simp only [Act.put, pz0, pz1, pz2]
          refine PF.pf_skip0 9 (by kernel_rfl) rfl (fun _ _ _ _ _ h => h) (by kernel_rfl) ?_
          try simp only [Act.put, pz0, pz1, pz2]
          refine PF.pf_skip0 10 (by kernel_rfl) rfl (fun _ _ _ _ _ h => h) (by kernel_rfl) ?_
          try simp only [Act.put, pz0, pz1, pz2]
          refine PF.pf_take0 11 (by kernel_rfl) rfl (fun _ _ _ _ _ h => h) (by kernel_rfl) (fun u => by go_simp; try rfl) ?_
          try simp only [Act.put, pz0, pz1, pz2]
          refine PF.pf_take0 12 (by kernel_rfl) rfl (fun _ _ _ _ _ h => h) (by kernel_rfl) (fun u => by go_simp; try rfl) ?_
          try simp only [Act.put, pz0, pz1, pz2]
          refine PF.pf_done (by kernel_rfl) ?_
          go_wp2_with fail
          go_ret2
          refine ⟨?_, hbw1.drew⟩
          rw [HR.out, HSTOP.out HGO.out]
          exact rfl
        · have HGO : Hid (goS L m = some (L.take (posS L m) ++ ([m] ++ L.drop (posS L m)))) := by
            show _ = _
            rw [goS, ← HF.out, if_neg hf0, if_neg h6]
          have hd : decide (0 ≤ f) = false := by simpa using hf0
          have hpos : findI (fun x => decide (m.p.toInt < x.p.toInt)) L < L.length ∧ -1 ≤ findI (fun x => decide (m.p.toInt < x.p.toInt)) L := findI_lt _ _
          have hposS : posS L m = if findI (fun x => decide (m.p.toInt < x.p.toInt)) L < 0 then L.length else (findI (fun x => decide (m.p.toInt < x.p.toInt)) L).toNat := rfl
          have hfirst := firstM A1 c1 L (fun x => decide (m.p.toInt < x.p.toInt)) 60 #[.pointer (some ⟨wr.heap.size, 0, none⟩)] EG.out w1.drew (OwnM.marks ho1.drew) (by omega) (behind_pred m.p wr.heap.size w1.drew hbk.lt m0)
          generalize findI (fun x => decide (m.p.toInt < x.p.toInt)) L = g at hpos hposS hfirst
          have HFST := Lib.hid hfirst
          have HPOS0 := Lib.hid hposS
          clear hfirst hposS
          go_wp2_with fail
          refine PF.pf_begin (by kernel_rfl) ?_
          refine PF.pf_take0 0 (by kernel_rfl) rfl (fun _ _ _ _ _ h => h) (by kernel_rfl) (fun u => by go_simp; try rfl) ?_
          try simp only [Act.put, pz0, pz1, pz2]
          refine PF.pf_take0 1 (by kernel_rfl) rfl (fun _ _ _ _ _ h => h) (by kernel_rfl) (fun u => by go_simp; try rfl) ?_
          try simp only [Act.put, pz0, pz1, pz2]
          refine PF.pf_take0 2 (by kernel_rfl) rfl (fun _ _ _ _ _ h => h) (by kernel_rfl) (fun u => by go_simp; try rfl) ?_
          try simp only [Act.put, pz0, pz1, pz2]
          refine PF.pf_skip0 3 (by kernel_rfl) rfl (fun _ _ _ _ _ h => h) (by kernel_rfl) ?_
          try simp only [Act.put, pz0, pz1, pz2]
          refine PF.pf_skip0 4 (by kernel_rfl) rfl (fun _ _ _ _ _ h => h) (by kernel_rfl) ?_
          try simp only [Act.put, pz0, pz1, pz2]
          refine PF.pf_skip0 5 (by kernel_rfl) rfl (fun _ _ _ _ _ h => h) (by kernel_rfl) ?_
          try simp only [Act.put, pz0, pz1, pz2]
          refine PF.pf_skip0 6 (by kernel_rfl) rfl (fun _ _ _ _ _ h => h) (by kernel_rfl) ?_
          try simp only [Act.put, pz0, pz1, pz2]
          refine PF.pf_skip0 7 (by kernel_rfl) rfl (fun _ _ _ _ _ h => h) (by kernel_rfl) ?_
          try simp only [Act.put, pz0, pz1, pz2]
          refine PF.pf_skip0 8 (by kernel_rfl) rfl (fun _ _ _ _ _ h => h) (by kernel_rfl) ?_
          try simp only [Act.put, pz0, pz1, pz2]
          refine PF.pf_skip0 9 (by kernel_rfl) rfl (fun _ _ _ _ _ h => h) (by kernel_rfl) ?_
          try simp only [Act.put, pz0, pz1, pz2]
          refine PF.pf_skip0 10 (by kernel_rfl) rfl (fun _ _ _ _ _ h => h) (by kernel_rfl) ?_
          try simp only [Act.put, pz0, pz1, pz2]
          refine PF.pf_take0 11 (by kernel_rfl) rfl (fun _ _ _ _ _ h => h) (by kernel_rfl) (fun u => by go_simp; try rfl) ?_
          try simp only [Act.put, pz0, pz1, pz2]
          refine PF.pf_take0 12 (by kernel_rfl) rfl (fun _ _ _ _ _ h => h) (by kernel_rfl) (fun u => by go_simp; try rfl) ?_
          try simp only [Act.put, pz0, pz1, pz2]
          refine PF.pf_done (by kernel_rfl) ?_
          go_wp2_with fail
          refine HFST.out.mono ?_
          rintro e w2 ⟨rfl, hb2⟩
          have hbw2 : Below w.heap.size w w2 := below_call hbw1.drew hbw1.size hb2
          have hbk2 := Blk.below (w := w1.drew) hbk hb2 hbk.lt
          have ho2 : OwnM w2 w.heap.size (.slice A1 L.length c1) L := OwnM.call (w := w1.drew) ho1 hb2
          clear m0 m1 m2 HFST ho1 hb2 hbk hbw1
          have m0 : w2.cell? ⟨wr.heap.size, 0, none⟩ = some (.int .i64 m.p.toInt) := hbk2.cell 0
          have m1 : w2.cell? ⟨wr.heap.size, 1, none⟩ = some (.int .u64 (m.s.toNat : Int)) := hbk2.cell 1
          have m2 : w2.cell? ⟨wr.heap.size, 2, none⟩ = some (.int .u64 (m.o.toNat : Int)) := hbk2.cell 2
          by_cases hg0 : g < 0
          · have HPOS : Hid (posS L m = L.length) := by
              show _ = _
              rw [HPOS0.out, if_pos hg0]
            clear HPOS0
            have hcapK : L.length ≤ L.length := Nat.le_refl _
            have hA1 : A1 = none → L.length = 0 := fun h => by
              have : ¬ 0 < L.length := fun h0 => by
                obtain ⟨g, _, e, _⟩ := ho2.ptr h0
                subst h
                injection e with e
                cases e
              omega
            have hKi : (L.length : Int) ≤ (c1 : Int) := by omega
            go_wp2_with fail
            have hownL : (w2.drew.alloc (.cells #[.int .i64 m.p.toInt, .int .u64 (m.s.toNat : Int), .int .u64 (m.o.toNat : Int)] 38)).ownsRow w2.heap.size 38 3 (.slice (some ⟨w2.heap.size, 0, none⟩) 1 1) 1 (Mk.row [m]) := World.ownsRow_lit w2.drew #[.int .i64 m.p.toInt, .int .u64 (m.s.toNat : Int), .int .u64 (m.o.toNat : Int)] 1 (Nat.le_refl _) (by simp [maxLen]) rfl
            have hcut := Reads.cut (Reads.alloc (Reads.drew (OwnM.marks ho2)) (.cells #[.int .i64 m.p.toInt, .int .u64 (m.s.toNat : Int), .int .u64 (m.o.toNat : Int)] 38)) hcapK hc1
            rw [Mk.row_drop, Nat.sub_self] at hcut
            have hone := Mk.row_one (L.drop L.length)
            refine PF.pf_begin (by kernel_rfl) ?_
            refine PF.pf_take0 0 (by kernel_rfl) rfl (fun _ _ _ _ _ h => h) (by kernel_rfl) (fun u => by go_simp; try rfl) ?_
            try simp only [Act.put, pz0, pz1, pz2]
            refine PF.pf_take0 1 (by kernel_rfl) rfl (fun _ _ _ _ _ h => h) (by kernel_rfl) (fun u => by go_simp; try rfl) ?_
            try simp only [Act.put, pz0, pz1, pz2]
            refine PF.pf_take0 2 (by kernel_rfl) rfl (fun _ _ _ _ _ h => h) (by kernel_rfl) (fun u => by go_simp; try rfl) ?_
            try simp only [Act.put, pz0, pz1, pz2]
            refine PF.pf_take0 3 (by kernel_rfl) rfl (fun _ _ _ _ _ h => h) (by kernel_rfl) (fun u => by go_simp; try rfl) ?_
            try simp only [Act.put, pz0, pz1, pz2]
            refine PF.pf_take1 4 (PF.Same (wr.heap.size) _) (by kernel_rfl) rfl (fun _ _ _ _ _ h => h) (by kernel_rfl) (PF.Same.refl _ _) (fun u hu => by have hcu := hu.cell; go_simp; try rfl) ?_
            try simp only [Act.put, pz0, pz1, pz2]
            refine PF.pf_take0 6 (by kernel_rfl) rfl (fun _ _ _ _ _ h => h) (by kernel_rfl) (fun u => by go_simp; try rfl) ?_
            try simp only [Act.put, pz0, pz1, pz2]
            refine PF.pf_take0 7 (by kernel_rfl) rfl (fun _ _ _ _ _ h => h) (by kernel_rfl) (fun u => by go_simp; try rfl) ?_
            try simp only [Act.put, pz0, pz1, pz2]
            refine PF.pf_take0 8 (by kernel_rfl) rfl (fun _ _ _ _ _ h => h) (by kernel_rfl) (fun u => by go_simp; try rfl) ?_
            try simp only [Act.put, pz0, pz1, pz2]
            refine PF.pf_exec 5 (by kernel_rfl) rfl (by kernel_rfl) (fun K hK => ?_)
            go_simp
            refine hK _ _ (by repeat (first | exact PF.owes_nil | refine PF.owes_left ?_ | refine PF.owes_no (by decide +kernel) ?_ | refine PF.owes_yes (by first | rfl | assumption | go_simp) ?_)) ?_
            clear hK K
            try simp only [Act.put, pz0, pz1, pz2]
            refine PF.pf_exec 9 (by kernel_rfl) rfl (by kernel_rfl) (fun K hK => ?_)
            refine app_wp marks_ty rfl hownL rfl hcut rfl hone (by omega) (by simp) ?_
            intro v5 w5 hown5 hg5 _
            obtain ⟨A5, c5, rfl, _, _⟩ := own_slice hown5
            have hb5 : Below w2.heap.size w2 w5 := (((Below.refl _ w2).drew).alloc (Nat.le_refl _) _).grown hg5 (by simp) (own_ge hownL)
            have ho5 := ho2.call hb5
            have htk := Reads.take (OwnM.marks ho5) hcapK
            rw [Mk.row_take] at htk
            have hr5 := Reads.of_own hown5
            have hone5 : ∀ u ∈ Mk.row [m] ++ Mk.row (L.drop L.length), u.oneCell' = true := by rw [← Mk.row_append]; exact Mk.row_one _
            refine hK _ _ (by repeat (first | exact PF.owes_nil | refine PF.owes_left ?_ | refine PF.owes_no (by decide +kernel) ?_ | refine PF.owes_yes (by first | rfl | assumption | go_simp) ?_)) ?_
            clear hK K
            try simp only [Act.put, pz0, pz1, pz2]
            refine PF.pf_exec 10 (by kernel_rfl) rfl (by kernel_rfl) (fun K hK => ?_)
            refine app_fresh_wp marks_ty rfl htk rfl hr5 rfl hA1 (by omega) (by omega) hone5 (by omega) ?_
            intro v6 w6 hown6 hg6
            refine hK _ _ (by repeat (first | exact PF.owes_nil | refine PF.owes_left ?_ | refine PF.owes_no (by decide +kernel) ?_ | refine PF.owes_yes (by first | rfl | assumption | go_simp) ?_)) ?_
            clear hK K
            try simp only [Act.put, pz0, pz1, pz2]
            refine PF.pf_take0 11 (by kernel_rfl) rfl (fun _ _ _ _ _ h => h) (by kernel_rfl) (fun u => by go_simp; try rfl) ?_
            try simp only [Act.put, pz0, pz1, pz2]
            refine PF.pf_done (by kernel_rfl) ?_
            go_wp2_with fail
            have hbw5 : Below w.heap.size w w5 := hbw2.trans (hb5.mono hbw2.size)
            have hbw6 : Below w.heap.size w w6 := below_grown hbw5 hg6 hbw5.size
            have hfin : OwnM w6 w.heap.size v6 (L.take L.length ++ ([m] ++ L.drop L.length)) := by
              unfold OwnM
              rw [Mk.row_append, Mk.row_append, List.length_append, List.length_append, List.length_take, List.length_drop, Nat.min_eq_left hcapK, Nat.sub_self]
              exact base_le hown6 hbw5.size
            rw [HPOS.out] at HGO
            have HLEN := Lib.hid (goS_len HGO.out)
            obtain ⟨A6, c6, rfl, _, _⟩ := hfin.form
            go_roundw
            case rel => exact ⟨k + 1, by omega, by go_num, hbw6, _, by rw [HS.out, HGO.out], by have := HLEN.out; omega, hfin⟩
            case measure => simp [intOf]; omega
          · obtain ⟨kq, rfl⟩ := Int.eq_ofNat_of_zero_le (show 0 ≤ g by omega)
            have HPOS : Hid (posS L m = kq) := by
              show _ = _
              rw [HPOS0.out, if_neg hg0]; simp
            clear HPOS0
            have hcapK : kq ≤ L.length := by omega
            have hA1 : A1 = none → kq = 0 := fun h => by
              have : ¬ 0 < L.length := fun h0 => by
                obtain ⟨g, _, e, _⟩ := ho2.ptr h0
                subst h
                injection e with e
                cases e
              omega
            have hKi : (kq : Int) ≤ (c1 : Int) := by omega
            have hKj : (kq : Int) ≤ (L.length : Int) := by omega
            go_wp2_with fail
            have hownL : (w2.drew.alloc (.cells #[.int .i64 m.p.toInt, .int .u64 (m.s.toNat : Int), .int .u64 (m.o.toNat : Int)] 38)).ownsRow w2.heap.size 38 3 (.slice (some ⟨w2.heap.size, 0, none⟩) 1 1) 1 (Mk.row [m]) := World.ownsRow_lit w2.drew #[.int .i64 m.p.toInt, .int .u64 (m.s.toNat : Int), .int .u64 (m.o.toNat : Int)] 1 (Nat.le_refl _) (by simp [maxLen]) rfl
            have hcut := Reads.cut (Reads.alloc (Reads.drew (OwnM.marks ho2)) (.cells #[.int .i64 m.p.toInt, .int .u64 (m.s.toNat : Int), .int .u64 (m.o.toNat : Int)] 38)) hcapK hc1
            rw [Mk.row_drop] at hcut
            have hone := Mk.row_one (L.drop kq)
            refine PF.pf_begin (by kernel_rfl) ?_
            refine PF.pf_take0 0 (by kernel_rfl) rfl (fun _ _ _ _ _ h => h) (by kernel_rfl) (fun u => by go_simp; try rfl) ?_
            try simp only [Act.put, pz0, pz1, pz2]
            refine PF.pf_take0 1 (by kernel_rfl) rfl (fun _ _ _ _ _ h => h) (by kernel_rfl) (fun u => by go_simp; try rfl) ?_
            try simp only [Act.put, pz0, pz1, pz2]
            refine PF.pf_take0 2 (by kernel_rfl) rfl (fun _ _ _ _ _ h => h) (by kernel_rfl) (fun u => by go_simp; try rfl) ?_
            try simp only [Act.put, pz0, pz1, pz2]
            refine PF.pf_take0 3 (by kernel_rfl) rfl (fun _ _ _ _ _ h => h) (by kernel_rfl) (fun u => by go_simp; try rfl) ?_
            try simp only [Act.put, pz0, pz1, pz2]
            refine PF.pf_take1 4 (PF.Same (wr.heap.size) _) (by kernel_rfl) rfl (fun _ _ _ _ _ h => h) (by kernel_rfl) (PF.Same.refl _ _) (fun u hu => by have hcu := hu.cell; go_simp; try rfl) ?_
            try simp only [Act.put, pz0, pz1, pz2]
            refine PF.pf_take0 6 (by kernel_rfl) rfl (fun _ _ _ _ _ h => h) (by kernel_rfl) (fun u => by go_simp; try rfl) ?_
            try simp only [Act.put, pz0, pz1, pz2]
            refine PF.pf_take0 7 (by kernel_rfl) rfl (fun _ _ _ _ _ h => h) (by kernel_rfl) (fun u => by go_simp; try rfl) ?_
            try simp only [Act.put, pz0, pz1, pz2]
            refine PF.pf_take0 8 (by kernel_rfl) rfl (fun _ _ _ _ _ h => h) (by kernel_rfl) (fun u => by go_simp; try rfl) ?_
            try simp only [Act.put, pz0, pz1, pz2]
            refine PF.pf_exec 5 (by kernel_rfl) rfl (by kernel_rfl) (fun K hK => ?_)
            go_simp
            refine hK _ _ (by repeat (first | exact PF.owes_nil | refine PF.owes_left ?_ | refine PF.owes_no (by decide +kernel) ?_ | refine PF.owes_yes (by first | rfl | assumption | go_simp) ?_)) ?_
            clear hK K
            try simp only [Act.put, pz0, pz1, pz2]
            refine PF.pf_exec 9 (by kernel_rfl) rfl (by kernel_rfl) (fun K hK => ?_)
            refine app_wp marks_ty rfl hownL rfl hcut rfl hone (by omega) (by simp) ?_
            intro v5 w5 hown5 hg5 _
            obtain ⟨A5, c5, rfl, _, _⟩ := own_slice hown5
            have hb5 : Below w2.heap.size w2 w5 := (((Below.refl _ w2).drew).alloc (Nat.le_refl _) _).grown hg5 (by simp) (own_ge hownL)
            have ho5 := ho2.call hb5
            have htk := Reads.take (OwnM.marks ho5) hcapK
            rw [Mk.row_take] at htk
            have hr5 := Reads.of_own hown5
            have hone5 : ∀ u ∈ Mk.row [m] ++ Mk.row (L.drop kq), u.oneCell' = true := by rw [← Mk.row_append]; exact Mk.row_one _
            refine hK _ _ (by repeat (first | exact PF.owes_nil | refine PF.owes_left ?_ | refine PF.owes_no (by decide +kernel) ?_ | refine PF.owes_yes (by first | rfl | assumption | go_simp) ?_)) ?_
            clear hK K
            try simp only [Act.put, pz0, pz1, pz2]
            refine PF.pf_exec 10 (by kernel_rfl) rfl (by kernel_rfl) (fun K hK => ?_)
            refine app_fresh_wp marks_ty rfl htk rfl hr5 rfl hA1 (by omega) (by omega) hone5 (by omega) ?_
            intro v6 w6 hown6 hg6
            refine hK _ _ (by repeat (first | exact PF.owes_nil | refine PF.owes_left ?_ | refine PF.owes_no (by decide +kernel) ?_ | refine PF.owes_yes (by first | rfl | assumption | go_simp) ?_)) ?_
            clear hK K
            try simp only [Act.put, pz0, pz1, pz2]
            refine PF.pf_take0 11 (by kernel_rfl) rfl (fun _ _ _ _ _ h => h) (by kernel_rfl) (fun u => by go_simp; try rfl) ?_
            try simp only [Act.put, pz0, pz1, pz2]
            refine PF.pf_done (by kernel_rfl) ?_
            go_wp2_with fail
            have hbw5 : Below w.heap.size w w5 := hbw2.trans (hb5.mono hbw2.size)
            have hbw6 : Below w.heap.size w w6 := below_grown hbw5 hg6 hbw5.size
            have hfin : OwnM w6 w.heap.size v6 (L.take kq ++ ([m] ++ L.drop kq)) := by
              unfold OwnM
              rw [Mk.row_append, Mk.row_append, List.length_append, List.length_append, List.length_take, List.length_drop, Nat.min_eq_left hcapK]
              exact base_le hown6 hbw5.size
            rw [HPOS.out] at HGO
            have HLEN := Lib.hid (goS_len HGO.out)
            obtain ⟨A6, c6, rfl, _, _⟩ := hfin.form
            go_roundw
            case rel => exact ⟨k + 1, by omega, by go_num, hbw6, _, by rw [HS.out, HGO.out], by have := HLEN.out; omega, hfin⟩
            case measure => simp [intOf]; omega
    · obtain rfl : k = more.length := by omega
      rw [List.take_length] at hL
      go_wp2_with fail
      go_ret2
      rw [HR.out, hL]
      exact ⟨⟨_, rfl, ho⟩, hb⟩
end Go.Proofs.Ytgdbknbpnlpdnaa
