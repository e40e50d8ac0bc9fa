/- Joined texts: JuU, JuV. -/
import Derived.Test.YtpjmolnkmlpfeaaGreatDoorJuD
import Derived.Test.YtpjmolnkmlpfeaaGreatDoorJW
import Derived.Sort.OwnSortedInts
/- Rows of numbers: Contains, DeleteFunc, Sort. -/
set_option linter.unusedVariables false
set_option linter.unusedSimpArgs false
namespace Go.Proofs.YtpjmolnkmlpfeaaGreatDoor
set_option maxRecDepth 100000
open Go.RowKit

set_option maxHeartbeats 1000000 in
theorem contains_any {K : Nat → Prop} {w : World} {v : Value} {xs : List Int} (h : SlI K w v xs) (x : Int) (hn : xs.length ≤ 1000000) :
  Calls Tryz.prog 63 #[v, .int .i64 x] w fun e w' => e = .returned (.bool (decide (x ∈ xs))) ∧ w' = w := by
 have hi : decide ((0 : Int) ≤ idxI xs x) = decide (x ∈ xs) := by
  unfold idxI
  cases hf : xs.findIdx? (fun b => decide (b = x)) with
  | none =>
   have h1 := List.findIdx?_eq_none_iff.1 hf
   have : ¬ x ∈ xs := fun hx => by have := h1 x hx; simp at this
   rw [decide_eq_false this]
   rfl
  | some k =>
   obtain ⟨hk, h2, _⟩ := List.findIdx?_eq_some_iff_getElem.1 hf
   have : x ∈ xs := by
    have h3 := of_decide_eq_true h2
    rw [← h3]
    exact List.getElem_mem hk
   rw [decide_eq_true this]
   exact decide_eq_true (Int.natCast_nonneg k)
 have HI := Lib.hid (index_any h x hn)
 have ho := h.one
 obtain ⟨A, c, rfl, _⟩ := h
 generalize decide (x ∈ xs) = bx at hi
 clear hn ho
 go_enter Tryz.func63, Tryz.ntmps63
 go_wp2_with fail
 refine HI.out.mono ?_
 rintro e w1 ⟨rfl, rfl⟩
 go_wp2_with fail
 go_ret
 exact ⟨rfl, rfl⟩
/-- 'func(k int) bool { return k == x }', x captured. -/
def EqCl (gf px : Nat) (x : Int) : Prop := ∀ (W : World) (y : Int), W.cell? ⟨px, 0, none⟩ = some (.int .i64 x) → Calls Tryz.prog gf #[.int .i64 y, .pointer (some ⟨px, 0, none⟩)] W fun e w' => e = .returned (.bool (decide (y = x))) ∧ w' = W
set_option maxHeartbeats 400000 in
theorem eqcl_ends (px : Nat) (x : Int) : EqCl 65 px x := fun W y h => by
 by_cases hxy : y = x
 ·have e0 : (y == x) = true := beq_iff_eq.2 hxy
  have e1 : decide (y = x) = true := decide_eq_true hxy
  rw [e1]
  clear hxy
  go_enter Tryz.func65, Tryz.ntmps65
  go_wp2_with fail
  go_ret
  exact ⟨rfl, rfl⟩
 ·have e0 : (y == x) = false := beq_eq_false_iff_ne.2 hxy
  have e1 : decide (y = x) = false := decide_eq_false hxy
  rw [e1]
  clear hxy
  go_enter Tryz.func65, Tryz.ntmps65
  go_wp2_with fail
  go_ret
  exact ⟨rfl, rfl⟩
set_option maxHeartbeats 400000 in
theorem eqcl_chan (px : Nat) (x : Int) : EqCl 55 px x := fun W y h => by
 by_cases hxy : y = x
 ·have e0 : (y == x) = true := beq_iff_eq.2 hxy
  have e1 : decide (y = x) = true := decide_eq_true hxy
  rw [e1]
  clear hxy
  go_enter Tryz.func55, Tryz.ntmps55
  go_wp2_with fail
  go_ret
  exact ⟨rfl, rfl⟩
 ·have e0 : (y == x) = false := beq_eq_false_iff_ne.2 hxy
  have e1 : decide (y = x) = false := decide_eq_false hxy
  rw [e1]
  clear hxy
  go_enter Tryz.func55, Tryz.ntmps55
  go_wp2_with fail
  go_ret
  exact ⟨rfl, rfl⟩
set_option maxHeartbeats 2000000 in
theorem indexfn_any {gf px : Nat} {x : Int} (hcl : EqCl gf px x) (eg : ∀ args w, (callFunc gf args).run Tryz.prog w = .ok (.enter gf args) w) {K : Nat → Prop} {w : World} {v : Value} {xs : List Int} (h : SlI K w v xs) (hp : w.cell? ⟨px, 0, none⟩ = some (.int .i64 x)) (hn : xs.length ≤ 1000000) :
  Calls Tryz.prog 70 #[v, .func (.func gf) #[] #[.pointer (some ⟨px, 0, none⟩)]] w fun e w' => e = .returned (.int .i64 (idxI xs x)) ∧ w' = w := by
 obtain ⟨A, c, rfl, hr, _⟩ := h
 have HR := Lib.hid hr
 clear hr
 go_enter Tryz.func70, Tryz.ntmps70
 go_wp2_with fail
 go_loopw [8] (fun i wr => ∃ k : Nat, k ≤ xs.length ∧ i = .int .i64 k ∧ wr = w ∧ ∀ j, j < k → ∀ y, xs[j]? = some y → y ≠ x) (fun i _ => xs.length - (intOf i).toNat)
 case atStart => exact ⟨0, by omega, rfl, rfl, by intro j hj; omega⟩
 case round =>
  obtain ⟨k, hk, rfl, hw, hnot⟩ := hrel
  subst hw
  have HNOT := Lib.hid hnot
  clear hnot
  by_cases hlt : k < xs.length
  ·obtain ⟨b, o, rfl, _, hc⟩ := Reads.flat HR.out (by omega) (by decide)
   have c0 := hc k (iv xs[k]) (by rw [List.getElem?_map, List.getElem?_eq_getElem hlt]; rfl)
   have HK : Hid (xs[k]? = some xs[k]) := List.getElem?_eq_getElem hlt
   have HKK : ∃ y, xs[k] = y := ⟨_, rfl⟩
   obtain ⟨y, HKK⟩ := HKK
   rw [HKK] at c0 HK
   have HKK := Lib.hid HKK
   unfold iv at c0
   have hcall := hcl wr y hp
   clear hc
   by_cases hy : y = x
   ·have HID : Hid (idxI xs x = (k : Int)) := by
     show _ = _
     unfold idxI
     rw [idx_some hlt (by rw [HKK.out, hy]) HNOT.out]
    rw [decide_eq_true hy] at hcall
    clear hy
    go_wp2_with (go_at_fn gf; refine hcall.mono ?_; clear hcall; rintro e w1 ⟨rfl, rfl⟩)
    go_ret
    exact ⟨by rw [HID.out]; rfl, rfl⟩
   ·rw [decide_eq_false hy] at hcall
    have HY := Lib.hid hy
    clear hy
    go_wp2_with (go_at_fn gf; refine hcall.mono ?_; clear hcall; rintro e w1 ⟨rfl, rfl⟩)
    go_roundw
    case rel =>
     refine ⟨k + 1, by omega, by go_num, by first | rfl | trivial, fun j hj z hz => ?_⟩
     rcases Nat.lt_or_ge j k with h | h
     ·exact HNOT.out j h z hz
     ·obtain rfl : j = k := by omega
      rw [HK.out] at hz
      injection hz with hz
      rw [← hz]
      exact HY.out
    case measure => simp [intOf]; omega
  ·obtain rfl : k = xs.length := by omega
   have HID : Hid (idxI xs x = -1) := by
    show _ = _
    unfold idxI
    rw [idx_none HNOT.out]
   go_wp2_with fail
   go_ret
   exact ⟨by rw [HID.out]; rfl, rfl⟩
theorem idx_cases (x : Int) (l : List Int) : (idxI l x = -1 ∧ l.filter (fun y => !decide (y = x)) = l) ∨ ∃ k, k < l.length ∧ idxI l x = (k : Int) ∧ (l.take (k + 1)).filter (fun y => !decide (y = x)) = l.take k := by
 unfold idxI
 cases hf : l.findIdx? (fun b => decide (b = x)) with
 | none =>
  refine .inl ⟨rfl, List.filter_eq_self.2 fun y hy => ?_⟩
  have := List.findIdx?_eq_none_iff.1 hf y hy
  rw [this]; rfl
 | some i =>
  obtain ⟨hi, h1, h2⟩ := List.findIdx?_eq_some_iff_getElem.1 hf
  refine .inr ⟨i, hi, rfl, ?_⟩
  rw [List.take_succ_eq_append_getElem hi, List.filter_append]
  have e1 : [l[i]].filter (fun y => !decide (y = x)) = [] := by simp [of_decide_eq_true h1]
  rw [e1, List.append_nil, List.filter_eq_self]
  intro y hy
  obtain ⟨j, hj, rfl⟩ := List.mem_take_iff_getElem.1 hy
  have := h2 j (by omega)
  simpa using this
theorem takeset_snoc {α : Type} (l : List α) (i : Nat) (x : α) (hi : i < l.length) : (l.set i x).take (i + 1) = l.take i ++ [x] := by
 rw [List.take_succ_eq_append_getElem (by simpa using hi)]
 simp [List.take_set_of_le]
theorem dropset_lt {α : Type} (l : List α) (i j : Nat) (x : α) (h : i < j) : (l.set i x).drop j = l.drop j := by
 rw [List.drop_set]
 simp [show i < j by omega]
def OwI (B : Nat) (w : World) (v : Value) (xs : List Int) : Prop := w.ownsRow B 3 1 v xs.length (xs.map iv)
theorem OwI.sli {B : Nat} {w : World} {v : Value} {xs : List Int} (h : OwI B w v xs) : SlI (fun b => B ≤ b) w v xs := by
 obtain ⟨A, c, rfl, h1, h2⟩ := own_slice h
 exact ⟨A, c, rfl, Reads.of_own h, h1, by simpa [maxLen] using h2, fun _ ad ea => own_ge h _ (by rw [ea]; rfl)⟩
theorem zero_intJ (w : World) : (zeroValue 3).run Tryz.prog w = .ok (.int .i64 0) w := by kernel_rfl
set_option maxHeartbeats 2000000 in
theorem delete_any {gf px : Nat} {x : Int} (hcl : EqCl gf px x) (eg : ∀ args w, (callFunc gf args).run Tryz.prog w = .ok (.enter gf args) w) {B : Nat} {w : World} {v : Value} {xs : List Int} (ho : OwI B w v xs) (hp : w.cell? ⟨px, 0, none⟩ = some (.int .i64 x)) (hpv : v.ownBlock ≠ some px) (hn : xs.length ≤ 1000000) :
  Calls Tryz.prog 54 #[v, .func (.func gf) #[] #[.pointer (some ⟨px, 0, none⟩)]] w fun e w' => (∃ v', e = .returned v' ∧ OwI B w' v' (xs.filter fun y => !decide (y = x)) ∧ v'.ownBlock = v.ownBlock) ∧ w.grownBy w' v.ownBlock := by
 have hidx := indexfn_any hcl eg ho.sli hp hn
 obtain ⟨A, c, rfl, _, _⟩ := own_slice ho
 rcases idx_cases x xs with ⟨hf, hfil⟩ | ⟨k0, hk0, hf, hfil⟩
 ·rw [hf] at hidx
  rw [hfil]
  have HO := Lib.hid ho
  clear hf hfil ho hn hcl
  go_enter Tryz.func54, Tryz.ntmps54
  go_wp2_with (go_at_call 70; refine hidx.mono ?_; clear hidx; rintro e w1 ⟨rfl, rfl⟩)
  go_ret
  exact ⟨⟨_, rfl, HO.out, rfl⟩, World.grownBy.refl _ _⟩
 ·obtain ⟨g, hA⟩ : ∃ g, A = some ⟨g, 0, none⟩ := by
   rcases ho.2 with ⟨e, e2⟩ | ⟨g', c', cur, e, _⟩
   ·omega
   ·injection e with e
    exact ⟨g', e⟩
  subst hA
  rw [hf] at hidx
  have HFIL := Lib.hid hfil
  have hd : ((k0 : Int) == -1) = false := beq_eq_false_iff_ne.2 (by omega)
  have HO := Lib.hid ho
  have HCL := Lib.hid hcl
  have hgp : g ≠ px := fun e => hpv (by rw [e]; rfl)
  have HGP := Lib.hid hgp
  have HP := Lib.hid hp
  have HC : Hid (xs.length ≤ c) := by obtain ⟨_, _, e, h1, _⟩ := own_slice ho; cases e; exact h1
  clear hf hfil hp ho hcl hgp hpv
  go_enter Tryz.func54, Tryz.ntmps54
  go_wp2_with (go_at_call 70; refine hidx.mono ?_; clear hidx; rintro e w1 ⟨rfl, hw1⟩; rw [hw1]; clear hw1)
  go_loopw [5, 6] (fun s5 s6 wr => ∃ i j : Nat, s5 = .int .i64 i ∧ s6 = .int .i64 j ∧ i < j ∧ j ≤ xs.length ∧ w.grownBy wr (some g) ∧ ∃ ms : List Int, ms.length = xs.length ∧ OwI B wr (.slice (some ⟨g, 0, none⟩) ms.length c) ms ∧ ms.take i = (xs.take j).filter (fun y => !decide (y = x)) ∧ ms.drop j = xs.drop j) (fun _ s6 _ => xs.length - (intOf s6).toNat)
  case atStart => exact ⟨k0, k0 + 1, rfl, by go_num, by omega, by omega, World.grownBy.refl _ _, xs, rfl, HO.out, HFIL.out.symm, rfl⟩
  case round =>
   obtain ⟨i, j, rfl, rfl, hij, hj, hgr, ms, hl, ho, ht, hdr⟩ := hrel
   clear hd
   have HG := Lib.hid hgr
   have HT := Lib.hid ht
   have HDR := Lib.hid hdr
   have HL := Lib.hid hl
   have HO2 := Lib.hid ho
   have hpx : wr.cell? ⟨px, 0, none⟩ = some (.int .i64 x) := hgr.cell HP.out (fun e => HGP.out (Option.some.inj e).symm)
   clear hgr ht hdr
   by_cases hlt : j < xs.length
   ·have hj' : j < ms.length := by omega
    have hi' : i < ms.length := by omega
    have c0 : wr.cell? ⟨g, j, none⟩ = some (.int .i64 ms[j]) := by
     rw [World.ownsRow.cellAt ho j (by omega), List.getElem?_map, List.getElem?_eq_getElem hj']
     rfl
    have d0 : wr.cell? ⟨g, i, none⟩ = some (.int .i64 ms[i]) := by
     rw [World.ownsRow.cellAt ho i (by omega), List.getElem?_map, List.getElem?_eq_getElem hi']
     rfl
    have f0 : wr.frozen? ⟨g, i, none⟩ = false := World.ownsRow.frozenAt ho i
    have HX : Hid (ms[j] = xs[j]) := by
     have := HDR.out
     rw [List.drop_eq_getElem_cons hj', List.drop_eq_getElem_cons hlt] at this
     exact (List.cons.inj this).1
    have HTK := Lib.hid (List.take_succ_eq_append_getElem hlt)
    have HDS : Hid (ms.drop (j + 1) = xs.drop (j + 1)) := by
     have := HDR.out
     rw [List.drop_eq_getElem_cons hj', List.drop_eq_getElem_cons hlt] at this
     exact (List.cons.inj this).2
    rw [← HX.out] at HTK
    clear HX
    generalize hy : ms[j] = y at c0 HTK
    generalize ms[i] = z at d0
    have hcall := HCL.out wr y hpx
    clear hy hl
    by_cases hxy : y = x
    ·have HF : Hid ((xs.take (j + 1)).filter (fun y => !decide (y = x)) = (xs.take j).filter (fun y => !decide (y = x))) := by
      show _ = _
      rw [HTK.out, List.filter_append]
      simp [hxy]
     rw [decide_eq_true hxy] at hcall
     clear hxy ho
     go_wp2_with (go_at_fn gf; refine hcall.mono ?_; clear hcall; rintro e w1 ⟨rfl, hw1⟩; rw [hw1]; clear hw1)
     go_roundw
     case rel => exact ⟨i, j + 1, rfl, by go_num, by omega, by omega, HG.out, ms, HL.out, HO2.out, by rw [HF.out]; exact HT.out, HDS.out⟩
     case measure => simp [intOf]; omega
    ·have HF : Hid ((xs.take (j + 1)).filter (fun y => !decide (y = x)) = (xs.take j).filter (fun y => !decide (y = x)) ++ [y]) := by
      show _ = _
      rw [HTK.out, List.filter_append]
      simp [hxy]
     rw [decide_eq_false hxy] at hcall
     have hst := World.ownsRow.stored (show wr.ownsRow B 3 1 (.slice (some ⟨g, 0, none⟩) ms.length c) ms.length (ms.map iv) from ho) i (.int .i64 y)
     have HSET := Lib.hid hst
     have hi2 : (i : Int) < (xs.length : Int) := by omega
     clear hxy ho hst
     go_wp2_with (go_at_fn gf; refine hcall.mono ?_; clear hcall; rintro e w1 ⟨rfl, hw1⟩; rw [hw1]; clear hw1)
     go_roundw
     case rel =>
      refine ⟨i + 1, j + 1, by go_num, by go_num, by omega, by omega, only_trans HG.out HSET.out.2, ms.set i y, by rw [List.length_set]; exact HL.out, ?_, by rw [takeset_snoc _ _ _ hi', HT.out, HF.out], by rw [dropset_lt _ _ _ _ (by omega)]; exact HDS.out⟩
      unfold OwI
      rw [List.length_set, List.map_set]
      exact HSET.out.1
     case measure => simp [intOf]; omega
   ·obtain rfl : j = xs.length := by omega
    have hc := HC.out
    have hca : ¬ c = i := by omega
    have ho3 : wr.ownsRow B 3 1 (.slice (some ⟨g, 0, none⟩) xs.length c) xs.length (ms.map iv) := by unfold OwI at ho; rw [hl] at ho; exact ho
    obtain ⟨w3, hcl3, ho4, hg4⟩ := own_clear (P := Tryz.prog) (size := 1) (i := i) Tryz.underlying97 zero_intJ rfl (by decide) (by intro u hu; simp [Value.cells] at hu; subst hu; rfl) ho3 (by omega) (c - i) 0
    simp only [Nat.mul_one] at hcl3
    have HR : Hid (OwI B w3 (.slice (some ⟨g, 0, none⟩) i c) (xs.filter fun y => !decide (y = x))) := by
     have h1 := HT.out
     rw [List.take_length] at h1
     have h2 : (xs.filter fun y => !decide (y = x)).length = i := by rw [← h1, List.length_take]; omega
     show OwI _ _ _ _
     unfold OwI
     rw [h2, ← h1, List.map_take]
     rw [Nat.mul_one] at ho4
     exact ho4
    clear hl ho ho3 ho4 hpx
    go_wp2_with fail
    go_ret
    exact ⟨⟨_, rfl, HR.out, rfl⟩, only_trans HG.out hg4⟩
theorem ins_sorted {k : Nat} {l : List Nat} (h : l.Pairwise (· ≤ ·)) : (nats l ++ [(k : Int)]).mergeSort (fun x y => decide (x ≤ y)) = nats (insS k l) := by
 have hp : ((nats l ++ [(k : Int)]).mergeSort (fun x y => decide (x ≤ y))).Perm (nats (insS k l)) := by
  refine (List.mergeSort_perm _ _).trans ?_
  have h1 : (nats (insS k l)).Perm (nats (k :: l)) := (insS_perm k l).map _
  refine List.Perm.trans ?_ h1.symm
  exact (List.perm_append_comm : (nats l ++ [(k : Int)]).Perm ([(k : Int)] ++ nats l))
 refine List.Perm.eq_of_pairwise (le := fun a b : Int => a ≤ b) (fun a b _ _ h1 h2 => by omega) ?_ ?_ hp
 ·have := List.pairwise_mergeSort (le := fun x y : Int => decide (x ≤ y)) (fun a b c h1 h2 => by simp at h1 h2 ⊢; omega) (fun a b => by simp; omega) (nats l ++ [(k : Int)])
  exact this.imp fun h => of_decide_eq_true h
 ·unfold nats
  rw [List.pairwise_map]
  exact (insS_sorted h).imp fun h => by omega
end Go.Proofs.YtpjmolnkmlpfeaaGreatDoor

/- Numbers cloned into a row of one's own; sorted there; the maker of what comes next. -/
namespace Go.Proofs.YtpjmolnkmlpfeaaGreatDoor
set_option maxRecDepth 100000
open Go.RowKit

set_option maxHeartbeats 400000 in
theorem iown_any {K : Nat → Prop} {w : World} {v : Value} {l : List Int} (h : SlI K w v l) (hn : l.length ≤ 1000000) :
  Calls Tryz.prog 64 #[v] w fun e w' => (∃ v', e = .returned v' ∧ OwI w.heap.size w' v' l) ∧ Below w.heap.size w w' := by
 obtain ⟨A, c, rfl, hA, _⟩ := h
 have hen := fun (w : World) (a : Option Addr) (n c n' c' : Nat) => Lib.run_eql_slice_nil (P := Tryz.prog) w 97 3 a n c n' c' Tryz.underlying97
 rcases A with _ | ad
 ·obtain rfl : l = [] := by
   rcases Nat.eq_zero_or_pos l.length with h0 | h0
   ·exact List.eq_nil_of_length_eq_zero h0
   ·obtain ⟨_, h, _⟩ := hA.2 h0; cases h
  go_enter Tryz.func64, Tryz.ntmps64
  go_wp2_with fail
  go_ret
  exact ⟨⟨_, rfl, World.ownsRow_nil _ _ _ _⟩, Below.refl _ _⟩
 ·have hown0 : (w.alloc (.cells #[] 3)).ownsRow w.heap.size 3 1 (.slice (some ⟨w.heap.size, 0, none⟩) 0 0) 0 [] := World.ownsRow_made _ _ _ (Nat.le_refl _) (by simp [maxLen]) rfl
  have hA' := Reads.alloc hA (.cells #[] 3)
  have h1 := iv_one l
  generalize hrow : l.map iv = r at hA' h1
  have HR := Lib.hid hrow
  clear hrow hA
  go_enter Tryz.func64, Tryz.ntmps64
  go_wp2_with (first
   | (at_builtin; refine app_list int_ty rfl (s := .tmp 5) (x := .tmp 6) rfl hown0 rfl hA' rfl h1 (by omega) (by simp) ?_; intro v3 w3 hown3 hg3 _))
  go_ret
  rw [Nat.zero_add, List.nil_append, ← HR.out] at hown3
  exact ⟨⟨_, rfl, hown3⟩, (below_new _ _).grown hg3 (by simp) (own_ge hown0)⟩
set_option maxHeartbeats 1000000 in
theorem isort_any {B : Nat} {w : World} {v : Value} {zs : List Int} (ho : OwI B w v zs) (hn : zs.length ≤ 1000000) :
  Calls Tryz.prog 67 #[v] w fun e w' => e = .returned (.tuple #[]) ∧ OwI B w' v (zs.mergeSort fun x y => decide (x ≤ y)) ∧ w.grownBy w' v.ownBlock := by
 have hlen : (zs.mergeSort fun x y => decide (x ≤ y)).length = zs.length := by simp
 rcases ho.2 with ⟨hv, hz⟩ | ⟨gb, cap, cur, hv, hbase, hgb, r1, r2, r3, r4⟩
 ·subst hv
  have hzs : zs = [] := List.eq_nil_of_length_eq_zero hz
  subst hzs
  refine (AnyM.slices_Sort_int_none Tryz.sortI none 0 w).mono ?_
  rintro e w2 ⟨rfl, rfl⟩
  exact ⟨rfl, by simpa using ho, World.grownBy.refl _ _⟩
 ·subst hv
  have hH : Sort.Holds (Value.int .i64) w gb 0 zs.toArray := holds_of_blockI hgb (by have h4 := r4; rw [Nat.mul_one] at h4; exact h4)
  have hgl : gb < w.heap.size := (Array.getElem?_eq_some_iff.1 hgb).1
  refine (AnyM.slices_Sort_int Tryz.sortI gb 0 cap zs w hH hgl (by omega)).mono ?_
  rintro e w2 ⟨rfl, nn, os, rfl⟩
  refine ⟨rfl, ?_, grownBy_sortedI _⟩
  unfold OwI
  rw [hlen]
  exact ownsRow_sortedI (by simp) hbase hgb r1 r2 r3
end Go.Proofs.YtpjmolnkmlpfeaaGreatDoor
