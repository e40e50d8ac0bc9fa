/- The laws' heavy. -/
import Derived.Test.YtpjmolnkmlpfeaaGreatDoorOpenJu
namespace Go.Proofs.YtpjmolnkmlpfeaaGreatDoor
set_option linter.unusedVariables false
set_option linter.unusedSimpArgs false
set_option maxRecDepth 100000
open Go.RowKit

def sumB : List NtV → Nat
  | [] => 0
  | x :: r => x.n.call.body.length + x.n.rep.body.length + sumB r
theorem sumB_snoc : ∀ (l : List NtV) (x : NtV), sumB (l ++ [x]) = sumB l + (x.n.call.body.length + x.n.rep.body.length)
  | [], x => by simp [sumB]
  | y :: l, x => by
    show _ + _ + sumB (l ++ [x]) = _ + _ + sumB l + _
    rw [sumB_snoc l x]
    omega
theorem sumB_le {l : List NtV} (h : ∀ x ∈ l, x.n.call.body.length ≤ 140737488351232 ∧ x.n.rep.body.length ≤ 140737488351232) : sumB l ≤ 281474976702464 * l.length := by
  induction l with
  | nil => simp [sumB]
  | cons x l ih =>
    have h1 := h x (by simp)
    have h2 := ih fun y hy => h y (by simp [hy])
    simp only [sumB, List.length_cons]
    omega
theorem sumB_mem : ∀ {l : List NtV} {x : NtV}, x ∈ l → x.n.call.body.length + x.n.rep.body.length ≤ sumB l
  | y :: l, x, h => by
    simp only [sumB]
    rcases List.mem_cons.1 h with rfl | h
    · omega
    · have := sumB_mem h
      omega
def heavyP (l : List NtV) (m : Nat) : Bool := decide (m < l.length ∨ 20000 < sumB l)
theorem nt_cell {w : World} {b o : Nat} {x : NtV} (h : w.rangeAt b o (ntL x)) {j : Nat} {u : Value} (hj : (ntL x)[j]? = some u) : w.cell? ⟨b, o + j, none⟩ = some u := h j u hj
set_option maxRecDepth 100000 in
set_option maxHeartbeats 4000000 in
theorem heavy_any {w : World} {A : Option Addr} {l : List NtV} {c m : Nat} (hr : Reads w 19 A l.length (l.flatMap ntL)) (hin : ∀ x ∈ l, NtIn w x) (hm : m ≤ 1000) (hl : l.length ≤ 1000000000000) :
    Calls Tryz.prog 18 #[.slice A l.length c, .int .i64 (m : Int)] w fun e w' => e = .returned (.bool (heavyP l m)) ∧ Below w.heap.size w w' := by
  have HR := Lib.hid hr
  have HIN := Lib.hid hin
  clear hr hin
  by_cases hb : m < l.length
  · have d1 : decide (m < l.length) = true := decide_eq_true hb
    have d2 : decide ((m : Int) < (l.length : Int)) = true := decide_eq_true (by omega)
    have hp : heavyP l m = true := decide_eq_true (.inl hb)
    rw [hp]
    clear hb hp
    go_enter Tryz.func18, Tryz.ntmps18
    go_wp2_with fail
    go_ret
    exact ⟨rfl, Below.refl _ _⟩
  · have d1 : decide (m < l.length) = false := decide_eq_false hb
    have d2 : decide ((m : Int) < (l.length : Int)) = false := decide_eq_false (by omega)
    have hlm : l.length ≤ 1000 := by omega
    have HB := Lib.hid hb
    have hsum : ∀ k, sumB (l.take k) ≤ 281474976702464 * 1000 := fun k => by
      have h1 := sumB_le (l := l.take k) fun x hx => ⟨(HIN.out x (List.mem_of_mem_take hx)).bc, (HIN.out x (List.mem_of_mem_take hx)).br⟩
      have h2 : (l.take k).length ≤ l.length := by rw [List.length_take]; omega
      omega
    have HSUM := Lib.hid hsum
    clear hb hsum
    go_enter Tryz.func18, Tryz.ntmps18
    go_wp2_with fail
    go_loopw [5, 6] (fun s i wr => ∃ k : Nat, k ≤ l.length ∧ i = .int .i64 k ∧ s = .int .i64 (sumB (l.take k) : Nat) ∧ Below w.heap.size w wr) (fun _ i _ => l.length - (intOf i).toNat)
    case atStart => exact ⟨0, by omega, rfl, rfl, Below.refl _ _⟩
    case round =>
      obtain ⟨k, hk, rfl, rfl, hb⟩ := hrel
      have HBW := Lib.hid hb
      by_cases hlt : k < l.length
      · obtain ⟨b, o, rfl, hbl, hrg⟩ := rows_range ntL_len (by decide) (HR.out.below (HBW.out.mono (Nat.le_refl _))) hlt
        have hx := HIN.out _ (List.getElem_mem hlt)
        obtain ⟨S, hS⟩ : ∃ S, S = sumB (l.take k) := ⟨_, rfl⟩
        have hS1 := HSUM.out k
        rw [← hS] at hS1 ⊢
        have HTK : Hid (sumB (l.take (k + 1)) = S + (l[k].n.call.body.length + l[k].n.rep.body.length)) := by
          show _ = _
          rw [List.take_succ_eq_append_getElem hlt, sumB_snoc, hS]
        clear hS
        generalize l[k] = x at hrg hx HTK
        obtain ⟨A1, c1, e1, _⟩ := hx.vc
        obtain ⟨A2, c2, e2, _⟩ := hx.vr
        have q9 := nt_cell hrg (j := 9) (u := x.vc) rfl
        have q18 := nt_cell hrg (j := 18) (u := x.vr) rfl
        rw [e1] at q9
        rw [e2] at q18
        have hb1 := hx.bc
        have hb2 := hx.br
        obtain ⟨p1, hp1⟩ : ∃ p, p = x.n.call.body.length := ⟨_, rfl⟩
        obtain ⟨p2, hp2⟩ : ∃ p, p = x.n.rep.body.length := ⟨_, rfl⟩
        rw [← hp1] at q9 HTK hb1
        rw [← hp2] at q18 HTK hb2
        clear hp1 hp2 e1 e2 hx hrg hb hbl
        have hw1 : IntKind.i64.wrap ((p1 : Int) + (p2 : Int)) = ((p1 + p2 : Nat) : Int) := by rw [IntKind.wrap_i64]; omega
        have hw2 : IntKind.i64.wrap ((S : Int) + ((p1 + p2 : Nat) : Int)) = ((S + (p1 + p2) : Nat) : Int) := by rw [IntKind.wrap_i64]; omega
        go_wp2_with fail
        refine PF.pf_begin (by kernel_rfl) ?_
        refine PF.pf_take0 0 (by kernel_rfl) rfl (fun _ _ _ _ _ h => h) (by kernel_rfl) (fun u => by go_simp; try rfl) ?_
        try simp only [Act.put, pz0, pz1, pz2]
        refine PF.pf_take0 1 (by kernel_rfl) rfl (fun _ _ _ _ _ h => h) (by kernel_rfl) (fun u => by go_simp; try rfl) ?_
        try simp only [Act.put, pz0, pz1, pz2]
        refine PF.pf_take0 2 (by kernel_rfl) rfl (fun _ _ _ _ _ h => h) (by kernel_rfl) (fun u => by go_simp; try rfl) ?_
        try simp only [Act.put, pz0, pz1, pz2]
        refine PF.pf_take0 3 (by kernel_rfl) rfl (fun _ _ _ _ _ h => h) (by kernel_rfl) (fun u => by go_simp; try rfl) ?_
        try simp only [Act.put, pz0, pz1, pz2]
        refine PF.pf_take0 4 (by kernel_rfl) rfl (fun _ _ _ _ _ h => h) (by kernel_rfl) (fun u => by go_simp; try rfl) ?_
        try simp only [Act.put, pz0, pz1, pz2]
        refine PF.pf_take0 5 (by kernel_rfl) rfl (fun _ _ _ _ _ h => h) (by kernel_rfl) (fun u => by go_simp; try rfl) ?_
        try simp only [Act.put, pz0, pz1, pz2]
        refine PF.pf_take1 6 (PF.Same (b) _) (by kernel_rfl) rfl (fun _ _ _ _ _ h => h) (by kernel_rfl) (PF.Same.refl _ _) (fun u hu => by have hcu := hu.cell; go_simp; try rfl) ?_
        try simp only [Act.put, pz0, pz1, pz2]
        refine PF.pf_take0 7 (by kernel_rfl) rfl (fun _ _ _ _ _ h => h) (by kernel_rfl) (fun u => by go_simp; try rfl) ?_
        try simp only [Act.put, pz0, pz1, pz2]
        refine PF.pf_take0 8 (by kernel_rfl) rfl (fun _ _ _ _ _ h => h) (by kernel_rfl) (fun u => by go_simp; try rfl) ?_
        try simp only [Act.put, pz0, pz1, pz2]
        refine PF.pf_take0 9 (by kernel_rfl) rfl (fun _ _ _ _ _ h => h) (by kernel_rfl) (fun u => by go_simp; try rfl) ?_
        try simp only [Act.put, pz0, pz1, pz2]
        refine PF.pf_take0 10 (by kernel_rfl) rfl (fun _ _ _ _ _ h => h) (by kernel_rfl) (fun u => by go_simp; try rfl) ?_
        try simp only [Act.put, pz0, pz1, pz2]
        refine PF.pf_take0 11 (by kernel_rfl) rfl (fun _ _ _ _ _ h => h) (by kernel_rfl) (fun u => by go_simp; try rfl) ?_
        try simp only [Act.put, pz0, pz1, pz2]
        refine PF.pf_take0 12 (by kernel_rfl) rfl (fun _ _ _ _ _ h => h) (by kernel_rfl) (fun u => by go_simp; try rfl) ?_
        try simp only [Act.put, pz0, pz1, pz2]
        refine PF.pf_take1 13 (PF.Same (b) _) (by kernel_rfl) rfl (fun _ _ _ _ _ h => h) (by kernel_rfl) (PF.Same.refl _ _) (fun u hu => by have hcu := hu.cell; go_simp; try rfl) ?_
        try simp only [Act.put, pz0, pz1, pz2]
        refine PF.pf_take0 14 (by kernel_rfl) rfl (fun _ _ _ _ _ h => h) (by kernel_rfl) (fun u => by go_simp; try rfl) ?_
        try simp only [Act.put, pz0, pz1, pz2]
        refine PF.pf_take0 15 (by kernel_rfl) rfl (fun _ _ _ _ _ h => h) (by kernel_rfl) (fun u => by go_simp; try rfl) ?_
        try simp only [Act.put, pz0, pz1, pz2]
        refine PF.pf_take0 16 (by kernel_rfl) rfl (fun _ _ _ _ _ h => h) (by kernel_rfl) (fun u => by go_simp; try rfl) ?_
        try simp only [Act.put, pz0, pz1, pz2]
        refine PF.pf_take0 17 (by kernel_rfl) rfl (fun _ _ _ _ _ h => h) (by kernel_rfl) (fun u => by go_simp; try rfl) ?_
        try simp only [Act.put, pz0, pz1, pz2]
        refine PF.pf_done (by kernel_rfl) ?_
        go_wp2_with fail
        go_roundw
        case rel => exact ⟨k + 1, hlt, by go_num, by rw [HTK.out]; exact congrArg (Value.int IntKind.i64) (by rw [show ((p1 : Int) + (p2 : Int)) = ((p1 + p2 : Nat) : Int) by omega]; first | exact hw2 | exact rfl | omega), by have := HBW.out; first | exact this | exact this.drew⟩
        case measure => simp [intOf]; omega
      · obtain rfl : k = l.length := by omega
        rw [List.take_length]
        have hS1 := HSUM.out l.length
        rw [List.take_length] at hS1
        obtain ⟨S, hS⟩ : ∃ S, S = sumB l := ⟨_, rfl⟩
        rw [← hS] at hS1 ⊢
        have HS := Lib.hid hS
        clear hS
        by_cases hg : 20000 < S
        · have g1 : decide (20000 < S) = true := decide_eq_true hg
          have g2 : decide ((20000 : Int) < (S : Int)) = true := decide_eq_true (by omega)
          have HP : Hid (heavyP l m = true) := decide_eq_true (.inr (by have := HS.out; omega))
          clear hg hb
          go_wp2_with fail
          go_ret
          exact ⟨by rw [HP.out]; rfl, HBW.out⟩
        · have g1 : decide (20000 < S) = false := decide_eq_false hg
          have g2 : decide ((20000 : Int) < (S : Int)) = false := decide_eq_false (by omega)
          have HP : Hid (heavyP l m = false) := decide_eq_false (by have := HB.out; have := HS.out; omega)
          clear hg hb
          go_wp2_with fail
          go_ret
          exact ⟨by rw [HP.out]; rfl, HBW.out⟩
/-- What is light is fit. -/
theorem light_ok {w : World} {l : List NtV} {m : Nat} (hin : ∀ x ∈ l, NtIn w x) (h : heavyP l m = false) : (∀ x ∈ l.map (·.n), NtOk x) ∧ l.length ≤ m := by
  have h1 := of_decide_eq_false h
  refine ⟨fun y hy => ?_, by omega⟩
  obtain ⟨x, hx, rfl⟩ := List.mem_map.1 hy
  have h2 := sumB_mem hx
  have h3 := hin x hx
  exact ⟨h3.call.id, h3.rep.id, h3.call.seq, h3.call.at_, h3.rep.at_, by omega, by omega⟩
end Go.Proofs.YtpjmolnkmlpfeaaGreatDoor
