/- The document's disk: Named, without, with. -/
import Derived.Test.YtggdkhgpkedbkaaRdA
namespace Go.Proofs.Ytggdkhgpkedbkaa
open Go.RowKit

def okI (c : Int) : Bool := (decide (97 ≤ c) && decide (c ≤ 122)) || (decide (48 ≤ c) && decide (c ≤ 57)) || c == 46
theorem ok_eq (c : UInt8) : okI (c.toNat : Int) = !badB c := by
  have h : ∀ n : Fin 256, okI (n.val : Int) = !badB (UInt8.ofNat n.val) := by decide +kernel
  have := h ⟨c.toNat, c.toNat_lt⟩
  simpa using this
set_option maxHeartbeats 2000000 in
theorem rnamed_any {w : World} (n : Nm) (hn : Nok n) : Calls Try.prog 65 #[.string ⟨n.toArray⟩] w fun e w' => e = .returned (.bool (isName n)) ∧ w = w' := by
  have hl : n.length ≤ 9223372036854775807 := hn
  go_enter Try.func65, Try.ntmps65
  go_wp2_with fail
  go_loopw [3] (fun i wr => ∃ k : Nat, k ≤ n.length ∧ i = .int .i64 k ∧ w = wr ∧ ∀ j (hj : j < n.length), j < k → badB n[j] = false) (fun i _ => n.length - (intOf i).toNat)
  case atStart => exact ⟨0, by omega, rfl, rfl, fun j _ h => by omega⟩
  case round =>
    obtain ⟨k, hk, rfl, rfl, hne⟩ := hrel
    have HNE := Lib.hid hne
    clear hne
    by_cases hlt : k < n.length
    · have hok := ok_eq n[k]
      have HIX : Hid (badB n[k] = true → isName n = false) := isName_bad hlt
      have HST : Hid (badB n[k] = false → ∀ j (hj : j < n.length), j < k + 1 → badB n[j] = false) := fun h j hj hjk => by
        rcases Nat.lt_or_ge j k with h1 | h1
        · exact HNE.out j hj h1
        · obtain rfl : j = k := by omega
          exact h
      have hget : n[k]? = some n[k] := List.getElem?_eq_getElem hlt
      generalize hc : n[k] = c at *
      have hq : (⟨n.toArray⟩ : ByteArray)[k]'(by simpa [ByteArray.size] using hlt) = c := by rw [← hc]; rfl
      obtain ⟨x, hx⟩ : ∃ x : Int, (c.toNat : Int) = x := ⟨_, rfl⟩
      rw [hx] at hok
      have HC := Lib.hid hc
      have HOK := Lib.hid hok
      clear hok hc
      by_cases h1 : 97 ≤ x
      · by_cases h2 : x ≤ 122
        · skip
          have e1 : decide (97 ≤ x) = true := decide_eq_true (by omega)
          have e2 : decide (x ≤ 122) = true := decide_eq_true (by omega)
          have hbad : badB c = false := by have := HOK.out; unfold okI at this; simp only [e1, e2, Bool.true_and, Bool.false_and, Bool.or_false, Bool.false_or, Bool.true_or, Bool.and_false, Bool.and_true, Bool.or_true] at this; cases hb : badB c <;> rw [hb] at this <;> first | rfl | exact absurd this (by decide)
          clear HOK
          go_wp2_with fail
          go_roundw
          case rel => exact ⟨k + 1, by omega, by go_num, by first | rfl | trivial, HST.out hbad⟩
          case measure => simp [intOf]; omega
        · skip
          have e1 : decide (97 ≤ x) = true := decide_eq_true (by omega)
          have e2 : decide (x ≤ 122) = false := decide_eq_false (by omega)
          have e3 : decide (48 ≤ x) = true := decide_eq_true (by omega)
          have e4 : decide (x ≤ 57) = false := decide_eq_false (by omega)
          have e5 : (x == 46) = false := by rw [beq_eq_false_iff_ne]; omega
          have hbad : badB c = true := by have := HOK.out; unfold okI at this; simp only [e1, e2, e3, e4, e5, Bool.true_and, Bool.false_and, Bool.or_false, Bool.false_or, Bool.true_or, Bool.and_false, Bool.and_true, Bool.or_true] at this; cases hb : badB c <;> rw [hb] at this <;> first | rfl | exact absurd this (by decide)
          have HN := Lib.hid (HIX.out hbad)
          clear HOK hbad
          go_wp2_with fail
          go_ret
          exact ⟨by rw [HN.out]; rfl, rfl⟩
      · by_cases h3 : 48 ≤ x
        · by_cases h4 : x ≤ 57
          · skip
            have e1 : decide (97 ≤ x) = false := decide_eq_false (by omega)
            have e3 : decide (48 ≤ x) = true := decide_eq_true (by omega)
            have e4 : decide (x ≤ 57) = true := decide_eq_true (by omega)
            have hbad : badB c = false := by have := HOK.out; unfold okI at this; simp only [e1, e3, e4, Bool.true_and, Bool.false_and, Bool.or_false, Bool.false_or, Bool.true_or, Bool.and_false, Bool.and_true, Bool.or_true] at this; cases hb : badB c <;> rw [hb] at this <;> first | rfl | exact absurd this (by decide)
            clear HOK
            go_wp2_with fail
            go_roundw
            case rel => exact ⟨k + 1, by omega, by go_num, by first | rfl | trivial, HST.out hbad⟩
            case measure => simp [intOf]; omega
          · skip
            have e1 : decide (97 ≤ x) = false := decide_eq_false (by omega)
            have e3 : decide (48 ≤ x) = true := decide_eq_true (by omega)
            have e4 : decide (x ≤ 57) = false := decide_eq_false (by omega)
            have e5 : (x == 46) = false := by rw [beq_eq_false_iff_ne]; omega
            have hbad : badB c = true := by have := HOK.out; unfold okI at this; simp only [e1, e3, e4, e5, Bool.true_and, Bool.false_and, Bool.or_false, Bool.false_or, Bool.true_or, Bool.and_false, Bool.and_true, Bool.or_true] at this; cases hb : badB c <;> rw [hb] at this <;> first | rfl | exact absurd this (by decide)
            have HN := Lib.hid (HIX.out hbad)
            clear HOK hbad
            go_wp2_with fail
            go_ret
            exact ⟨by rw [HN.out]; rfl, rfl⟩
        · by_cases h5 : x = 46
          · skip
            have e1 : decide (97 ≤ x) = false := decide_eq_false (by omega)
            have e3 : decide (48 ≤ x) = false := decide_eq_false (by omega)
            have e5 : (x == 46) = true := by rw [beq_iff_eq]; omega
            have hbad : badB c = false := by have := HOK.out; unfold okI at this; simp only [e1, e3, e5, Bool.true_and, Bool.false_and, Bool.or_false, Bool.false_or, Bool.true_or, Bool.and_false, Bool.and_true, Bool.or_true] at this; cases hb : badB c <;> rw [hb] at this <;> first | rfl | exact absurd this (by decide)
            clear HOK
            go_wp2_with fail
            go_roundw
            case rel => exact ⟨k + 1, by omega, by go_num, by first | rfl | trivial, HST.out hbad⟩
            case measure => simp [intOf]; omega
          · skip
            have e1 : decide (97 ≤ x) = false := decide_eq_false (by omega)
            have e3 : decide (48 ≤ x) = false := decide_eq_false (by omega)
            have e5 : (x == 46) = false := by rw [beq_eq_false_iff_ne]; omega
            have hbad : badB c = true := by have := HOK.out; unfold okI at this; simp only [e1, e3, e5, Bool.true_and, Bool.false_and, Bool.or_false, Bool.false_or, Bool.true_or, Bool.and_false, Bool.and_true, Bool.or_true] at this; cases hb : badB c <;> rw [hb] at this <;> first | rfl | exact absurd this (by decide)
            have HN := Lib.hid (HIX.out hbad)
            clear HOK hbad
            go_wp2_with fail
            go_ret
            exact ⟨by rw [HN.out]; rfl, rfl⟩
    · obtain rfl : k = n.length := by omega
      have HB : Hid (n.any badB = false) := by
        show _ = _
        rw [List.any_eq_false]
        intro c hc
        obtain ⟨j, hj, rfl⟩ := List.getElem_of_mem hc
        simpa using HNE.out j hj hj
      have HN : Hid (isName n = (decide (1 ≤ n.length) && decide (n.length ≤ 16))) := by
        show _ = _
        unfold isName
        rw [HB.out]
        simp
      by_cases h1 : 1 ≤ n.length
      · have e1 : decide ((1 : Int) ≤ n.length) = true := decide_eq_true (by omega)
        go_wp2_with fail
        go_ret
        refine ⟨ret_bool ?_, rfl⟩
        rw [HN.out, decide_eq_true h1, Bool.true_and, Bool.eq_iff_iff, decide_eq_true_iff, decide_eq_true_iff]
        omega
      · have e1 : decide ((1 : Int) ≤ n.length) = false := decide_eq_false (by omega)
        go_wp2_with fail
        go_ret
        refine ⟨ret_bool ?_, rfl⟩
        rw [HN.out, decide_eq_false h1, Bool.false_and]
theorem Reads.block2 (w : World) (t : TypeId) (a b : Value) : Reads (w.alloc (.cells #[a, b] t)) 2 (some ⟨w.heap.size, 0, none⟩) 1 [a, b] := by
  refine ⟨rfl, fun _ => ⟨_, rfl, by simp, fun j u hu => ?_⟩⟩
  rw [add_flat]
  have := (Blk.new w t #[a, b]).cell (0 + j)
  rw [this]
  simpa using hu
theorem fcells_one (p : Nm × Sb) : ∀ u ∈ fcells p, u.oneCell' = true := by
  intro u hu
  simp only [fcells, sv, List.mem_cons, List.not_mem_nil, or_false] at hu
  rcases hu with rfl | rfl <;> rfl
theorem frow_snoc (E : List (Nm × Sb)) (p : Nm × Sb) : frow (E ++ [p]) = frow E ++ fcells p := by simp [frow]
/-- A row that has been made lies in new blocks. -/
theorem own_from {w : World} {base : Nat} {e : TypeId} {size n c m : Nat} {A : Option Addr} {xs : List Value} (h : w.ownsRow base e size (.slice A n c) m xs) : ∀ ad, A = some ad → From base w ad.block := by
  intro ad e
  subst e
  rcases h.2 with ⟨e, _⟩ | ⟨g, c', cur, e, hg, hb, _⟩
  · cases e
  · injection e with e
    injection e with e
    subst e
    exact ⟨hg, (Array.getElem?_eq_some_iff.1 hb).1⟩
/-- A new row of files, their bytes in blocks of R or new. -/
def RowPost (w : World) (R : Nat → Prop) (E : List (Nm × Sb)) (e : Ending) (w' : World) : Prop :=
  (∃ A c, e = .returned (.slice A E.length c) ∧ FRow w' (fun b => R b ∨ From w.heap.size w' b) A E) ∧ Below w.heap.size w w'
theorem RowPost.mk {w w' : World} {R : Nat → Prop} {E O : List (Nm × Sb)} {v : Value} {n : Nat} (hO : O = E) (hown : w'.ownsRow w.heap.size 89 2 v n (frow O)) (hn : n = O.length) (hb : Below w.heap.size w w')
    (hr : ∀ p ∈ O, BytesIn w R p.2.1 p.2.2) : RowPost w R E (.returned v) w' := by
  subst hO hn
  obtain ⟨A, c, rfl, _, _⟩ := own_slice hown
  exact ⟨⟨A, c, rfl, Reads.of_own hown, fun p hp => ((hr p hp).below_ hb).mono fun b => .inl, fun ad e => .inr (own_from hown ad e)⟩, hb⟩
theorem fdel_step {β : Type} {n : Nm} {E O : List (Nm × β)} {k : Nat} (hk : k < E.length) (h : fdel n E = O ++ fdel n (E.drop k)) :
    (E[k].1 = n → fdel n E = O ++ fdel n (E.drop (k + 1))) ∧ (E[k].1 ≠ n → fdel n E = (O ++ [E[k]]) ++ fdel n (E.drop (k + 1))) := by
  rw [List.drop_eq_getElem_cons hk] at h
  constructor
  · intro e
    rw [h]
    unfold fdel
    rw [List.filter_cons_of_neg (by simpa using e)]
  · intro e
    rw [h]
    unfold fdel
    rw [List.filter_cons_of_pos (by simpa using e)]
    simp
set_option maxHeartbeats 2000000 in
theorem without_any {w : World} {R : Nat → Prop} {A : Option Addr} {E : List (Nm × Sb)} (c : Nat) (h : FRow w R A E) (hn : E.length ≤ 1000100) (n : Nm) :
    Calls Try.prog 76 #[.slice A E.length c, .string ⟨n.toArray⟩] w (RowPost w R (fdel n E)) := by
  go_enter Try.func76, Try.ntmps76
  go_wp2_with fail
  go_loopw [5, 6] (fun v i wr => ∃ (k : Nat) (O : List (Nm × Sb)), k ≤ E.length ∧ O.length ≤ k ∧ i = .int .i64 k ∧ Below w.heap.size w wr ∧ wr.ownsRow w.heap.size 89 2 v O.length (frow O) ∧ fdel n E = O ++ fdel n (E.drop k) ∧ ∀ p ∈ O, p ∈ E) (fun _ i _ => E.length - (intOf i).toNat)
  case atStart => exact ⟨0, [], by omega, Nat.le_refl _, rfl, Below.refl _ _, World.ownsRow_nil _ _ _ _, rfl, fun p h => by cases h⟩
  case round =>
    obtain ⟨k, O, hk, hO, rfl, hb, hown, hd, hm⟩ := hrel
    by_cases hlt : k < E.length
    · obtain ⟨b, o, rfl, hbl, c0, c1⟩ := (h.below hb).at_ hlt
      obtain ⟨A2, c2, rfl, _, _⟩ := own_slice hown
      have HS := Lib.hid (fdel_step hlt hd)
      have HM := Lib.hid (List.getElem_mem hlt)
      obtain ⟨p, hp⟩ : ∃ p, p = E[k] := ⟨_, rfl⟩
      rw [← hp] at c0 c1 HS HM
      clear hp hd
      by_cases he : p.1 = n
      · have hd := Lib.hid (HS.out.1 he)
        subst he
        go_wp2_with fail
        go_roundw
        case rel => exact ⟨k + 1, O, by omega, by omega, by go_num, hb, hown, hd.out, hm⟩
        case measure => simp [intOf]; omega
      · have hd := Lib.hid (HS.out.2 he)
        have hbe : (p.1 == n) = false := by simpa using he
        have hown' := hown.alloc (.cells #[.string ⟨p.1.toArray⟩, sv p.2.1] 89)
        have hr := Reads.block2 wr 89 (.string ⟨p.1.toArray⟩) (sv p.2.1)
        have hone := fcells_one p
        unfold fcells at hone
        unfold sv at *
        clear he
        go_wp2_with (at_builtin; refine app_list file_ty rfl (s := .tmp 20) (x := .tmp 25) rfl hown' rfl hr rfl hone (by omega) (by have := hb.size; simp; omega) ?_; intro v3 w3 hown3 hg3 _)
        go_roundw
        case rel =>
          refine ⟨k + 1, O ++ [p], by omega, by simp; omega, by go_num, (hb.alloc hb.size _).grown hg3 (by have := hb.size; simp; omega) (own_ge hown), ?_, hd.out, fun q hq => ?_⟩
          · rw [frow_snoc, List.length_append]
            exact hown3
          · rcases List.mem_append.1 hq with hq | hq
            · exact hm q hq
            · rw [List.mem_singleton.1 hq]; exact HM.out
        case measure => simp [intOf]; omega
    · obtain rfl : k = E.length := by omega
      rw [List.drop_length, show fdel n ([] : List (Nm × Sb)) = [] from rfl, List.append_nil] at hd
      have HD := Lib.hid hd
      clear hd
      go_wp2_with fail
      go_ret
      exact RowPost.mk HD.out.symm hown rfl hb fun p hp => h.rows p (hm p hp)
end Go.Proofs.Ytggdkhgpkedbkaa
