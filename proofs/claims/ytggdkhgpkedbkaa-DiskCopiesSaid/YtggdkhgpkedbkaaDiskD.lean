/- A name: what the library's search finds. -/
import Derived.Test.YtggdkhgpkedbkaaDiskC
import Derived.Shelf.Abstract
namespace Go.Proofs.Ytggdkhgpkedbkaa
open Go.RowKit

theorem any_take_false {α : Type} {p : α → Bool} {l : List α} {k : Nat} (hk : k < l.length) (h : (l.take k).any p = false) (hx : p l[k] = false) : (l.take (k + 1)).any p = false := by
  rw [List.take_succ_eq_append_getElem hk, List.any_append, h]
  simp [hx]
theorem any_take_true {α : Type} {p : α → Bool} {l : List α} {k : Nat} (hk : k < l.length) (hx : p l[k] = true) : l.any p = true := List.any_eq_true.2 ⟨_, List.getElem_mem hk, hx⟩
set_option maxHeartbeats 400000 in
theorem indexB (A : Option Addr) (c : Nat) (l : List UInt8) (w : World) (hA : Bytes w A l) (hn : l.length ≤ 9223372036854775807) :
    Calls Try.prog 77 #[.slice A l.length c, .func (.func 71) #[] #[]] w fun e w' => (∃ k : Int, e = .returned (.int .i64 k) ∧ decide (0 ≤ k) = l.any badB) ∧ w = w' := by
  go_enter Try.func77, Try.ntmps77
  go_wp2_with fail
  go_loop [8] (fun i => ∃ k : Nat, k ≤ l.length ∧ i = .int .i64 k ∧ (l.take k).any badB = false) (fun i => l.length - (intOf i).toNat)
  case atStart => exact ⟨0, by omega, rfl, by simp⟩
  case round =>
    obtain ⟨k, hk, rfl, hno⟩ := hrel
    have HNO := Lib.hid hno
    clear hno
    by_cases hlt : k < l.length
    · obtain ⟨ad, rfl, hb, hc⟩ := Bytes.at_ hA hlt
      have hcall := bad_any l[k] w
      have HM := Lib.hid (any_take_true (p := badB) hlt)
      have HN := Lib.hid (any_take_false (p := badB) hlt HNO.out)
      generalize l[k] = x at hc hcall HM HN
      go_wp2_with (go_at_call 71; refine hcall.mono ?_; clear hcall; rintro e w1 ⟨rfl, rfl⟩)
      · have hx : badB x = true := by assumption
        go_ret
        exact ⟨⟨k, rfl, by rw [HM.out hx]; simp⟩, rfl⟩
      · have hx : badB x = false := by assumption
        go_round
        case rel => exact ⟨k + 1, by omega, by go_num, HN.out hx⟩
        case measure => simp [intOf]; omega
    · obtain rfl : k = l.length := by omega
      go_wp2_with fail
      go_ret
      exact ⟨⟨-1, rfl, by have := HNO.out; rw [List.take_length] at this; rw [this]; rfl⟩, rfl⟩
theorem anyB (A : Option Addr) (c : Nat) (l : List UInt8) (w : World) (hA : Bytes w A l) (hn : l.length ≤ 9223372036854775807) :
    Calls Try.prog 70 #[.slice A l.length c, .func (.func 71) #[] #[]] w fun e w' => e = .returned (.bool (l.any badB)) ∧ w = w' := by
  have hcall := indexB A c l w hA hn
  generalize l.any badB = r at hcall ⊢
  clear hA
  go_enter Try.func70, Try.ntmps70
  go_wp2_with (go_at_call 77; refine hcall.mono ?_; clear hcall; rintro e w1 ⟨⟨k, rfl, hk⟩, rfl⟩)
  go_ret
  exact ⟨ret_bool (by rw [← hk]), rfl⟩
theorem size_nv (n : Nm) : (⟨n.toArray⟩ : ByteArray).size = n.length := rfl
theorem named_any (n : Nm) (w : World) (hn : n.length ≤ 9223372036854775807) : Calls Try.prog 60 #[nv n] w fun e w' => e = .returned (.bool (isName n)) ∧ Below w.heap.size w w' := by
  unfold nv isName
  by_cases h1 : 1 ≤ n.length
  · by_cases h2 : n.length ≤ 16
    · go_enter Try.func60, Try.ntmps60
      have hz := size_nv n
      have d1 : decide ((n.length : Int) < 1) = false := by simp; omega
      have d2 : decide ((16 : Int) < (n.length : Int)) = false := by simp; omega
      go_wp2_with (first
        | (refine str_bytes_list rfl (src := 9) (dst := 23) rfl Try.underlying9 Try.underlying23 Try.underlying5 hn rfl ?_; intro A c w1 hA _ _ hb)
        | (go_at_call 70; refine (anyB _ _ _ _ hA hn).mono ?_; rintro e w2 ⟨rfl, rfl⟩))
      go_ret
      exact ⟨ret_bool (by simp [h1, h2]), hb⟩
    · go_enter Try.func60, Try.ntmps60
      have hz := size_nv n
      have d1 : decide ((n.length : Int) < 1) = false := by simp; omega
      have d2 : decide ((16 : Int) < (n.length : Int)) = true := by simp; omega
      go_wp2_with fail
      go_ret
      exact ⟨ret_bool (by simp [h2]), Below.refl _ _⟩
  · go_enter Try.func60, Try.ntmps60
    have hz := size_nv n
    have d1 : decide ((n.length : Int) < 1) = true := by simp; omega
    go_wp2_with fail
    go_ret
    exact ⟨ret_bool (by simp [h1]), Below.refl _ _⟩
theorem unnamed_any (n : Nm) (w : World) (hn : n.length ≤ 9223372036854775807) : Calls Try.prog 59 #[nv n] w fun e w' => e = .returned (.bool (!isName n)) ∧ Below w.heap.size w w' := by
  have hcall := named_any n w hn
  unfold nv at *
  go_enter Try.func59, Try.ntmps59
  go_wp2_with (go_at_call 60; refine hcall.mono ?_; clear hcall; rintro e w1 ⟨rfl, hb⟩)
  go_ret
  exact ⟨rfl, hb⟩

/-- The row of texts '.slice A ns.length _' reads as ns. -/
def Strs (w : World) (A : Option Addr) (ns : List Nm) : Prop := Reads w 1 A ns.length (ns.map nv)
theorem Strs.at_ {w : World} {A : Option Addr} {ns : List Nm} (h : Strs w A ns) {k : Nat} (hk : k < ns.length) : ∃ ad, A = some ad ∧ ad.block < w.heap.size ∧ w.cell? (ad.add k) = some (nv ns[k]) := by
  obtain ⟨ad, u, e, hb, hx, hc⟩ := Reads.at_ h hk
  refine ⟨ad, e, hb, ?_⟩
  rw [List.getElem?_map, List.getElem?_eq_getElem hk] at hx
  simp only [Option.map_some, Option.some.injEq] at hx
  rw [hc, ← hx]
set_option maxHeartbeats 400000 in
theorem indexS (A : Option Addr) (c : Nat) (ns : List Nm) (w : World) (hA : Strs w A ns) (hn : ns.length ≤ 9223372036854775807) (hl : ∀ n ∈ ns, n.length ≤ 9223372036854775807) :
    Calls Try.prog 69 #[.slice A ns.length c, .func (.func 59) #[] #[]] w fun e w' => (∃ k : Int, e = .returned (.int .i64 k) ∧ decide (0 ≤ k) = ns.any fun n => !isName n) ∧ Below w.heap.size w w' := by
  have HL := Lib.hid hl
  clear hl
  go_enter Try.func69, Try.ntmps69
  go_wp2_with fail
  go_loopw [8] (fun i wr => ∃ k : Nat, k ≤ ns.length ∧ i = .int .i64 k ∧ Below w.heap.size w wr ∧ (ns.take k).any (fun n => !isName n) = false) (fun i _ => ns.length - (intOf i).toNat)
  case atStart => exact ⟨0, by omega, rfl, Below.refl _ _, by simp⟩
  case round =>
    obtain ⟨k, hk, rfl, hb, hno⟩ := hrel
    have HNO := Lib.hid hno
    clear hno
    by_cases hlt : k < ns.length
    · obtain ⟨ad, rfl, had, c0⟩ := Strs.at_ hA hlt
      replace c0 := (hb.cell (p := ad.add k) (by rw [add_block]; exact had)).trans c0
      have hcall := unnamed_any ns[k] wr (HL.out _ (List.getElem_mem hlt))
      have HM := Lib.hid (any_take_true (p := fun n => !isName n) hlt)
      have HN := Lib.hid (any_take_false (p := fun n => !isName n) hlt HNO.out)
      generalize ns[k] = x at c0 hcall HM HN
      unfold nv at c0 hcall
      go_wp2_with (go_at_call 59; refine hcall.mono ?_; clear hcall; rintro e w1 ⟨rfl, hb1⟩)
      · have hx : (!isName x) = true := by assumption
        go_ret
        exact ⟨⟨k, rfl, by rw [HM.out hx]; simp⟩, below_call hb hb.size hb1⟩
      · have hx : (!isName x) = false := by assumption
        go_roundw
        case rel => exact ⟨k + 1, by omega, by go_num, below_call hb hb.size hb1, HN.out hx⟩
        case measure => simp [intOf]; omega
    · obtain rfl : k = ns.length := by omega
      go_wp2_with fail
      go_ret
      exact ⟨⟨-1, rfl, by have := HNO.out; rw [List.take_length] at this; rw [this]; rfl⟩, hb⟩
theorem anyS (A : Option Addr) (c : Nat) (ns : List Nm) (w : World) (hA : Strs w A ns) (hn : ns.length ≤ 9223372036854775807) (hl : ∀ n ∈ ns, n.length ≤ 9223372036854775807) :
    Calls Try.prog 58 #[.slice A ns.length c, .func (.func 59) #[] #[]] w fun e w' => e = .returned (.bool (ns.any fun n => !isName n)) ∧ Below w.heap.size w w' := by
  have hcall := indexS A c ns w hA hn hl
  generalize (ns.any fun n => !isName n) = r at hcall ⊢
  clear hA hl
  go_enter Try.func58, Try.ntmps58
  go_wp2_with (go_at_call 69; refine hcall.mono ?_; clear hcall; rintro e w1 ⟨⟨k, rfl, hk⟩, hb⟩)
  go_ret
  exact ⟨ret_bool (by rw [← hk]), hb⟩
end Go.Proofs.Ytggdkhgpkedbkaa
