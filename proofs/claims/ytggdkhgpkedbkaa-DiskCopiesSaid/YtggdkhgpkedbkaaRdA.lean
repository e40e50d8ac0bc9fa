/- The document's disk: its rows of files; Named, find, bytes, Size. -/
import Derived.Test.YtggdkhgpkedbkaaDiskX
import Derived.Test.YtggdkhgpkedbkaaFlat
namespace Go.Proofs.Ytggdkhgpkedbkaa
open Go.RowKit

/-- A value beside its bytes. -/
abbrev Sb := Sl × List UInt8
def fcells (p : Nm × Sb) : List Value := [.string ⟨p.1.toArray⟩, sv p.2.1]
def frow (E : List (Nm × Sb)) : List Value := E.flatMap fcells
theorem file_ty : SliceTy Try.prog 63 89 2 40 := SliceTy.mk Try.underlying63 (z := .agg #[.string .empty, .slice none 0 0]) (by kernel_rfl) rfl
/-- The row of files E, the rows of bytes in blocks of R. -/
structure FRow (w : World) (R : Nat → Prop) (A : Option Addr) (E : List (Nm × Sb)) : Prop where
  row : Reads w 2 A E.length (frow E)
  rows : ∀ p ∈ E, BytesIn w R p.2.1 p.2.2
  block : ∀ ad, A = some ad → R ad.block
def fil (E : List (Nm × Sb)) : Files := fmap (·.2) E
section
variable {w w' : World} {R R' : Nat → Prop} {A : Option Addr} {E : List (Nm × Sb)}
theorem FRow.nil (w : World) (R : Nat → Prop) : FRow w R none [] := ⟨Reads.nil_ _ _ _, fun _ h => (by cases h), fun _ h => (by cases h)⟩
theorem FRow.mono (h : FRow w R A E) (hR : ∀ b, R b → R' b) : FRow w R' A E := ⟨h.row, fun p hp => (h.rows p hp).mono hR, fun ad e => hR _ (h.block ad e)⟩
theorem FRow.below (h : FRow w R A E) (hb : Below w.heap.size w w') : FRow w' R A E := ⟨h.row.below hb, fun p hp => (h.rows p hp).below_ hb, h.block⟩
theorem FRow.mod {S : Nat → Prop} (h : FRow w R A E) (hm : Mod S w w') (hS : ∀ b, R b → ¬ S b) : FRow w' R A E :=
  ⟨h.row.mod hm fun ad e => hS _ (h.block ad e), fun p hp => (h.rows p hp).mod hm hS, h.block⟩
theorem FRow.kept {K : Nat → Prop} (h : FRow w R A E) (hk : Kept K w w') (hR : ∀ b, R b → K b) : FRow w' R A E :=
  ⟨Reads.keep h.row hk.1 fun p ⟨ad, e, hp⟩ _ => World.cell?_of_block (hk.2 _ (by rw [hp]; exact hR _ (h.block ad e))),
    fun p hp => ((h.rows p hp).mono hR).kept hk |> fun q => ⟨q.len, q.room, q.cap, q.bytes, (h.rows p hp).block⟩, h.block⟩
theorem FRow.at_ (h : FRow w R A E) {k : Nat} (hk : k < E.length) : ∃ b o, A = some ⟨b, o, none⟩ ∧ b < w.heap.size ∧ w.cell? ⟨b, o + k * 2, none⟩ = some (.string ⟨E[k].1.toArray⟩) ∧ w.cell? ⟨b, o + k * 2 + 1, none⟩ = some (sv E[k].2.1) := by
  obtain ⟨b, o, e, hb, hc⟩ := Reads.flat h.row (by omega) (by decide)
  exact ⟨b, o, e, hb, hc (k * 2) _ ((rows_at (K := 2) (f := fcells) (fun _ => rfl) E k 0 hk (by decide)).trans rfl), hc (k * 2 + 1) _ ((rows_at (K := 2) (f := fcells) (fun _ => rfl) E k 1 hk (by decide)).trans rfl)⟩
end
theorem fil_get (n : Nm) (E : List (Nm × Sb)) : fget n (fil E) = (fget n E).map (·.2) := fmap_get _ _ _
theorem fil_del (n : Nm) (E : List (Nm × Sb)) : fil (fdel n E) = fdel n (fil E) := fmap_del _ _ _
theorem fil_put (n : Nm) (b : Sb) (E : List (Nm × Sb)) : fil (fput n b E) = fput n b.2 (fil E) := fmap_put _ _ _ _
theorem fil_len (E : List (Nm × Sb)) : (fil E).length = E.length := by simp [fil, fmap]
theorem fget_cons {β : Type} (n : Nm) (p : Nm × β) (F : List (Nm × β)) : fget n (p :: F) = if p.1 = n then some p.2 else fget n F := by
  unfold fget
  by_cases h : p.1 = n
  · rw [if_pos h, List.find?_cons_of_pos (by simpa using h)]
    rfl
  · rw [if_neg h, List.find?_cons_of_neg (by simpa using h)]
theorem fget_drop {β : Type} {n : Nm} : ∀ {E : List (Nm × β)} {k : Nat}, (∀ j (hj : j < E.length), j < k → E[j].1 ≠ n) → fget n E = fget n (E.drop k)
  | _, 0, _ => rfl
  | [], _ + 1, _ => rfl
  | p :: E, k + 1, h => by
    have h0 : p.1 ≠ n := h 0 (by simp) (by omega)
    rw [fget_cons, if_neg h0, List.drop_succ_cons]
    exact fget_drop fun j hj hk => by have := h (j + 1) (by simpa using hj) (by omega); simpa using this
/-- The place of a file. -/
def FindPost (n : Nm) (E : List (Nm × Sb)) (q : Int) : Prop :=
  (q = -1 ∧ fget n E = none) ∨ ∃ (k : Nat) (hk : k < E.length), q = (k : Int) ∧ E[k].1 = n ∧ fget n E = some E[k].2
set_option maxHeartbeats 1000000 in
theorem find_any {w : World} {R : Nat → Prop} {A : Option Addr} {E : List (Nm × Sb)} (c : Nat) (h : FRow w R A E) (hn : E.length ≤ 9223372036854775806) (n : Nm) :
    Calls Try.prog 66 #[.slice A E.length c, .string ⟨n.toArray⟩] w fun e w' => (∃ q, e = .returned (.int .i64 q) ∧ FindPost n E q) ∧ w = w' := by
  go_enter Try.func66, Try.ntmps66
  go_wp2_with fail
  go_loopw [5] (fun i wr => ∃ k : Nat, k ≤ E.length ∧ i = .int .i64 k ∧ w = wr ∧ ∀ j (hj : j < E.length), j < k → E[j].1 ≠ n) (fun i _ => E.length - (intOf i).toNat)
  case atStart => exact ⟨0, by omega, rfl, rfl, fun j _ h => by omega⟩
  case round =>
    obtain ⟨k, hk, rfl, rfl, hne⟩ := hrel
    by_cases hlt : k < E.length
    · obtain ⟨b, o, rfl, hb, c0, c1⟩ := h.at_ hlt
      have HNE := Lib.hid hne
      obtain ⟨m, hm⟩ : ∃ m, E[k].1 = m := ⟨_, rfl⟩
      rw [hm] at c0
      have HM := Lib.hid hm
      clear hne hm c1
      by_cases he : m = n
      · subst he
        go_wp2_with fail
        go_ret
        refine ⟨⟨_, rfl, .inr ⟨k, hlt, rfl, HM.out, ?_⟩⟩, rfl⟩
        rw [fget_drop HNE.out, List.drop_eq_getElem_cons hlt, fget_cons, if_pos HM.out]
      · have hbe : (m == n) = false := by simpa using he
        have HE := Lib.hid he
        clear he
        go_wp2_with fail
        go_roundw
        case rel =>
          refine ⟨k + 1, by omega, by go_num, by first | rfl | trivial, fun j hj hjk => ?_⟩
          rcases Nat.lt_or_ge j k with h1 | h1
          · exact HNE.out j hj h1
          · obtain rfl : j = k := by omega
            rw [HM.out]
            exact HE.out
        case measure => simp [intOf]; omega
    · obtain rfl : k = E.length := by omega
      have HNE := Lib.hid hne
      clear hne
      go_wp2_with fail
      go_ret
      refine ⟨⟨_, rfl, .inl ⟨rfl, ?_⟩⟩, rfl⟩
      rw [fget_drop HNE.out, List.drop_length]
      rfl
/-- The bytes of a file; none. -/
theorem bytesof_any {w : World} {R : Nat → Prop} {A : Option Addr} {E : List (Nm × Sb)} (c : Nat) (h : FRow w R A E) (hn : E.length ≤ 9223372036854775806) (n : Nm) :
    Calls Try.prog 68 #[.slice A E.length c, .string ⟨n.toArray⟩] w fun e w' => (∃ s, e = .returned (sv s) ∧ BytesIn w R s ((fget n (fil E)).getD [])) ∧ w = w' := by
  have hf := find_any c h hn n
  go_enter Try.func68, Try.ntmps68
  go_wp2_with fail
  refine hf.mono ?_
  rintro e w1 ⟨⟨q, rfl, ⟨rfl, hg⟩ | ⟨k, hk, rfl, hne, hg⟩⟩, rfl⟩
  · have HG := Lib.hid hg
    clear hg
    go_wp2_with fail
    go_ret
    refine ⟨⟨(none, 0, 0), rfl, ?_⟩, rfl⟩
    rw [fil_get, HG.out]
    exact BytesIn.none _ _
  · obtain ⟨b, o, rfl, hb, c0, c1⟩ := h.at_ hk
    have HG := Lib.hid hg
    have HK := Lib.hid (List.getElem_mem hk)
    generalize E[k] = p at *
    clear hg hne c0
    unfold sv at *
    go_wp2_with fail
    go_ret
    refine ⟨⟨p.2.1, rfl, ?_⟩, rfl⟩
    rw [fil_get, HG.out]
    exact h.rows _ HK.out
theorem fsize_take {F : Files} {k : Nat} (hk : k < F.length) : fsize (F.take (k + 1)) = fsize (F.take k) + F[k].2.length := by
  unfold fsize
  rw [← List.take_append_getElem hk, List.map_append, List.sum_append]
  simp
theorem fsize_take_le (F : Files) (k : Nat) : fsize (F.take k) ≤ fsize F := by
  conv => rhs; rw [← List.take_append_drop k F]
  unfold fsize
  rw [List.map_append, List.sum_append]
  omega
set_option maxHeartbeats 1000000 in
theorem sizeof_any {w : World} {R : Nat → Prop} {A : Option Addr} {E : List (Nm × Sb)} (c : Nat) (h : FRow w R A E) (hn : E.length ≤ 9223372036854775806) (hs : fsize (fil E) ≤ 4611686018427387904) :
    Calls Try.prog 57 #[.slice A E.length c] w fun e w' => e = .returned (.int .i64 (fsize (fil E) : Int)) ∧ w = w' := by
  obtain ⟨F, hF⟩ : ∃ F, F = fil E := ⟨_, rfl⟩
  have hl : F.length = E.length := by rw [hF, fil_len]
  rw [← hF] at hs ⊢
  have HF := Lib.hid hF
  clear hF
  go_enter Try.func57, Try.ntmps57
  go_wp2_with fail
  go_loopw [3, 4] (fun s i wr => ∃ k : Nat, k ≤ E.length ∧ i = .int .i64 k ∧ s = .int .i64 (fsize (F.take k) : Int) ∧ w = wr) (fun _ i _ => E.length - (intOf i).toNat)
  case atStart => exact ⟨0, by omega, rfl, by simp [fsize], rfl⟩
  case round =>
    obtain ⟨k, hk, rfl, rfl, rfl⟩ := hrel
    by_cases hlt : k < E.length
    · obtain ⟨b, o, rfl, hb, c0, c1⟩ := h.at_ hlt
      have hp := h.rows _ (List.getElem_mem hlt)
      have hFk : (F[k]'(by omega)).2 = E[k].2.2 := by have := HF.out; subst this; simp [fil, fmap]
      have hst := fsize_take (F := F) (k := k) (by omega)
      have hle := fsize_take_le F (k + 1)
      rw [hFk, ← hp.len] at hst
      generalize E[k] = p at *
      unfold sv at *
      generalize hs0 : fsize (F.take k) = s0 at *
      have hw : IntKind.i64.wrap ((s0 : Int) + (p.2.1.2.1 : Int)) = ((s0 + p.2.1.2.1 : Nat) : Int) := by rw [IntKind.wrap_i64]; omega
      rw [← hst] at hw
      have HST := Lib.hid hst
      clear hst hle hs0 hFk hp c0 hs
      go_wp2_with fail
      go_roundw
      case rel => exact ⟨k + 1, by omega, by go_num, by first | rfl | trivial, by first | rfl | trivial⟩
      case measure => simp [intOf]; omega
    · obtain rfl : k = E.length := by omega
      rw [← hl, List.take_length]
      go_wp2_with fail
      go_ret
      exact ⟨rfl, rfl⟩
theorem name_any_false {n : Nm} {k : Nat} (h : n.any badB = false) (hk : k < n.length) : badB n[k] = false := by
  rw [List.any_eq_false] at h
  simpa using h _ (List.getElem_mem hk)
theorem isName_bad {n : Nm} {k : Nat} (hk : k < n.length) (h : badB n[k] = true) : isName n = false := by
  have : n.any badB = true := List.any_eq_true.2 ⟨_, List.getElem_mem hk, h⟩
  unfold isName
  rw [this]
  simp
end Go.Proofs.Ytggdkhgpkedbkaa
