/- The law's helpers: long, is. -/
import Derived.Test.YtgdbknbpnlpdnaaSeenP
import Derived.Test.YtgdbknbpnlpdnaaSeenO
namespace Go.Proofs.Ytgdbknbpnlpdnaa
set_option linter.unusedVariables false
set_option linter.unusedSimpArgs false
open Go.RowKit

/-- What comes out, as a number and a row. -/
def outOf : Option (Option (List Mk)) → Int × List Mk
  | none => (1, [])
  | some none => (3, [])
  | some (some L) => (0, L)
theorem OutPost.form {base : Nat} {o : Option (Option (List Mk))} {e : Ending} {w' : World} (h : OutPost base o e w') :
    ∃ A c, e = .returned (.tuple #[.slice A (outOf o).2.length c, .int .i64 (outOf o).1]) ∧ OwnM w' base (.slice A (outOf o).2.length c) (outOf o).2 := by
  match o, h with
  | none, h => exact ⟨none, 0, h, OwnM.nil_ _ _⟩
  | some none, h => exact ⟨none, 0, h, OwnM.nil_ _ _⟩
  | some (some L), h =>
    obtain ⟨v, he, ho⟩ := h
    obtain ⟨A, c, rfl, _, _⟩ := ho.form
    exact ⟨A, c, he, ho⟩

set_option maxHeartbeats 400000 in
theorem is_any (A : Option Addr) (n c base : Nat) (ms : List Mk) (hn : n = ms.length) (e : Int) (B : Option Addr) (d : Nat) (ns : List Mk) (f : Int) (w : World) (hown : OwnM w base (.slice A n c) ms) (hB : Marks w B ns) (hm : ms.length ≤ 1000000) (hm2 : ns.length ≤ 1000000) (hbase : base ≤ w.heap.size) :
    Calls Try.prog 17 #[.slice A n c, .int .i64 e, .slice B ns.length d, .int .i64 f] w fun en w' => en = .returned (.bool (decide (e = f ∧ ms = ns))) ∧ Below base w w' := by
  subst hn
  by_cases hef : e = f
  · have HR : Hid (decide (e = f ∧ ms = ns) = decide (ms = ns)) := by show _ = _; simp [hef]
    have hd : (e == f) = true := by simp [hef]
    have HS := Lib.hid (refsame_any A B c d ms ns w hown.marks hB (by omega) (by omega))
    have HO := Lib.hid hown
    rw [HR.out]
    clear hef HR hB hown
    generalize decide (ms = ns) = r at HS ⊢
    go_enter Try.func17, Try.ntmps17
    go_wp2_with fail
    refine HS.out.mono ?_
    rintro e1 w1 ⟨rfl, q, rfl⟩
    go_wp2_with fail
    refine (spoil_any A ms.length c base ms rfl (w.drewN q) HO.out hm hbase).mono ?_
    rintro e1 w1 ⟨rfl, hb1⟩
    go_wp2_with fail
    go_ret
    exact ⟨rfl, (below_drewN (Below.refl _ _) q).trans hb1⟩
  · have HR : Hid (decide (e = f ∧ ms = ns) = false) := by show _ = _; simp [hef]
    have hd : (e == f) = false := by simpa using hef
    have HO := Lib.hid hown
    rw [HR.out]
    clear hef HR hB hown
    go_enter Try.func17, Try.ntmps17
    go_wp2_with fail
    refine (spoil_any A ms.length c base ms rfl w HO.out hm hbase).mono ?_
    rintro e1 w1 ⟨rfl, hb1⟩
    go_wp2_with fail
    go_ret
    exact ⟨rfl, hb1⟩

def LongPost (es : List En) (e : Ending) : Prop := ∃ b, e = .returned (.bool b) ∧ (b = false → es.length ≤ 1000)
set_option maxHeartbeats 400000 in
theorem long_any (B : Option Addr) (d : Nat) (es : List En) (w : World) (hB : Entries w B es) (hn : es.length ≤ 9223372036854775807) (hbd : ∀ e ∈ es, e.n ≤ 9223372036854775807) :
    Calls Try.prog 9 #[.slice B es.length d] w fun e w' => LongPost es e ∧ w = w' := by
  go_enter Try.func9, Try.ntmps9
  go_wp2_with fail
  go_loop [3, 4] (fun s i => ∃ k n : Nat, k ≤ es.length ∧ i = .int .i64 k ∧ s = .int .i64 n ∧ k ≤ n ∧ n ≤ 1000) (fun _ i => es.length - (intOf i).toNat)
  case atStart => exact ⟨0, 0, by omega, rfl, rfl, by omega, by omega⟩
  case round =>
    obtain ⟨k, n, hk, rfl, rfl, hkn, hn1⟩ := hrel
    by_cases hlt : k < es.length
    · obtain ⟨b, o, rfl, had, c0, c1, c2⟩ := hB.at_ hlt
      have hx := hbd _ (List.getElem_mem hlt)
      generalize es[k] = x at c0 c1 c2 hx
      clear c0 c1
      by_cases h1 : n + (1 + x.n / 64) ≤ 1000
      · have hq : ¬ (1000 : Int) < (n : Int) + (1 + (x.n : Int) / 64) := by omega
        go_wp2_with fail
        go_round
        case rel => exact ⟨k + 1, n + (1 + x.n / 64), by omega, by go_num, by go_num, by omega, by omega⟩
        case measure => simp [intOf]; omega
      · have hq : (1000 : Int) < (n : Int) + (1 + (x.n : Int) / 64) := by omega
        go_wp2_with fail
        go_ret
        exact ⟨⟨true, rfl, fun h => by cases h⟩, rfl⟩
    · go_wp2_with fail
      go_ret
      exact ⟨⟨false, rfl, fun _ => by omega⟩, rfl⟩
end Go.Proofs.Ytgdbknbpnlpdnaa
