/- The walk of the law of the sum of parts. -/
import Derived.Test.YtgnegofkffiopaaLawOne
import Derived.Test.YtgnegofkffiopaaAppBig
namespace Go.Proofs.Ytgnegofkffiopaa
open Go.RowKit

set_option maxRecDepth 100000 in
set_option maxHeartbeats 1000000 in
theorem sumof_any (A : Option Addr) (c : Nat) (ls : List (List UInt8)) (w : World) (hp : Parts w A ls) (hn : ls.length ≤ 9223372036854775807) (hl : ∀ l ∈ ls, l.length ≤ 140737488351232) :
    Calls Try.prog 3 #[.slice A ls.length c] w fun e w' => e = .returned (.bool true) ∧ Below w.heap.size w w' := by
  go_enter Try.func3, Try.ntmps3
  go_wp2_with fail
  go_loopw [3, 4] (fun al i wr => ∃ k : Nat, k ≤ ls.length ∧ i = .int .i64 k ∧ (ls.take k).flatten.length ≤ 20000 ∧ wr.ownsRow w.heap.size 5 1 al (ls.take k).flatten.length ((ls.take k).flatten.map bv) ∧ Below w.heap.size w wr) (fun _ i _ => ls.length - (intOf i).toNat)
  case atStart => exact ⟨0, by omega, rfl, by simp, World.ownsRow_nil _ _ _ _, Below.refl _ _⟩
  case round =>
    obtain ⟨k, hk, rfl, hsz, hown, hbel⟩ := hrel
    obtain ⟨A1, c1, rfl, hc1, hc2⟩ := own_slice hown
    by_cases hlt : k < ls.length
    · obtain ⟨ad, A', c', rfl, had, hcell, hc3, hc4, hby⟩ := hp.at_ hlt
      replace hcell : wr.cell? (ad.add k) = _ := (hbel.cell (by rw [add_block]; exact had)).trans hcell
      replace hby := hby.below hbel
      have hlk := hl _ (List.getElem_mem hlt)
      have hts : (ls.take (k + 1)).flatten = (ls.take k).flatten ++ ls[k] := by rw [take_snoc' ls k hlt, List.flatten_append, List.flatten_cons, List.flatten_nil, List.append_nil]
      have HTS := Lib.hid hts
      clear hts
      generalize (ls.take k).flatten = pre at hown hsz HTS hc1 ⊢
      generalize ls[k] = l at hcell hc3 hby hlk HTS
      by_cases hbig : pre.length + l.length ≤ 20000
      · have hd : decide ((20000 : Int) < (pre.length : Int) + (l.length : Int)) = false := by rw [decide_eq_false_iff_not]; omega
        by_cases hi : k ≤ 1000
        · have hd2 : decide ((1000 : Int) < (k : Int)) = false := by rw [decide_eq_false_iff_not]; omega
          go_wp2_with (first
            | (at_builtin; refine app_list bytes_ty rfl (s := .tmp 11) (x := .tmp 15) rfl hown rfl hby rfl (bv_one l) (by omega) hbel.size ?_; intro v1 w1 hown1 hg1 _; obtain ⟨A2, c2, rfl, hc5, hc6⟩ := own_slice hown1))
          have hb1 := own_below hbel hg1 hbel.size (own_ge hown)
          have hl2 : (ls.take (k + 1)).flatten.length = pre.length + l.length := by rw [HTS.out, List.length_append]
          have hm2 : (ls.take (k + 1)).flatten.map bv = pre.map bv ++ l.map bv := by rw [HTS.out, List.map_append]
          go_roundw
          case rel => exact ⟨k + 1, by omega, by go_num, by rw [hl2]; exact hbig, by rw [hl2, hm2]; exact hown1, hb1⟩
          case measure => simp [intOf]; omega
        · have hd2 : decide ((1000 : Int) < (k : Int)) = true := by rw [decide_eq_true_iff]; omega
          go_wp2_with (first
            | (at_builtin; refine app_list bytes_ty rfl (s := .tmp 11) (x := .tmp 15) rfl hown rfl hby rfl (bv_one l) (by omega) hbel.size ?_; intro v1 w1 hown1 hg1 _; obtain ⟨A2, c2, rfl, hc5, hc6⟩ := own_slice hown1; have hb1 := own_below hbel hg1 hbel.size (own_ge hown))
            | (go_at_call 8; refine (awake_any _).mono ?_; rintro e w' ⟨rfl, hb⟩))
          go_ret
          exact ⟨rfl, below_call hb1 hb1.size hb⟩
      · have hd : decide ((20000 : Int) < (pre.length : Int) + (l.length : Int)) = true := by rw [decide_eq_true_iff]; omega
        go_wp2_with (first
          | (at_builtin; refine app_big_list bytes_ty rfl (s := .tmp 11) (x := .tmp 15) rfl hown rfl hby rfl (bv_one l) (by omega) hbel.size ?_; intro A2 c2 w1 hg1; have hb1 := own_below hbel hg1 hbel.size (own_ge hown))
          | (go_at_call 8; refine (awake_any _).mono ?_; rintro e w' ⟨rfl, hb⟩))
        go_ret
        exact ⟨rfl, below_call hb1 hb1.size hb⟩
    · have hkl : k = ls.length := by omega
      subst hkl
      rw [List.take_length] at hown hsz hc1 ⊢
      go_wp2_with fail
      refine (of_any A c ls wr (hp.below hbel) hn (fun l h => Nat.le_trans (hl l h) (by decide))).mono ?_
      rintro e w1 ⟨rfl, hb1⟩
      have k1 := below_call hbel hbel.size hb1
      replace hown := own_call hown hb1
      obtain ⟨all, hall⟩ : ∃ all, all = ls.flatten := ⟨_, rfl⟩
      rw [← hall] at hown hsz hc1 ⊢
      have HALL := Lib.hid hall
      clear hall
      go_wp2_with fail
      refine (refof_any A1 c1 all w1 (own_bytes hown) (by omega)).mono ?_
      rintro e w' ⟨rfl, rfl⟩
      go_wp2_with fail
      refine (of_one (own_bytes hown) rfl hc1 hc2).mono ?_
      rintro e w2 ⟨rfl, hb2⟩
      have k2 := below_call k1 k1.size hb2
      go_wp2_with fail
      have hof := of_any A c ls w2 (hp.below k2) hn (fun l h => Nat.le_trans (hl l h) (by decide))
      rw [← HALL.out] at hof
      refine hof.mono ?_
      clear hof
      rintro e w3 ⟨rfl, hb3⟩
      have k3 := below_call k2 k2.size hb3
      go_wp2_with (go_at_call 8; refine (awake_any _).mono ?_; rintro e w' ⟨rfl, hb⟩)
      go_ret
      exact ⟨rfl, below_call k3 k3.size hb⟩

namespace SumOf
theorem walk {w : World} (A : Option Addr) (ls : List (List UInt8)) (c : Nat) (hp : Parts w A ls) (h1 : ls.length ≤ c) (h2 : c ≤ 9223372036854775807) (h3 : ∀ l ∈ ls, l.length ≤ 140737488351232) :
    Calls Try.prog 3 #[.slice A ls.length c] w fun e w' => e = .returned (.bool true) ∧ Below w.heap.size w w' :=
  sumof_any A c ls w hp (Nat.le_trans h1 h2) h3
end SumOf
end Go.Proofs.Ytgnegofkffiopaa
