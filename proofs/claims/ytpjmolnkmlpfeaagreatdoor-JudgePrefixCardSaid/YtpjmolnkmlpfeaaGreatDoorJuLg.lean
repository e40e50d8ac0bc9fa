/- The law JudgePrefix, walked. -/
import Derived.Test.YtpjmolnkmlpfeaaGreatDoorJuLf
namespace Go.Proofs.YtpjmolnkmlpfeaaGreatDoor
set_option linter.unusedVariables false
set_option linter.unusedSimpArgs false
set_option maxRecDepth 100000
open Go.RowKit

theorem i64_and65535 (n : Int) : bits .and .i64 n 65535 = n % 65536 := by
  have h1 : (BitVec.ofInt 64 n &&& BitVec.ofInt 64 65535).toNat = (BitVec.ofInt 64 n).toNat % 65536 := by
    rw [BitVec.toNat_and, show (BitVec.ofInt 64 65535).toNat = 65535 by decide]
    exact Nat.and_two_pow_sub_one_eq_mod _ 16
  show IntKind.i64.wrap ((BitVec.ofInt 64 n &&& BitVec.ofInt 64 65535).toNat : Int) = _
  rw [h1, BitVec.toNat_ofInt, IntKind.wrap_i64]
  omega
theorem reads_takeN {w : World} {A : Option Addr} {l : List NtV} (hr : Reads w 19 A l.length (l.flatMap ntL)) {q : Nat} (hq : q ≤ l.length) : Reads w 19 A q ((l.take q).flatMap ntL) := by
  refine ⟨by rw [flatN_len, List.length_take]; congr 1; omega, fun h0 => ?_⟩
  obtain ⟨ad, e, hb, hc⟩ := hr.2 (by omega)
  refine ⟨ad, e, hb, fun j u hu => hc j u ?_⟩
  have e2 : l.flatMap ntL = (l.take q).flatMap ntL ++ (l.drop q).flatMap ntL := by rw [← List.flatMap_append, List.take_append_drop]
  rw [e2, List.getElem?_append_left (List.getElem?_eq_some_iff.1 hu).1]
  exact hu
theorem slh_in {w : World} {A : Option Addr} {l : List NtV} {c : Nat} (hr : Reads w 19 A l.length (l.flatMap ntL)) (h1 : l.length ≤ c) (h2 : c ≤ 9223372036854775807) (hin : ∀ x ∈ l, NtIn w x) : SlH (fun _ => True) w (.slice A l.length c) (l.map (·.n)) :=
  ⟨A, c, l, rfl, rfl, hr, fun x hx => ⟨(hin x hx).vc, (hin x hx).vr⟩, h1, h2, fun _ _ _ => trivial⟩
theorem prefix_may {h : List Nte} {k : Nat} {b b2 : Bool} {e e2 : Int} (hl : h.length ≤ 2000) (h1 : MayPost h b e) (h2 : MayPost (h.take k) b2 e2) (hb : b = true) : b2 = true ∨ e2 = 3 := by
  have hall : IsH h ∧ chanP h 1 = true ∧ chanP h 2 = true ∧ chanP h 3 = true := by
    rcases h1 with ⟨_, h, _⟩ | ⟨_, _, h, _⟩ | ⟨hi, _, ⟨_, _, h⟩ | ⟨h, _⟩ | ⟨h, _⟩⟩
    · rw [hb] at h; cases h
    · rw [hb] at h; cases h
    · exact ⟨hi, h⟩
    · rw [hb] at h; cases h
    · rw [hb] at h; cases h
  obtain ⟨hi, c1, c2, c3⟩ := hall
  have hi2 := hi.take k
  have t1 := chan_take hi k c1
  have t2 := chan_take hi k c2
  have t3 := chan_take hi k c3
  have hl2 : (h.take k).length ≤ 2000 := by rw [List.length_take]; omega
  rcases h2 with ⟨h, _⟩ | ⟨_, h, _⟩ | ⟨_, _, ⟨h, _⟩ | ⟨_, _, h⟩ | ⟨_, h, _⟩⟩
  · exact absurd hi2 h
  · omega
  · exact .inl h
  · rw [t1, t2, t3] at h
    rcases h with h | h | h <;> cases h
  · exact .inr h
namespace JudgePrefix
set_option maxRecDepth 100000 in
set_option maxHeartbeats 8000000 in
theorem walk {w : World} (A : Option Addr) (l : List NtV) (c : Nat) (hr : Reads w 19 A l.length (l.flatMap ntL)) (h1 : l.length ≤ c) (h2 : c ≤ 9223372036854775807) (hin : ∀ x ∈ l, NtIn w x) (hn : l.length * 184 ≤ 140737488351232) (x1 : Int64) :
    Calls Tryz.prog 7 #[.slice A l.length c, .int .i64 x1.toInt] w fun e w' => e = .returned (.bool true) ∧ Below w.heap.size w w' := by
  generalize x1.toInt = cut
  have hhv := heavy_any (m := 40) (c := c) hr hin (by decide) (by omega)
  have HHV := Lib.hid hhv
  have hsl := slh_in hr h1 h2 hin
  have HSL := Lib.hid hsl
  have HRR := Lib.hid hr
  have HIN := Lib.hid hin
  have HC : Hid (l.length ≤ c ∧ c ≤ 9223372036854775807) := ⟨h1, h2⟩
  clear hhv hsl hr h1 h2 hin hn
  go_enter Tryz.func7, Tryz.ntmps7
  go_wp2_with fail
  refine HHV.out.mono ?_
  rintro e w2 ⟨rfl, hb2⟩
  have HT2 := Lib.hid hb2
  clear hb2 HHV
  cases hv : heavyP l 40 with
  | true =>
    clear hv
    go_wp2_with fail
    refine (awake_any w2).mono ?_
    rintro e w3 ⟨rfl, hb⟩
    have HT3 := Lib.hid (HT2.out.trans (hb.mono HT2.out.size))
    clear hb
    go_wp2_with fail
    go_ret
    exact ⟨rfl, HT3.out⟩
  | false =>
    obtain ⟨hok, hl40⟩ := light_ok HIN.out hv
    have HOK := Lib.hid hok
    have hmay := jmay_any (HSL.out.below HT2.out) hok (by rw [List.length_map]; omega)
    have HMAY := Lib.hid hmay
    clear hv hok hmay
    go_wp2_with fail
    refine HMAY.out.mono ?_
    rintro e w3 ⟨hb3, b, er, rfl, hp⟩
    have HT3 := Lib.hid (HT2.out.trans (hb3.mono HT2.out.size))
    have HP := Lib.hid hp
    clear hb3 hp HMAY
    cases b with
    | false =>
      go_wp2_with fail
      refine (awake_any w3).mono ?_
      rintro e w4 ⟨rfl, hb⟩
      have HT4 := Lib.hid (HT3.out.trans (hb.mono HT3.out.size))
      clear hb
      go_wp2_with fail
      go_ret
      exact ⟨rfl, HT4.out⟩
    | true =>
      obtain ⟨m, hm, hm2⟩ : ∃ m : Nat, bits .and .i64 cut 65535 = (m : Int) ∧ m ≤ 65535 := ⟨(cut % 65536).toNat, by rw [i64_and65535]; omega, by omega⟩
      have hrem : ((m : Int)).tmod ((l.length : Int) + 1) = ((m % (l.length + 1) : Nat) : Int) := by
        rw [show ((l.length : Int) + 1) = ((l.length + 1 : Nat) : Int) by omega]
        rfl
      obtain ⟨q, hq⟩ : ∃ q, q = m % (l.length + 1) := ⟨_, rfl⟩
      have hql : q ≤ l.length := by rw [hq]; have := Nat.mod_lt m (show 0 < l.length + 1 by omega); omega
      rw [← hq] at hrem
      have hs2 : SlH (fun _ => True) w3 (.slice A q c) ((l.map (·.n)).take q) := by
        have h := SlH.below (w := w) (K := fun _ => True) (v := .slice A (l.take q).length c) (h := (l.take q).map (·.n)) (slh_in (l := l.take q) (by rw [List.length_take, Nat.min_eq_left hql]; exact reads_takeN HRR.out hql) (by rw [List.length_take]; have := HC.out.1; omega) HC.out.2 fun x hx => HIN.out x (List.mem_of_mem_take hx)) HT3.out
        rw [List.length_take, Nat.min_eq_left hql, List.map_take] at h
        exact h
      have hmay2 := jmay_any hs2 (fun x hx => HOK.out x (List.mem_of_mem_take hx)) (by rw [List.length_take, List.length_map]; omega)
      have HMAY2 := Lib.hid hmay2
      have hqc : q ≤ c := by have := HC.out.1; omega
      have HQ := Lib.hid hq
      clear hs2 hmay2 hq
      go_wp2_with fail
      refine HMAY2.out.mono ?_
      rintro e w4 ⟨hb4, b2, er2, rfl, hp2⟩
      have hfin := prefix_may (by rw [List.length_map]; omega) HP.out hp2 rfl
      have HT4 := Lib.hid (HT3.out.trans (hb4.mono HT3.out.size))
      clear hp2 hb4 HMAY2
      have haw : ∀ w5, Below w.heap.size w w5 → Calls Tryz.prog 9 #[] w5 fun e w' => e = .returned (.bool true) ∧ Below w.heap.size w w' := fun w2 h2 => (awake_any w2).mono fun e w' ⟨h1, h3⟩ => ⟨h1, h2.trans (h3.mono h2.size)⟩
      have HAW := Lib.hid haw
      clear haw
      cases b2 with
      | true =>
        clear hfin
        go_wp2_with fail
        refine (HAW.out w4 HT4.out).mono ?_
        rintro e w5 ⟨rfl, hb⟩
        go_wp2_with fail
        go_ret
        exact ⟨rfl, hb⟩
      | false =>
        obtain rfl : er2 = 3 := by
          rcases hfin with h | h
          · cases h
          · exact h
        clear hfin
        go_wp2_with fail
        refine (HAW.out w4 HT4.out).mono ?_
        rintro e w5 ⟨rfl, hb⟩
        go_wp2_with fail
        go_ret
        exact ⟨rfl, hb⟩
end JudgePrefix
end Go.Proofs.YtpjmolnkmlpfeaaGreatDoor
