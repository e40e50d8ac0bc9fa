/- The reader with its bytes; number. -/
import Derived.Test.YtcklbhplhpohpaaDoorCodeD
namespace Go.Proofs.YtcklbhplhpohpaaDoor
open Go.RowKit

/-- The reader in the block r stands at the place p of the bytes l, which lie elsewhere. -/
structure RdB (w : World) (r : Nat) (A : Option Addr) (c : Nat) (l : List UInt8) (p : Nat) (f : Bool) : Prop where
  rd : Rd w r A l.length c p f
  by_ : Bytes w A l
  lc : l.length ≤ c
  cc : c ≤ 9223372036854775807
  pl : p ≤ l.length
  ne : ∀ ad, A = some ad → ad.block ≠ r ∧ ad.spot = none
  al : ∀ ad, A = some ad → ad.block < w.heap.size
section
variable {w w' : World} {r c p : Nat} {A : Option Addr} {l : List UInt8} {f : Bool}
theorem RdB.lt (h : RdB w r A c l p f) : r < w.heap.size := Blk.lt h.rd
/-- What keeps all but the reader keeps its bytes. -/
theorem RdB.only (h : RdB w r A c l p f) (hg : w.grownBy w' (some r)) {p' : Nat} {f' : Bool} (hr : Rd w' r A l.length c p' f') (hp : p' ≤ l.length) : RdB w' r A c l p' f' :=
  ⟨hr, Reads.grown h.by_ hg fun ad e => by have := (h.ne ad e).1; simpa using this, h.lc, h.cc, hp, h.ne, fun ad e => Nat.lt_of_lt_of_le (h.al ad e) hg.size⟩
theorem RdB.below (h : RdB w r A c l p f) (hb : Below w.heap.size w w') : RdB w' r A c l p f :=
  ⟨Blk.below h.rd hb h.lt, h.by_.below hb, h.lc, h.cc, h.pl, h.ne, fun ad e => Nat.lt_of_lt_of_le (h.al ad e) hb.size⟩
/-- A store elsewhere. -/
theorem RdB.far (h : RdB w r A c l p f) {b : Nat} (hb : b ≠ r) (hA : ∀ ad, A = some ad → ad.block ≠ b) (i : Nat) (v : Value) : RdB (w.setCell ⟨b, i, none⟩ v) r A c l p f :=
  ⟨Blk.far h.rd (Ne.symm hb) v, Reads.grown h.by_ (only_set (only_refl w (some b)) i v) fun ad e => by simpa using hA ad e, h.lc, h.cc, h.pl, h.ne, fun ad e => by simpa [World.setCell] using h.al ad e⟩
theorem Rd.put1 {n p' : Nat} (h : Rd w r A n c p f) (v : Int) (hv : v = (p' : Int)) : Rd (w.setCell ⟨r, 1, none⟩ (.int .i64 v)) r A n c p' f := by
  subst hv
  exact Blk.put h 1 _
end

/-- k bytes are there: they are answered. -/
theorem next_in (r : Nat) (A : Option Addr) (c : Nat) (l : List UInt8) (p : Nat) (f : Bool) (k : Nat) (w : World) (h : RdB w r A c l p f) (hk : p + k ≤ l.length) :
    Calls Tryd.prog 51 #[.pointer (some ⟨r, 0, none⟩), .int .i64 (k : Int)] w fun e w' => (∃ B, e = .returned (.slice B k k) ∧ Bytes w' B ((l.drop p).take k) ∧ ∀ bd, B = some bd → ∃ ad, A = some ad ∧ bd.block = ad.block) ∧ RdB w' r A c l (p + k) f ∧ w.grownBy w' (some r) := by
  cases A with
  | none =>
    have hl : l = [] := by
      rcases Nat.eq_zero_or_pos l.length with h0 | h0
      · exact List.eq_nil_of_length_eq_zero h0
      · obtain ⟨g, o, e, _⟩ := Bytes.flat h.by_ h0
        cases e
    subst hl
    have hpl := h.pl
    simp only [List.length_nil] at hpl hk
    obtain rfl : p = 0 := by omega
    obtain rfl : k = 0 := by omega
    refine (next_nil r c f w h.rd).mono ?_
    rintro e w' ⟨rfl, q, rfl⟩
    have hg : w.grownBy ((w.drewN q).setCell ⟨r, 1, none⟩ (.int .i64 0)) (some r) := only_set (only_drewN (only_refl _ _) q) 1 _
    exact ⟨⟨_, rfl, Bytes.nil_ _ _, fun _ e => by cases e⟩, h.only hg (Rd.put1 (Blk.drewN h.rd q) _ rfl) (by simp), hg⟩
  | some ad =>
    obtain ⟨g, o, s⟩ := ad
    have hs := (h.ne _ rfl).2
    simp only at hs
    subst hs
    refine (next_row r g o l.length c p f k w h.rd h.cc h.lc hk).mono ?_
    rintro e w' ⟨rfl, q, rfl⟩
    have hg : w.grownBy ((w.drewN q).setCell ⟨r, 1, none⟩ (.int .i64 ((p + k : Nat) : Int))) (some r) := only_set (only_drewN (only_refl _ _) q) 1 _
    have hR : RdB ((w.drewN q).setCell ⟨r, 1, none⟩ (.int .i64 ((p + k : Nat) : Int))) r (some ⟨g, o, none⟩) c l (p + k) f := h.only hg (Rd.put1 (Blk.drewN h.rd q) _ rfl) hk
    refine ⟨?_, hR, hg⟩
    have hlen : ((l.drop p).take k).length = k := by rw [List.length_take, List.length_drop]; omega
    by_cases h0 : k = 0
    · subst h0
      exact ⟨_, rfl, by rw [List.take_zero]; exact Bytes.nil_ _ _, fun bd e => ⟨_, rfl, by rw [if_pos (Nat.add_zero p)] at e; injection e with e; rw [← e]⟩⟩
    · obtain ⟨g', o', e2, hb2, hc2⟩ := Bytes.flat hR.by_ (by omega)
      injection e2 with e2
      injection e2 with e3 e4
      subst e3 e4
      refine ⟨some ⟨g, o + p, none⟩, by rw [if_neg (by omega)], ⟨by simp, fun _ => ⟨_, rfl, hb2, fun j u hu => ?_⟩⟩, fun bd e => ⟨_, rfl, by injection e with e; rw [← e]⟩⟩
      rw [add_flat]
      have hj : j < k := by
        have := (List.getElem?_eq_some_iff.1 hu).1
        rw [List.length_map, hlen] at this
        exact this
      rw [Nat.add_assoc, hc2 (p + j) (by omega), ← hu, List.getElem?_map, List.getElem?_take, if_pos hj, List.getElem?_drop, List.getElem?_eq_getElem (by omega)]
      rfl
theorem next_ok (r : Nat) (A : Option Addr) (c : Nat) (l : List UInt8) (p : Nat) (f : Bool) (k : Nat) (w : World) (h : RdB w r A c l p f) (hk : p + k ≤ l.length) :
    Calls Tryd.prog 51 #[.pointer (some ⟨r, 0, none⟩), .int .i64 (k : Int)] w fun e w' => (∃ B, e = .returned (.slice B k k) ∧ Bytes w' B ((l.drop p).take k)) ∧ RdB w' r A c l (p + k) f ∧ w.grownBy w' (some r) :=
  (next_in r A c l p f k w h hk).mono fun _ _ ⟨⟨B, h1, h2, _⟩, h3⟩ => ⟨⟨B, h1, h2⟩, h3⟩
theorem next_bad (r : Nat) (A : Option Addr) (c : Nat) (l : List UInt8) (p : Nat) (f : Bool) (k : Int) (w : World) (h : RdB w r A c l p f) (hk : k < 0 ∨ (l.length : Int) - p < k) :
    Calls Tryd.prog 51 #[.pointer (some ⟨r, 0, none⟩), .int .i64 k] w fun e w' => e = .panicked gaveUp ∧ RdB w' r A c l p f ∧ w.grownBy w' (some r) := by
  refine (next_no r A l.length c p f k w h.rd h.pl h.cc h.lc hk).mono ?_
  rintro e w' ⟨rfl, q, rfl⟩
  have hg : w.grownBy (w.drewN q) (some r) := only_drewN (only_refl _ _) q
  exact ⟨rfl, h.only hg (Blk.drewN h.rd q) h.pl, hg⟩

def NumPost (r : Nat) (A : Option Addr) (c : Nat) (l : List UInt8) (p : Nat) (f : Bool) (e : Ending) (w' : World) : Prop :=
  match num (l.drop p) 0 with
  | some (y, k) => e = .returned (.int .u64 (y : Int)) ∧ RdB w' r A c l (p + k) f
  | none => e = .panicked gaveUp ∧ ∃ p', RdB w' r A c l p' f
theorem NumPost.some {r : Nat} {A : Option Addr} {c : Nat} {l : List UInt8} {p : Nat} {f : Bool} {e : Ending} {w' : World} {y k : Nat} (h : num (l.drop p) 0 = some (y, k)) (he : e = .returned (.int .u64 (y : Int))) (hR : RdB w' r A c l (p + k) f) : NumPost r A c l p f e w' := by
  unfold NumPost; rw [h]; exact ⟨he, hR⟩
theorem NumPost.none {r : Nat} {A : Option Addr} {c : Nat} {l : List UInt8} {p p' : Nat} {f : Bool} {e : Ending} {w' : World} (h : num (l.drop p) 0 = none) (he : e = .panicked gaveUp) (hR : RdB w' r A c l p' f) : NumPost r A c l p f e w' := by
  unfold NumPost; rw [h]; exact ⟨he, _, hR⟩
theorem drop_at {l : List UInt8} {p k : Nat} (h : p + k < l.length) : (l.drop p)[k]'(by rw [List.length_drop]; omega) = l[p + k] := by rw [List.getElem_drop]

theorem acc_eq (a d k : Nat) (h : a + 128 ^ k * (d % 128) < 18446744073709551616) : IntKind.u64.wrap ((a : Int) + IntKind.u64.wrap ((d : Int) % 128 * 2 ^ (7 * k))) = ((a + 128 ^ k * (d % 128) : Nat) : Int) := by
  have e : (d : Int) % 128 * 2 ^ (7 * k) = ((128 ^ k * (d % 128) : Nat) : Int) := by
    have h1 : (2 : Nat) ^ (7 * k) = 128 ^ k := by rw [Nat.pow_mul]
    rw [← h1]
    push_cast
    exact Int.mul_comm _ _
  rw [e, IntKind.wrap_u64, IntKind.wrap_u64]
  omega

set_option maxRecDepth 100000 in
set_option maxHeartbeats 1000000 in
theorem number_any (r : Nat) (A : Option Addr) (c : Nat) (l : List UInt8) (p : Nat) (f : Bool) (w : World) (h : RdB w r A c l p f) :
    Calls Tryd.prog 48 #[.pointer (some ⟨r, 0, none⟩)] w fun e w' => NumPost r A c l p f e w' ∧ w.grownBy w' (some r) := by
  go_enter Tryd.func48, Tryd.ntmps48
  go_wp2_with fail
  go_loopw [2, 3, 4] (fun x n _ wr => ∃ k : Nat, k ≤ 9 ∧ p + k ≤ l.length ∧ x = .int .u64 (val ((l.drop p).take k) : Int) ∧ n = .int .i64 k ∧ RdB wr r A c l (p + k) f ∧ w.grownBy wr (some r) ∧ ∀ d ∈ (l.drop p).take k, 128 ≤ d.toNat) (fun _ n _ _ => 10 - (intOf n).toNat)
  case atStart => exact ⟨0, by omega, h.pl, rfl, rfl, h, only_refl _ _, by simp⟩
  case round =>
    obtain ⟨k, hk9, hpk, rfl, rfl, hR, hg, hd⟩ := hrel
    have HD := Lib.hid hd
    clear hd
    by_cases hlt : p + k < l.length
    · have hkx : k < (l.drop p).length := by rw [List.length_drop]; omega
      have hst := num_step hkx hk9 HD.out
      rw [drop_at hlt] at hst
      have hone : ((l.drop (p + k)).take 1) = [l[p + k]] := by rw [List.drop_eq_getElem_cons hlt]; rfl
      have hts : (l.drop p).take (k + 1) = (l.drop p).take k ++ [l[p + k]] := by rw [List.take_succ_eq_append_getElem hkx, drop_at hlt]
      have hv := val_snoc ((l.drop p).take k) l[p + k]
      have hvl := val_lt ((l.drop p).take k)
      rw [List.length_take, Nat.min_eq_left (by omega)] at hv hvl
      rw [← hts] at hv
      generalize l[p + k] = d at hst hone hts hv
      have HST := Lib.hid hst
      have HTS := Lib.hid hts
      have HV := Lib.hid hv
      have HVL := Lib.hid hvl
      clear hst hts hv hvl
      go_wp2_with fail
      have hn := next_ok r A c l (p + k) f 1 wr hR (by omega)
      rw [hone] at hn
      refine hn.mono ?_
      clear hn
      rintro e w3 ⟨⟨B, rfl, hB⟩, hR3, hg3⟩
      obtain ⟨g, o, rfl, hb, hcell⟩ := Bytes.flat hB (by simp)
      have c0 : w3.cell? ⟨g, o, none⟩ = some (.int .u8 (d.toNat : Int)) := hcell 0 (by simp)
      have hg4 := only_trans hg hg3
      clear hcell hB hg hg3 hR
      by_cases hk8 : k < 9
      · have hki : (k : Int) < 9 := by omega
        have hx : IntKind.u64.wrap (((val ((l.drop p).take k) : Nat) : Int) + IntKind.u64.wrap ((d.toNat : Int) % 128 * 2 ^ (7 * k))) = ((val ((l.drop p).take (k + 1)) : Nat) : Int) := by
          rw [HV.out]
          refine acc_eq _ _ _ ?_
          have h1 := HVL.out
          have h2 : 128 ^ k ≤ 128 ^ 8 := Nat.pow_le_pow_right (by decide) (by omega)
          have h3 : 128 ^ k * (d.toNat % 128) ≤ 128 ^ 8 * 127 := Nat.mul_le_mul h2 (by omega)
          omega
        have HX := Lib.hid hx
        have hs2 := HST.out
        rw [if_pos (.inl hk8)] at hs2
        have HS2 := Lib.hid hs2
        clear hx hs2
        by_cases hdl : d.toNat < 128
        · have hdi : (d.toNat : Int) < 128 := by omega
          by_cases hk0 : k = 0
          · subst hk0
            have hres := HS2.out
            rw [if_pos hdl, if_pos (.inl rfl)] at hres
            have HR := Lib.hid hres
            clear hres
            go_wp2_with fail
            refine (must_yes _).mono ?_
            rintro e w5 ⟨rfl, rfl⟩
            go_wp2_with fail
            refine (must_yes _).mono ?_
            rintro e w5 ⟨rfl, rfl⟩
            go_wp2_with fail
            go_ret
            have h5 : val ((l.drop p).take (0 + 1)) = d.toNat % 128 := by rw [HV.out]; simp [val]
            exact ⟨NumPost.some HR.out (ret_int (by rw [h5, IntKind.wrap_u64]; simp only [val]; omega)) hR3, hg4⟩
          · have hkb : ((k : Int) == 0) = false := by rw [beq_eq_false_iff_ne]; omega
            by_cases hz : 0 < d.toNat
            · have hres := HS2.out
              rw [if_pos hdl, if_pos (.inr hz)] at hres
              have HR := Lib.hid hres
              have hzb : decide (0 < d.toNat) = true := by rw [decide_eq_true_iff]; exact hz
              clear hres hz hk0
              go_wp2_with fail
              refine (must_yes _).mono ?_
              rintro e w5 ⟨rfl, rfl⟩
              go_wp2_with fail
              refine (must_yes _).mono ?_
              rintro e w5 ⟨rfl, rfl⟩
              go_wp2_with fail
              go_ret
              exact ⟨NumPost.some HR.out (by rw [HX.out]; rfl) hR3, hg4⟩
            · have hres := HS2.out
              rw [if_pos hdl, if_neg (by omega)] at hres
              have HR := Lib.hid hres
              have hzb : decide (0 < d.toNat) = false := by rw [decide_eq_false_iff_not]; exact hz
              clear hres hz hk0
              go_wp2_with fail
              refine (must_yes _).mono ?_
              rintro e w5 ⟨rfl, rfl⟩
              go_wp2_with fail
              refine (must_no _).mono ?_
              rintro e w5 ⟨rfl, rfl⟩
              go_wp2_with fail
              exact ⟨rfl, NumPost.none HR.out rfl hR3, hg4⟩
        · have hdi : ¬ (d.toNat : Int) < 128 := by omega
          go_wp2_with fail
          refine (must_yes _).mono ?_
          rintro e w5 ⟨rfl, rfl⟩
          go_wp2_with fail
          go_roundw
          case rel =>
            refine ⟨k + 1, by omega, by omega, by rw [HX.out], by go_num, hR3, hg4, ?_⟩
            rw [HTS.out]
            intro x hx
            rcases List.mem_append.1 hx with hx | hx
            · exact HD.out x hx
            · rw [List.mem_singleton] at hx
              subst hx
              omega
          case measure => simp [intOf]; omega
      · obtain rfl : k = 9 := by omega
        by_cases hd1 : d.toNat = 1
        · have hdb : ((d.toNat : Int) == 1) = true := by simp [hd1]
          have hx : IntKind.u64.wrap (((val ((l.drop p).take 9) : Nat) : Int) + IntKind.u64.wrap ((d.toNat : Int) % 128 * 2 ^ (7 * 9))) = ((val ((l.drop p).take (9 + 1)) : Nat) : Int) := by
            rw [HV.out]
            refine acc_eq _ _ _ ?_
            have h1 := HVL.out
            rw [hd1]
            omega
          have hres := HST.out
          rw [if_pos (.inr ⟨rfl, hd1⟩), if_pos (by omega), if_pos (by omega)] at hres
          have HR := Lib.hid hres
          have HX := Lib.hid hx
          clear hx hres
          have hdi : (d.toNat : Int) < 128 := by omega
          have hzb : decide (0 < d.toNat) = true := by rw [decide_eq_true_iff]; omega
          go_wp2_with fail
          refine (must_yes _).mono ?_
          rintro e w5 ⟨rfl, rfl⟩
          go_wp2_with fail
          refine (must_yes _).mono ?_
          rintro e w5 ⟨rfl, rfl⟩
          go_wp2_with fail
          go_ret
          have h6 : val ((l.drop p).take (9 + 1)) = val ((l.drop p).take 9) + 9223372036854775808 := by rw [HV.out, hd1]
          have h7 : val ((l.drop p).take 9) < 9223372036854775808 := by have := HVL.out; omega
          exact ⟨NumPost.some HR.out (ret_int (by rw [h6, IntKind.wrap_u64]; omega)) hR3, hg4⟩
        · have hdb : ((d.toNat : Int) == 1) = false := by rw [beq_eq_false_iff_ne]; omega
          have hres := HST.out
          rw [if_neg (by omega)] at hres
          have HR := Lib.hid hres
          clear hres
          go_wp2_with fail
          refine (must_no _).mono ?_
          rintro e w5 ⟨rfl, rfl⟩
          go_wp2_with fail
          exact ⟨rfl, NumPost.none HR.out rfl hR3, hg4⟩
    · obtain rfl : k = l.length - p := by omega
      have hend : num (l.drop p) 0 = none := num_end (k := l.length - p) (by rw [List.length_drop]) hk9 HD.out
      go_wp2_with fail
      refine (next_bad r A c l _ f 1 wr hR (by omega)).mono ?_
      rintro e w3 ⟨rfl, hR3, hg3⟩
      go_wp2_with fail
      exact ⟨rfl, NumPost.none hend rfl hR3, only_trans hg hg3⟩
end Go.Proofs.YtcklbhplhpohpaaDoor
