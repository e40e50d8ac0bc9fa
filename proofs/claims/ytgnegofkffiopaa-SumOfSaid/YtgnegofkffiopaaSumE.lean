/- The walks of what is opened, and of the reference's sealing and opening. -/
import Derived.Test.YtgnegofkffiopaaSumD
namespace Go.Proofs.Ytgnegofkffiopaa
open Go.RowKit

namespace Crc
/-- Four bytes as a number, the lowest first, as far as k. -/
def rdN (d : List UInt8) : Nat → Nat
  | 0 => 0
  | k + 1 => rdN d k + (d.getD k 0).toNat * 2 ^ (8 * k)
theorem rdN_lt (d : List UInt8) : ∀ k, rdN d k < 2 ^ (8 * k)
  | 0 => by simp [rdN]
  | k + 1 => by
    have h := rdN_lt d k
    have h1 := (d.getD k 0).toNat_lt
    have e : 2 ^ (8 * (k + 1)) = 256 * 2 ^ (8 * k) := by rw [Nat.mul_add, Nat.pow_add, Nat.mul_comm]
    have h2 : (d.getD k 0).toNat * 2 ^ (8 * k) ≤ 255 * 2 ^ (8 * k) := Nat.mul_le_mul_right _ (by omega)
    unfold rdN
    omega
theorem rdN_join (a b i : Nat) (ha : a < 2 ^ i) : a ||| (b * 2 ^ i) = a + b * 2 ^ i := by
  have := Nat.two_pow_add_eq_or_of_lt ha b
  rw [Nat.mul_comm] at this
  rw [Nat.or_comm, ← this, Nat.add_comm]
theorem w_rd (d : List UInt8) (k : Nat) (hk : k < 4) :
    bits .or .u32 (rdN d k : Int) (((d.getD k 0).toNat : Int) * 2 ^ (8 * k) % 4294967296) = (rdN d (k + 1) : Int) := by
  have h1 := (d.getD k 0).toNat_lt
  have h2 := rdN_lt d k
  have h3 := rdN_lt d (k + 1)
  have h4 : (2 : Nat) ^ (8 * (k + 1)) ≤ 2 ^ 32 := Nat.pow_le_pow_right (by omega) (by omega)
  have h5 : (2 : Nat) ^ (8 * k) ≤ 2 ^ 24 := Nat.pow_le_pow_right (by omega) (by omega)
  have e : rdN d (k + 1) = rdN d k + (d.getD k 0).toNat * 2 ^ (8 * k) := rfl
  have e1 : ((d.getD k 0).toNat : Int) * 2 ^ (8 * k) % 4294967296 = (((d.getD k 0).toNat * 2 ^ (8 * k) : Nat) : Int) := by
    have e3 : ((d.getD k 0).toNat : Int) * 2 ^ (8 * k) = (((d.getD k 0).toNat * 2 ^ (8 * k) : Nat) : Int) := by simp
    rw [e3]
    omega
  rw [e1, u32_or_nat _ _ (by omega) (by omega), rdN_join _ _ _ h2, e]
theorem le4_rd (x : BitVec 32) (a b c d : UInt8) : rdN [a, b, c, d] 4 = x.toNat ↔ le4 x = [a, b, c, d] := by
  have hx := x.isLt
  have ha := a.toNat_lt
  have hb := b.toNat_lt
  have hc := c.toNat_lt
  have hd := d.toNat_lt
  have e : rdN [a, b, c, d] 4 = a.toNat + b.toNat * 256 + c.toNat * 65536 + d.toNat * 16777216 := by simp [rdN]
  rw [e]
  unfold le4 byteAt
  simp only [List.cons.injEq, and_true, ← UInt8.toNat_inj, UInt8.toNat_ofNat']
  simp only [Nat.mul_zero, Nat.pow_zero, Nat.div_one, Nat.mul_one, show (2 : Nat) ^ 8 = 256 from rfl, show (2 : Nat) ^ (8 * 2) = 65536 from rfl, show (2 : Nat) ^ (8 * 3) = 16777216 from rfl]
  omega

/-- What bytes are opened as. -/
def opened (l : List UInt8) : Option (List UInt8) :=
  if l.length < 4 then none else if sealed (l.take (l.length - 4)) = l then some (l.take (l.length - 4)) else none
theorem opened_short (l : List UInt8) (h : l.length < 4) : opened l = none := by unfold opened; rw [if_pos h]
theorem opened_long (t d : List UInt8) (h : d.length = 4) : opened (t ++ d) = if le4 (sum t) = d then some t else none := by
  have e : (t ++ d).take ((t ++ d).length - 4) = t := by
    rw [List.length_append, h, Nat.add_sub_cancel]
    exact List.take_left
  unfold opened
  rw [if_neg (by simp; omega), e]
  unfold sealed
  simp only [List.append_cancel_left_eq]
end Crc

/-- What opening answers. -/
def OpenPost (B : Nat) (o : Option (List UInt8)) (e : Ending) (w' : World) : Prop :=
  match o with
  | none => e = .returned (.tuple #[.slice none 0 0, .bool false])
  | some t => ∃ v, e = .returned (.tuple #[v, .bool true]) ∧ w'.ownsRow B 5 1 v t.length (t.map bv)

set_option maxHeartbeats 400000 in
theorem open_short (A : Option Addr) (cap : Nat) (l : List UInt8) (w : World) (hn : l.length < 4) :
    Calls Try.prog 13 #[.slice A l.length cap] w fun e w' => e = .returned (.tuple #[.slice none 0 0, .bool false]) ∧ w = w' := by
  go_enter Try.func13, Try.ntmps13
  go_wp2
  go_ret2
  exact ⟨rfl, rfl⟩

set_option maxHeartbeats 800000 in
theorem open_long (A : Option Addr) (cap : Nat) (t d : List UInt8) (hd : d.length = 4) (w : World) (hp : Reads w 1 A (t.length + 4) ((t ++ d).map bv)) (hn : t.length ≤ 1000000) (hc1 : t.length + 4 ≤ cap) (hc2 : cap ≤ 9223372036854775807) :
    Calls Try.prog 13 #[.slice A (t.length + 4) cap] w fun e w' => OpenPost w.heap.size (Crc.opened (t ++ d)) e w' ∧ Below w.heap.size w w' := by
  go_enter Try.func13, Try.ntmps13
  go_wp2_with (first
    | (go_at_call 16; refine (places_any _).mono ?_; rintro e w4 ⟨rfl, hb4⟩))
  go_loop [5, 14] (fun x i => ∃ k : Nat, k ≤ 4 ∧ i = .int .i64 k ∧ x = .int .u32 (Crc.rdN d k : Int)) (fun _ i => 4 - (intOf i).toNat)
  case atStart => exact ⟨0, by omega, rfl, rfl⟩
  case round =>
    obtain ⟨k, hk, rfl, rfl⟩ := hrel
    by_cases hlt : k < 4
    · have hpl := place_at k hlt
      obtain ⟨ad, u, rfl, had, hu, hcell⟩ := hp.at_ (k := t.length + k) (by omega)
      have hu' : u = .int .u8 ((d.getD k 0).toNat : Int) := by
        rw [List.map_append, List.getElem?_append_right (by simp)] at hu
        simp only [List.length_map, Nat.add_sub_cancel_left, List.getElem?_map, List.getElem?_eq_getElem (show k < d.length by omega), Option.map_some, Option.some.injEq] at hu
        rw [← hu, List.getD_eq_getElem?_getD, List.getElem?_eq_getElem (by omega)]
        rfl
      rw [hu'] at hcell
      replace hcell : w4.cell? (ad.add (t.length + k)) = _ := (hb4.cell (by rw [add_block]; exact had)).trans hcell
      clear hu hu'
      have HW := Crc.w_rd d k hlt
      have h255 := (d.getD k 0).toNat_lt
      generalize (d.getD k 0).toNat = q at hcell HW h255
      have HH := Lib.hid HW
      clear HW
      go_wp2
      go_round
      case rel => exact ⟨k + 1, by omega, by go_num, by rw [HH.out]⟩
      case measure => simp [intOf]; omega
    · have hk4 : k = 4 := by omega
      subst hk4
      clear hlt
      have hpt : Bytes w A t := by
        have := hp.take (k := t.length) (by omega)
        rw [Nat.mul_one, List.map_append, List.take_left' (by simp)] at this
        exact this
      have hpar := Parts.one 23 (Bytes.below hpt hb4) (show t.length ≤ cap by omega) hc2
      have heq : Crc.rdN d 4 = (Crc.sum t).toNat ↔ Crc.le4 (Crc.sum t) = d := by
        match d, hd with
        | [d0, d1, d2, d3], _ => exact Crc.le4_rd _ d0 d1 d2 d3
      have h4 := Crc.rdN_lt d 4
      have HEQ := Lib.hid heq
      clear heq hp
      generalize Crc.rdN d 4 = x at HEQ h4
      by_cases hx : x = (Crc.sum t).toNat
      · have HFIN := Lib.hid ((Crc.opened_long t d hd).trans (if_pos (HEQ.out.1 hx)))
        subst hx
        go_wp2_with (first
          | (go_at_call 9; refine (of_any _ _ [t] _ hpar (by simp) (by simp; omega)).mono ?_; rintro e w1 ⟨rfl, hb1⟩; simp only [List.flatten_cons, List.flatten_nil, List.append_nil]; have hbw : Below w.heap.size w w1 := below_call (hb4.alloc hb4.size _) (by have := hb4.size; simp; omega) hb1)
          | (at_builtin; refine app_list bytes_ty rfl rfl (World.ownsRow_nil _ w.heap.size _ _) rfl (Reads.below hpt hbw) rfl (bv_one t) (by omega) hbw.size ?_; intro v3 w3 hown3 hg3 _))
        go_ret2
        rw [HFIN.out]
        exact ⟨⟨_, rfl, by simpa using hown3⟩, hbw.grown hg3 hbw.size (fun k hk => by cases hk)⟩
      · have HFIN := Lib.hid ((Crc.opened_long t d hd).trans (if_neg (fun h => hx (HEQ.out.2 h))))
        have hne : ((x : Int) != ((Crc.sum t).toNat : Int)) = true := by rw [bne_iff_ne]; omega
        go_wp2_with (first
          | (go_at_call 9; refine (of_any _ _ [t] _ hpar (by simp) (by simp; omega)).mono ?_; rintro e w1 ⟨rfl, hb1⟩; simp only [List.flatten_cons, List.flatten_nil, List.append_nil]; have hbw : Below w.heap.size w w1 := below_call (hb4.alloc hb4.size _) (by have := hb4.size; simp; omega) hb1))
        go_ret2
        rw [HFIN.out]
        exact ⟨rfl, hbw⟩

theorem open_any (A : Option Addr) (cap : Nat) (l : List UInt8) (w : World) (hp : Bytes w A l) (hn : l.length ≤ 1000000) (hc1 : l.length ≤ cap) (hc2 : cap ≤ 9223372036854775807) :
    Calls Try.prog 13 #[.slice A l.length cap] w fun e w' => OpenPost w.heap.size (Crc.opened l) e w' ∧ Below w.heap.size w w' := by
  by_cases h : l.length < 4
  · refine (open_short A cap l w h).mono ?_
    rintro e w' ⟨rfl, rfl⟩
    rw [Crc.opened_short l h]
    exact ⟨rfl, Below.refl _ _⟩
  · obtain ⟨t, d, rfl, hd⟩ : ∃ t d, l = t ++ d ∧ d.length = 4 := ⟨l.take (l.length - 4), l.drop (l.length - 4), (List.take_append_drop _ _).symm, by rw [List.length_drop]; omega⟩
    have e : (t ++ d).length = t.length + 4 := by rw [List.length_append, hd]
    unfold Bytes at hp
    rw [e] at hp hn hc1 ⊢
    exact open_long A cap t d hd w hp (by omega) hc1 hc2
end Go.Proofs.Ytgnegofkffiopaa
