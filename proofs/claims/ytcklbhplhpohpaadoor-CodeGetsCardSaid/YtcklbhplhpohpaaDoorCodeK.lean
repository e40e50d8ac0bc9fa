/- The reader's U32. -/
import Derived.Test.YtcklbhplhpohpaaDoorCodeJ
import Derived.Laws.BitsAllLaws
namespace Go.Proofs.YtcklbhplhpohpaaDoor
open Go.RowKit

theorem leN_snoc : ∀ (l : List UInt8) (c : UInt8), leN (l ++ [c]) = leN l + 256 ^ l.length * c.toNat
  | [], c => by simp [leN]
  | d :: l, c => by
    rw [List.cons_append, leN, leN, leN_snoc l c, List.length_cons, Nat.pow_succ, Nat.mul_add, ← Nat.mul_assoc, Nat.mul_comm 256 (256 ^ l.length)]
    omega
theorem leN_lt : ∀ (l : List UInt8), leN l < 256 ^ l.length
  | [] => by simp [leN]
  | d :: l => by
    have := leN_lt l
    have hd := d.toNat_lt
    rw [leN, List.length_cons, Nat.pow_succ]
    omega
theorem or_eq (a d k : Nat) (ha : a < 256 ^ k) (hd : d < 256) (hk : k < 4) : bits .or .u32 (a : Int) (IntKind.u32.wrap (IntKind.u32.wrap (d : Int) * 2 ^ (8 * (k : Int)).toNat)) = ((a + 256 ^ k * d : Nat) : Int) := by
  have e : (8 * (k : Int)).toNat = 8 * k := by omega
  have e2 : IntKind.u32.wrap (d : Int) = (d : Int) := by rw [IntKind.wrap_u32]; omega
  have h1 : (256 : Nat) ^ k = 2 ^ (8 * k) := by rw [Nat.pow_mul]
  have e3 : (d : Int) * 2 ^ (8 * k) = ((d * 2 ^ (8 * k) : Nat) : Int) := by push_cast; rfl
  have h2 : d * 2 ^ (8 * k) < 4294967296 := by
    have : 2 ^ (8 * k) ≤ 2 ^ 24 := Nat.pow_le_pow_right (by decide) (by omega)
    calc d * 2 ^ (8 * k) ≤ 255 * 2 ^ 24 := Nat.mul_le_mul (by omega) this
      _ < _ := by decide
  have h3 : a < 4294967296 := by
    have : 2 ^ (8 * k) ≤ 2 ^ 24 := Nat.pow_le_pow_right (by decide) (by omega)
    omega
  have e4 : IntKind.u32.wrap ((d * 2 ^ (8 * k) : Nat) : Int) = ((d * 2 ^ (8 * k) : Nat) : Int) := by rw [IntKind.wrap_u32]; omega
  rw [e, e2, e3, e4, u32_or_nat _ _ h3 h2, Nat.or_comm, ← Nat.shiftLeft_eq, ← Nat.shiftLeft_add_eq_or_of_lt (by rw [← h1]; exact ha), Nat.shiftLeft_eq, h1, Nat.mul_comm d, Nat.add_comm]

section
variable (r a b : Nat) (A : Option Addr) (c : Nat) (l : List UInt8) (p : Nat) (f : Bool) (W : World)
set_option maxHeartbeats 1000000 in
theorem u32_way (h : RdB W r A c l p f) (ha : Blk W a 41 #[.pointer (some ⟨r, 0, none⟩)]) (hb : Blk W b 65 #[.int .u32 0]) (_har : a ≠ r) (hbr : b ≠ r) (hAb : ∀ ad, A = some ad → ad.block ≠ b) (hlt : p + 4 ≤ l.length) :
    Calls Tryd.prog 60 #[.pointer (some ⟨a, 0, none⟩), .pointer (some ⟨b, 0, none⟩)] W fun e w' => e = .returned (.tuple #[]) ∧ RdB w' r A c l (p + 4) f ∧ Blk w' b 65 #[.int .u32 (leN ((l.drop p).take 4) : Int)] ∧ Only2 r b W w' := by
  have c0 : W.cell? ⟨a, 0, none⟩ = some (.pointer (some ⟨r, 0, none⟩)) := ha.cell 0
  have HN := Lib.hid (next_in r A c l p f 4 W h hlt)
  have hlen : ((l.drop p).take 4).length = 4 := by rw [List.length_take, List.length_drop]; omega
  generalize (l.drop p).take 4 = xs at HN hlen
  have HL := Lib.hid hlen
  clear h ha
  go_enter Tryd.func60, Tryd.ntmps60
  go_wp2_with fail
  refine HN.out.mono ?_
  rintro e w3 ⟨⟨B, rfl, hB, hBA⟩, hR3, hg3⟩
  have HBb : Hid (∀ bd, B = some bd → bd.block ≠ b) := fun bd e => by
    obtain ⟨ad, e1, e2⟩ := hBA bd e
    rw [e2]
    exact hAb ad e1
  clear hBA
  have hb3 : Blk w3 b 65 #[.int .u32 0] := hb.grown hg3 (by simpa using hbr)
  have hO3 : Only2 r b W w3 := Only2.of hg3
  have HB := Lib.hid hB
  clear hB hg3
  go_wp2_with fail
  go_loopw [2, 3, 7] (fun _ _ i wr => ∃ k : Nat, k ≤ 4 ∧ i = .int .i64 k ∧ Blk wr b 65 #[.int .u32 (leN (xs.take k) : Int)] ∧ RdB wr r A c l (p + 4) f ∧ Bytes wr B xs ∧ Only2 r b W wr) (fun _ _ i _ => 4 - (intOf i).toNat)
  case atStart => exact ⟨0, by omega, rfl, hb3, hR3, HB.out, hO3⟩
  case round =>
    clear hb3 hR3 HB hO3
    obtain ⟨k, hk, rfl, hbk, hR, hB, hO⟩ := hrel
    obtain ⟨g, o, rfl, hgl, hcell⟩ := Bytes.flat hB (by rw [hlen]; omega)
    by_cases hlt4 : k < 4
    · have hki : (k : Int) < 4 := by omega
      have d0 := hcell k (by omega)
      have b0 : wr.cell? ⟨b, 0, none⟩ = some (.int .u32 (leN (xs.take k) : Int)) := hbk.cell 0
      have bf : wr.frozen? ⟨b, 0, none⟩ = false := hbk.free 0
      have hts : xs.take (k + 1) = xs.take k ++ [xs[k]] := List.take_succ_eq_append_getElem (by omega)
      have hv := leN_snoc (xs.take k) xs[k]
      have hvl := leN_lt (xs.take k)
      have hmin : min k xs.length = k := by omega
      rw [List.length_take, hmin] at hv hvl
      rw [← hts] at hv
      have hor := or_eq _ xs[k].toNat k hvl xs[k].toNat_lt hlt4
      rw [← hv] at hor
      have HOR := Lib.hid hor
      have hw8 : IntKind.i64.wrap (8 * (k : Int)) = ((8 * k : Nat) : Int) := by rw [IntKind.wrap_i64]; omega
      have KEY : Hid (∀ v, RdB (wr.setCell ⟨b, 0, none⟩ v).drew r A c l (p + 4) f ∧ Bytes (wr.setCell ⟨b, 0, none⟩ v).drew (some ⟨g, o, none⟩) xs ∧ Only2 r b W (wr.setCell ⟨b, 0, none⟩ v).drew) := fun v =>
        ⟨(hR.far hbr hAb 0 v).below (below_drewN (Below.refl _ _) 1), Reads.drew (Reads.grown hB (only_set (only_refl wr (some b)) 0 v) fun ad e => by have := HBb.out ad e; simpa using this), (hO.put 0 v).below (below_drewN (Below.refl _ _) 1)⟩
      clear hts hv hvl hor
      go_wp2_with fail
      refine PF.pf_begin (by kernel_rfl) ?_
      refine PF.pf_take1 0 (PF.Same (b) _) (by kernel_rfl) rfl (fun _ _ _ _ _ h => h) (by kernel_rfl) (PF.Same.refl _ _) (fun u hu => by have hcu := hu.cell; go_simp; try rfl) ?_
      try simp only [Act.put, List.setIfInBounds_toArray, List.set_cons_zero, List.set_cons_succ]
      refine PF.pf_take0 1 (by kernel_rfl) rfl (fun _ _ _ _ _ h => h) (by kernel_rfl) (fun u => by go_simp; try rfl) ?_
      try simp only [Act.put, List.setIfInBounds_toArray, List.set_cons_zero, List.set_cons_succ]
      refine PF.pf_take0 2 (by kernel_rfl) rfl (fun _ _ _ _ _ h => h) (by kernel_rfl) (fun u => by go_simp; try rfl) ?_
      try simp only [Act.put, List.setIfInBounds_toArray, List.set_cons_zero, List.set_cons_succ]
      refine PF.pf_take0 3 (by kernel_rfl) rfl (fun _ _ _ _ _ h => h) (by kernel_rfl) (fun u => by go_simp; try rfl) ?_
      try simp only [Act.put, List.setIfInBounds_toArray, List.set_cons_zero, List.set_cons_succ]
      refine PF.pf_take0 4 (by kernel_rfl) rfl (fun _ _ _ _ _ h => h) (by kernel_rfl) (fun u => by go_simp; try rfl) ?_
      try simp only [Act.put, List.setIfInBounds_toArray, List.set_cons_zero, List.set_cons_succ]
      refine PF.pf_take0 5 (by kernel_rfl) rfl (fun _ _ _ _ _ h => h) (by kernel_rfl) (fun u => by go_simp; try rfl) ?_
      try simp only [Act.put, List.setIfInBounds_toArray, List.set_cons_zero, List.set_cons_succ]
      refine PF.pf_take0 6 (by kernel_rfl) rfl (fun _ _ _ _ _ h => h) (by kernel_rfl) (fun u => by go_simp; try rfl) ?_
      try simp only [Act.put, List.setIfInBounds_toArray, List.set_cons_zero, List.set_cons_succ]
      refine PF.pf_exec 7 (by kernel_rfl) rfl (by kernel_rfl) (fun K hK => ?_)
      go_simp
      refine hK _ _ (by repeat (first | exact PF.owes_nil | refine PF.owes_left ?_ | refine PF.owes_no (by decide +kernel) ?_ | refine PF.owes_yes (by first | rfl | assumption | go_simp) ?_)) ?_
      clear hK K
      try simp only [Act.put, List.setIfInBounds_toArray, List.set_cons_zero, List.set_cons_succ]
      refine PF.pf_done (by kernel_rfl) ?_
      rw [HOR.out]
      go_wp2_with fail
      go_roundw
      case rel => exact ⟨k + 1, by omega, by go_num, (hbk.put0 _).drew, (KEY.out _).1, (KEY.out _).2.1, (KEY.out _).2.2⟩
      case measure => simp [intOf]; omega
    · obtain rfl : k = 4 := by omega
      have hx : xs.take 4 = xs := List.take_of_length_le (by omega)
      rw [hx] at hbk
      go_wp2_with fail
      go_end0
      exact ⟨rfl, hR, hbk, hO⟩
end
end Go.Proofs.YtcklbhplhpohpaaDoor
