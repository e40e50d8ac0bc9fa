/- The walk of the law that whatever is sealed has one sum. -/
import Derived.Test.YtgnegofkffiopaaSumG
import Derived.Test.YtgnegofkffiopaaWords3
import Derived.Test.YtgnegofkffiopaaCrcSeal
import Derived.Test.YtgnegofkffiopaaLawSeals
namespace Go.Proofs.Ytgnegofkffiopaa
open Go.RowKit

/-- The sum of one part, of two. -/
theorem of_one {A : Option Addr} {n c : Nat} {l : List UInt8} {w : World} (hp : Bytes w A l) (hn : l.length = n) (h1 : n ≤ c) (h2 : c ≤ 9223372036854775807) :
    Calls Try.prog 9 #[.slice (some ⟨w.heap.size, 0, none⟩) 1 1] (w.alloc (.cells #[.slice A n c] 23)) fun e w' => e = .returned (.int .u32 ((Crc.sum l).toNat : Int)) ∧ Below w.heap.size w w' := by
  subst hn
  refine (of_any _ 1 [l] _ (Parts.one 23 hp h1 h2) (by simp) (by simp; omega)).mono ?_
  rintro e w' ⟨rfl, hb⟩
  rw [List.flatten_cons, List.flatten_nil, List.append_nil]
  exact ⟨rfl, below_call (below_new w _) (by simp) hb⟩
theorem of_two {A B : Option Addr} {n c m d : Nat} {l k : List UInt8} {w : World} (hp : Bytes w A l) (hn : l.length = n) (h1 : n ≤ c) (h2 : c ≤ 9223372036854775807)
    (hq : Bytes w B k) (hm : k.length = m) (h3 : m ≤ d) (h4 : d ≤ 9223372036854775807) :
    Calls Try.prog 9 #[.slice (some ⟨w.heap.size, 0, none⟩) 2 2] (w.alloc (.cells #[.slice A n c, .slice B m d] 23)) fun e w' => e = .returned (.int .u32 ((Crc.sum (l ++ k)).toNat : Int)) ∧ Below w.heap.size w w' := by
  have hpar : Parts (w.alloc (.cells #[.slice A n c, .slice B m d] 23)) (some ⟨w.heap.size, 0, none⟩) [l, k] := by
    refine Parts.block _ [.slice A n c, .slice B m d] _ rfl rfl fun i v x hv hx => ?_
    match i, hv, hx with
    | 0, hv, hx => simp at hv hx; subst hv hx; exact BytesV.mk_ hp hn.symm (by omega) h2
    | 1, hv, hx => simp at hv hx; subst hv hx; exact BytesV.mk_ hq hm.symm (by omega) h4
  refine (of_any _ 2 [l, k] _ hpar (by simp) (by simp; omega)).mono ?_
  rintro e w' ⟨rfl, hb⟩
  rw [List.flatten_cons, List.flatten_cons, List.flatten_nil, List.append_nil]
  exact ⟨rfl, below_call (below_new w _) (by simp) hb⟩

theorem open_at {A : Option Addr} {cap n : Nat} {l : List UInt8} {w : World} (hp : Bytes w A l) (hl : l.length = n) (hn : n ≤ 1000000) (hc1 : n ≤ cap) (hc2 : cap ≤ 9223372036854775807) :
    Calls Try.prog 13 #[.slice A n cap] w fun e w' => (∃ v, e = .returned (.tuple #[v, .bool (Crc.isOf l)]) ∧ w'.ownsRow w.heap.size 5 1 v (Crc.bytesOf l).length ((Crc.bytesOf l).map bv)) ∧ Below w.heap.size w w' := by
  subst hl
  exact (open_any A cap l w hp hn hc1 hc2).mono fun e w' ⟨h1, h2⟩ => ⟨open_flat h1, h2⟩
/-- A word's bytes, as the walk writes them. -/
theorem w_b0 (x : BitVec 32) : IntKind.u8.wrap (x.toNat : Int) = ((Crc.byteAt x 0).toNat : Int) := by
  have := Crc.w_byteC x 0 1 rfl
  rwa [show (((1 : Nat) : Int)) = 1 from rfl, Int.ediv_one] at this
theorem w_b1 (x : BitVec 32) : (x.toNat : Int) / 256 % 256 = ((Crc.byteAt x 1).toNat : Int) := by rw [← Crc.w_byteC x 1 256 rfl, IntKind.wrap_u8]; rfl
theorem w_b2 (x : BitVec 32) : (x.toNat : Int) / 65536 % 256 = ((Crc.byteAt x 2).toNat : Int) := by rw [← Crc.w_byteC x 2 65536 rfl, IntKind.wrap_u8]; rfl
theorem w_b3 (x : BitVec 32) : (x.toNat : Int) / 16777216 = ((Crc.byteAt x 3).toNat : Int) := by
  have hx := x.isLt
  rw [← Crc.w_byteC x 3 16777216 rfl, IntKind.wrap_u8, Int.emod_eq_of_lt (by omega) (by omega)]; rfl
theorem len_le4 (x : BitVec 32) : (Crc.le4 x).length = 4 := rfl

set_option maxHeartbeats 400000 in
theorem one_long (A : Option Addr) (c n : Nat) (o : Int) (w : World) (hn : 20000 < n) :
    Calls Try.prog 6 #[.slice A n c, .int .u32 o] w fun e w' => e = .returned (.bool true) ∧ Below w.heap.size w w' := by
  go_enter Try.func6, Try.ntmps6
  go_wp2_with (go_at_call 8; refine (awake_any _).mono ?_; rintro e w' ⟨rfl, hb⟩)
  go_ret
  exact ⟨rfl, hb⟩

theorem len_sealed (l : List UInt8) : (Crc.sealed l).length = l.length + 4 := by simp [Crc.sealed, Crc.le4]

set_option maxRecDepth 100000 in
set_option maxHeartbeats 1600000 in
theorem one_any (A : Option Addr) (c : Nat) (l : List UInt8) (o : BitVec 32) (w : World) (hp : Bytes w A l) (hn : l.length ≤ 20000) (hc1 : l.length ≤ c) (hc2 : c ≤ 9223372036854775807) :
    Calls Try.prog 6 #[.slice A l.length c, .int .u32 (o.toNat : Int)] w fun e w' => e = .returned (.bool true) ∧ Below w.heap.size w w' := by
  have ho := o.isLt
  go_enter Try.func6, Try.ntmps6
  go_wp2_with fail
  refine (seal_any _ _ l _ hp (by omega) hc1 hc2).mono ?_
  rintro e w1 ⟨v1, rfl, hown1, hb1⟩
  obtain ⟨g1, c1, rfl, hg1, hc3, hc4⟩ := own_ptr hown1 (by omega)
  simp only [maxLen] at hc4
  go_wp2_with fail
  have hlx := len_sealed l
  have hx1 : Calls Try.prog 13 #[.slice (some ⟨g1, 0, none⟩) (l.length + 4) c1] w1 fun e w' => OpenPost w1.heap.size (Crc.opened (Crc.sealed l)) e w' ∧ Below w1.heap.size w1 w' := by
    rw [← hlx]
    exact open_any _ c1 (Crc.sealed l) w1 (own_bytes hown1) (by omega) (by omega) hc4
  rw [Crc.opened_sealed] at hx1
  refine hx1.mono ?_
  clear hx1
  rintro e w2 ⟨⟨v2, rfl, hown2⟩, hb2⟩
  have k2 := below_call hb1 hb1.size hb2
  obtain ⟨A2, c2, rfl, hc5, hc6⟩ := own_slice hown2
  have hown1' := own_call hown1 hb2
  have hs2 := conv_str (P := Try.prog) (c := c2) Try.underlying23 Try.underlying5 Try.underlying9 (own_bytes hown2) rfl
  have hsb := conv_str (P := Try.prog) (c := c) Try.underlying23 Try.underlying5 Try.underlying9 (hp.below k2) rfl
  have HLX := Lib.hid hlx
  clear hlx
  go_wp2_with fail
  clear hs2 hsb
  refine (of_one (own_bytes hown1') HLX.out (by omega) hc4).mono ?_
  rintro e w3 ⟨rfl, hb3⟩
  rw [Crc.sum_sealed]
  have k3 := below_call k2 k2.size hb3
  go_wp2_with fail
  refine (seal_any none 0 [] _ (Bytes.nil_ _ _) (by simp) (by simp) (by simp)).mono ?_
  rintro e w4 ⟨v4, rfl, hown4, hb4⟩
  have k4 := below_call k3 k3.size hb4
  obtain ⟨g4, c4, rfl, _, hc7, hc8⟩ := own_ptr hown4 (by omega)
  simp only [maxLen] at hc8
  go_wp2_with fail
  refine (of_one (own_bytes hown4) (own_len hown4) hc7 hc8).mono ?_
  rintro e w5 ⟨rfl, hb5⟩
  have k5 := below_call k4 k4.size hb5
  obtain ⟨K, hK⟩ : ∃ K, K = Crc.sum (Crc.sealed []) := ⟨_, rfl⟩
  rw [← hK]
  have HK := Lib.hid hK
  clear hK
  have hown0 : (w5.alloc (.cells #[] 5)).ownsRow w5.heap.size 5 1 (.slice (some ⟨w5.heap.size, 0, none⟩) 0 0) 0 [] := World.ownsRow_made _ _ _ (Nat.le_refl _) (by simp [maxLen]) rfl
  have h0 := w_b0 o
  have h1 := w_b1 o
  have h2 := w_b2 o
  have h3 := w_b3 o
  have hnK : ((K.toNat : Int) != (K.toNat : Int)) = false := by simp
  go_wp2_with (first
    | (at_builtin; refine app_list bytes_ty rfl (s := .tmp 48) (x := .tmp 49) rfl hown0 rfl (Reads.alloc (hp.below k5) _) rfl (bv_one l) (by omega) (by simp) ?_; intro v6 w6 hown6 hg6 _; have hb6 : Below w5.heap.size w5 w6 := (below_new w5 _).grown hg6 (by simp) (own_ge hown0))
    | (at_builtin; refine app_list bytes_ty rfl (s := .tmp 50) (x := .tmp 62) rfl (hown6.alloc _) rfl (Reads.block _ _ ((Crc.le4 o).map bv)) rfl (bv_one _) (by simp [Crc.le4]; omega) (by have := hb6.size; simp; omega) ?_; intro v7 w7 hown7 hg7 _; have hb7 : Below w5.heap.size w5 w7 := (hb6.alloc hb6.size _).grown hg7 (by have := hb6.size; simp; omega) (own_ge hown6)))
  clear h0 h1 h2 h3 hnK
  have k7 := below_call k5 k5.size hb7
  rw [List.nil_append, ← List.map_append, List.length_map, len_le4, Nat.zero_add] at hown7
  obtain ⟨A7, c7, rfl, hc9, hc10⟩ := own_slice hown7
  simp only [maxLen] at hc10
  have hz := own_bytes hown7
  have hzl := own_len hown7
  refine (open_at hz hzl (by omega) hc9 hc10).mono ?_
  rintro e w8 ⟨⟨v8, rfl, hown8⟩, hb8⟩
  have k8 := below_call k7 k7.size hb8
  have hown1'' := own_call (own_call (own_call (own_call (own_call hown1' hb3) hb4) hb5) hb7) hb8
  replace hz := hz.below hb8
  have hsx := conv_str (P := Try.prog) (c := c1) Try.underlying23 Try.underlying5 Try.underlying9 (own_bytes hown1'') HLX.out
  have hsz := conv_str (P := Try.prog) (c := c7) Try.underlying23 Try.underlying5 Try.underlying9 hz hzl
  have hop := Crc.opened_long l (Crc.le4 o) rfl
  have hsum := Crc.sum_other l o
  rw [← HK.out] at hsum
  have HZL := Lib.hid hzl
  clear hown0 hown6 hown7 hown8 hg6 hg7 hb6 hb7 hown1' hown1 hown2 hown4 hzl hown1'' HLX
  by_cases hq : Crc.le4 (Crc.sum l) = Crc.le4 o
  · rw [if_pos hq] at hop
    have hb : Crc.isOf (l ++ Crc.le4 o) = true := by unfold Crc.isOf; rw [hop]; rfl
    have hE : (l ++ Crc.le4 o == Crc.sealed l) = true := by rw [beq_iff_eq, Crc.sealed, hq]
    have hS := hsum.2 hq
    rw [hb]
    clear hop hq hsum hb
    go_wp2_with fail
    clear hsx hsz hE
    refine (of_one hz HZL.out hc9 hc10).mono ?_
    rintro e w9 ⟨rfl, hb9⟩
    have k9 := below_call k8 k8.size hb9
    rw [hS]
    clear hS
    go_wp2_with fail
    refine (seal_any none 0 [] _ (Bytes.nil_ _ _) (by simp) (by simp) (by simp)).mono ?_
    rintro e w10 ⟨v10, rfl, hown10, hb10⟩
    have k10 := below_call k9 k9.size hb10
    obtain ⟨g10, c10, rfl, _, hc11, hc12⟩ := own_ptr hown10 (by omega)
    simp only [maxLen] at hc12
    go_wp2_with fail
    refine (of_one (own_bytes hown10) (own_len hown10) hc11 hc12).mono ?_
    rintro e w11 ⟨rfl, hb11⟩
    have k11 := below_call k10 k10.size hb11
    rw [← HK.out]
    have hKK : ((K.toNat : Int) == (K.toNat : Int)) = true := by simp
    go_wp2_with (go_at_call 8; refine (awake_any _).mono ?_; rintro e w12 ⟨rfl, hb12⟩)
    go_ret
    exact ⟨rfl, below_call k11 k11.size hb12⟩
  · rw [if_neg hq] at hop
    have hb : Crc.isOf (l ++ Crc.le4 o) = false := by unfold Crc.isOf; rw [hop]; rfl
    have hE : (l ++ Crc.le4 o == Crc.sealed l) = false := by
      rw [beq_eq_false_iff_ne, Crc.sealed]
      exact fun h => hq (List.append_cancel_left h).symm
    have hS : Crc.sum (l ++ Crc.le4 o) ≠ K := fun h => hq (hsum.1 h)
    rw [hb]
    clear hop hq hsum hb
    go_wp2_with fail
    clear hsx hsz hE
    refine (of_one hz HZL.out hc9 hc10).mono ?_
    rintro e w9 ⟨rfl, hb9⟩
    have k9 := below_call k8 k8.size hb9
    obtain ⟨Z, hZ⟩ : ∃ Z, Z = Crc.sum (l ++ Crc.le4 o) := ⟨_, rfl⟩
    rw [← hZ] at hS ⊢
    have HZ := Lib.hid hZ
    clear hZ
    go_wp2_with fail
    refine (seal_any none 0 [] _ (Bytes.nil_ _ _) (by simp) (by simp) (by simp)).mono ?_
    rintro e w10 ⟨v10, rfl, hown10, hb10⟩
    have k10 := below_call k9 k9.size hb10
    obtain ⟨g10, c10, rfl, _, hc11, hc12⟩ := own_ptr hown10 (by omega)
    simp only [maxLen] at hc12
    go_wp2_with fail
    refine (of_one (own_bytes hown10) (own_len hown10) hc11 hc12).mono ?_
    rintro e w11 ⟨rfl, hb11⟩
    have k11 := below_call k10 k10.size hb11
    rw [← HK.out]
    have hKK : ((Z.toNat : Int) == (K.toNat : Int)) = false := by
      rw [beq_eq_false_iff_ne]
      intro h
      exact hS (BitVec.eq_of_toNat_eq (by omega))
    go_wp2_with (go_at_call 8; refine (awake_any _).mono ?_; rintro e w12 ⟨rfl, hb12⟩)
    go_ret
    exact ⟨rfl, below_call k11 k11.size hb12⟩

/-- A number of 32 bits as a word. -/
theorem word_of {x : Int} (w : (Lit.int .u32 x).wf = true) : ∃ o : BitVec 32, x = (o.toNat : Int) := by
  have h : 0 ≤ x ∧ x ≤ 4294967295 := by
    simp [Lit.wf, IntKind.min, IntKind.max, IntKind.signed, IntKind.bits] at w
    omega
  refine ⟨BitVec.ofNat 32 x.toNat, ?_⟩
  rw [BitVec.toNat_ofNat]
  omega
namespace SumOneForAll
theorem walk {w : World} (A : Option Addr) (l : List UInt8) (c : Nat) (hp : Bytes w A l) (hc1 : l.length ≤ c) (hc2 : c ≤ 9223372036854775807) (x : Int) (wx : (Lit.int .u32 x).wf = true) :
    Calls Try.prog 6 #[.slice A l.length c, .int .u32 x] w fun e w' => e = .returned (.bool true) ∧ Below w.heap.size w w' := by
  obtain ⟨o, rfl⟩ := word_of wx
  by_cases h : l.length ≤ 20000
  · exact one_any A c l o w hp h hc1 hc2
  · exact one_long A c l.length _ w (by omega)
end SumOneForAll
end Go.Proofs.Ytgnegofkffiopaa
