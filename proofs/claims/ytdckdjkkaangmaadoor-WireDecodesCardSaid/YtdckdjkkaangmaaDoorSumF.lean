/- The walks of the reference's sealing and opening. -/
import Derived.Test.YtdckdjkkaangmaaDoorJD
import Derived.Laws.IdiomStrings
namespace Go.Proofs.YtdckdjkkaangmaaDoor
set_option linter.unusedVariables false
set_option linter.unusedSimpArgs false
set_option maxRecDepth 100000
open Go.RowKit

theorem Crc.w_byteC (x : BitVec 32) (k p : Nat) (hp : p = 2 ^ (8 * k)) : IntKind.u8.wrap ((x.toNat : Int) / (p : Int)) = ((Crc.byteAt x k).toNat : Int) := by
  have := Crc.w_byte x k
  unfold shrI at this
  rw [← this, hp]
  simp

set_option maxHeartbeats 800000 in
theorem refseal_any (A : Option Addr) (cap : Nat) (l : List UInt8) (w : World) (hp : Bytes w A l) (hn : l.length ≤ 1000000) :
    Calls Tryd.prog 50 #[.slice A l.length cap] w fun e w' => ∃ v, e = .returned v ∧ w'.ownsRow w.heap.size 5 1 v (l.length + 4) ((Crc.sealed l).map bv) ∧ Below w.heap.size w w' := by
  obtain ⟨x, hx0⟩ : ∃ x, x = Crc.sum l := ⟨_, rfl⟩
  have h0 := Crc.w_byteC x 0 1 rfl
  have hx := x.isLt
  have h1 : (x.toNat : Int) / 256 % 256 = ((Crc.byteAt x 1).toNat : Int) := by rw [← Crc.w_byteC x 1 256 rfl, IntKind.wrap_u8]; rfl
  have h2 : (x.toNat : Int) / 65536 % 256 = ((Crc.byteAt x 2).toNat : Int) := by rw [← Crc.w_byteC x 2 65536 rfl, IntKind.wrap_u8]; rfl
  have h3 : (x.toNat : Int) / 16777216 = ((Crc.byteAt x 3).toNat : Int) := by
    rw [← Crc.w_byteC x 3 16777216 rfl, IntKind.wrap_u8, Int.emod_eq_of_lt (by omega) (by omega)]; rfl
  rw [show (((1 : Nat) : Int)) = 1 from rfl, Int.ediv_one] at h0
  have HX := Lib.hid hx0
  have hown0 : (w.alloc (.cells #[] 5)).ownsRow w.heap.size 5 1 (.slice (some ⟨w.heap.size, 0, none⟩) 0 0) 0 [] := World.ownsRow_made _ _ _ (Nat.le_refl _) (by simp [maxLen]) rfl
  go_enter Tryd.func50, Tryd.ntmps50
  go_wp2_with (first
    | (go_at_call 72; refine (refof_any _ _ l _ hp (by omega)).mono ?_; rintro e w1 ⟨rfl, rfl⟩; rw [← hx0]; clear hx0)
    | (at_builtin; refine app_list bytes_ty rfl (s := .tmp 6) (x := .tmp 7) rfl hown0 rfl (Reads.alloc hp _) rfl (bv_one l) (by omega) (by simp) ?_; intro v3 w3 hown3 hg3 _; have hbw3 : Below w.heap.size w w3 := (below_new w _).grown hg3 (by simp) (own_ge hown0))
    | (at_builtin; refine app_list bytes_ty rfl (s := .tmp 8) (x := .tmp 20) rfl (hown3.alloc _) rfl (Reads.block _ _ ((Crc.le4 x).map bv)) rfl (bv_one _) (by simp [Crc.le4]; omega) (by have := hbw3.size; simp; omega) ?_; intro v4 w4 hown4 hg4 _))
  go_ret
  refine ⟨_, rfl, ?_, (hbw3.alloc hbw3.size _).grown hg4 (by have := hbw3.size; simp; omega) (own_ge hown3)⟩
  have e : Crc.sealed l = l ++ Crc.le4 x := by rw [HX.out]; rfl
  rw [e, List.map_append, ← List.nil_append (l.map bv)]
  have hl4 : (Crc.le4 x).length = 4 := rfl
  simpa [hl4] using hown4

set_option maxHeartbeats 400000 in
theorem refopen_short (A : Option Addr) (cap : Nat) (l : List UInt8) (w : World) (hn : l.length < 4) :
    Calls Tryd.prog 24 #[.slice A l.length cap] w fun e w' => e = .returned (.tuple #[.slice none 0 0, .bool false]) ∧ w = w' := by
  go_enter Tryd.func24, Tryd.ntmps24
  go_wp2
  go_ret2
  exact ⟨rfl, rfl⟩

set_option maxHeartbeats 800000 in
theorem refopen_long (A : Option Addr) (cap : Nat) (t d : List UInt8) (hd : d.length = 4) (w : World) (hp : Reads w 1 A (t.length + 4) ((t ++ d).map bv)) (hn : t.length ≤ 1000000) (hc1 : t.length + 4 ≤ cap) :
    Calls Tryd.prog 24 #[.slice A (t.length + 4) cap] w fun e w' => OpenPost w.heap.size (Crc.opened (t ++ d)) e w' ∧ Below w.heap.size w w' := by
  have hown0 : (w.alloc (.cells #[] 5)).ownsRow w.heap.size 5 1 (.slice (some ⟨w.heap.size, 0, none⟩) 0 0) 0 [] := World.ownsRow_made _ _ _ (Nat.le_refl _) (by simp [maxLen]) rfl
  have hpt : Bytes w A t := by
    have := hp.take (k := t.length) (by omega)
    rw [Nat.mul_one, List.map_append, List.take_left' (by simp)] at this
    exact this
  have hlen : (t ++ d).length = t.length + 4 := by rw [List.length_append, hd]
  have hpb : Bytes w A (t ++ d) := by unfold Bytes; rw [hlen]; exact hp
  have HLEN := Lib.hid hlen
  have HD := Lib.hid hd
  clear hlen hd hp
  go_enter Tryd.func24, Tryd.ntmps24
  go_wp2_with (first
    | (at_builtin; refine app_list bytes_ty rfl (s := .tmp 8) (x := .tmp 13) rfl hown0 rfl (Reads.alloc hpt _) rfl (bv_one t) (by omega) (by simp) ?_; intro v3 w3 hown3 hg3 _; have hbw3 : Below w.heap.size w w3 := (below_new w _).grown hg3 (by simp) (own_ge hown0)))
  simp only [Nat.zero_add, List.nil_append] at hown3
  obtain ⟨A3, c3, rfl, hc3, hc4⟩ := own_slice hown3
  simp only [maxLen] at hc4
  have hb3 : Bytes w3 A3 t := own_bytes hown3
  refine PF.pf_begin (by kernel_rfl) ?_
  refine PF.pf_take0 0 (by kernel_rfl) rfl (fun _ _ _ _ _ h => h) (by kernel_rfl) (fun u => by go_simp; try rfl) ?_
  try simp only [Act.put, pz0, pz1, pz2]
  refine PF.pf_take0 3 (by kernel_rfl) rfl (fun _ _ _ _ _ h => h) (by kernel_rfl) (fun u => by go_simp; try rfl) ?_
  try simp only [Act.put, pz0, pz1, pz2]
  refine PF.pf_take1 4 ((fun u => Bytes u A (t ++ d))) (by kernel_rfl) rfl (fun _ _ _ _ _ h => h) (by kernel_rfl) ((hpb.below (w' := w3.drew) hbw3.drew)) (fun u hu => by (go_simp; rw [conv_str Tryd.underlying22 Tryd.underlying5 Tryd.underlying9 hu HLEN.out]; rfl)) ?_
  try simp only [Act.put, pz0, pz1, pz2]
  refine PF.pf_exec 1 (by kernel_rfl) rfl (by kernel_rfl) (fun K hK => ?_)
  go_simp
  refine (refseal_any _ _ t _ (show Bytes w3.drew A3 t from hb3) hn).mono ?_; rintro e w1 ⟨v1, rfl, hown1, hb1⟩; obtain ⟨A1, c1, rfl, hc5, hc6⟩ := own_slice hown1; have hbw1 : Below w.heap.size w w1 := below_call hbw3.drew hbw3.size hb1
  refine hK _ _ (by repeat (first | exact PF.owes_nil | refine PF.owes_left ?_ | refine PF.owes_no (by decide +kernel) ?_ | refine PF.owes_yes (by exact hpb.below hbw1) ?_)) ?_
  clear hK K
  try simp only [Act.put, pz0, pz1, pz2]
  refine PF.pf_take1 2 ((fun u => Bytes u A1 (Crc.sealed t))) (by kernel_rfl) rfl (fun _ _ _ _ _ h => h) (by kernel_rfl) ((own_bytes hown1)) (fun u hu => by (go_simp; rw [conv_str Tryd.underlying22 Tryd.underlying5 Tryd.underlying9 hu (own_len hown1)]; rfl)) ?_
  try simp only [Act.put, pz0, pz1, pz2]
  refine PF.pf_take0 5 (by kernel_rfl) rfl (fun _ _ _ _ _ h => h) (by kernel_rfl) (fun u => by go_simp; try rfl) ?_
  try simp only [Act.put, pz0, pz1, pz2]
  refine PF.pf_done (by kernel_rfl) ?_
  by_cases hq : Crc.le4 (Crc.sum t) = d
  · have hs : (Crc.sealed t == t ++ d) = true := by rw [beq_iff_eq, Crc.sealed, hq]
    have HFIN := Lib.hid ((Crc.opened_long t d HD.out).trans (if_pos hq))
    have hs' : (!Crc.sealed t == t ++ d) = false := by simp [hs]
    rw [hs']
    clear hq hs hs'
    go_wp2
    go_ret2
    rw [HFIN.out]
    exact ⟨⟨_, rfl, own_call (hown3.drew) hb1⟩, hbw1⟩
  · have hs : (Crc.sealed t == t ++ d) = false := by
      rw [beq_eq_false_iff_ne, Crc.sealed]
      exact fun h => hq (List.append_cancel_left h)
    have HFIN := Lib.hid ((Crc.opened_long t d HD.out).trans (if_neg hq))
    have hs' : (!Crc.sealed t == t ++ d) = true := by simp [hs]
    rw [hs']
    clear hq hs hs'
    go_wp2
    go_ret2
    rw [HFIN.out]
    exact ⟨rfl, hbw1⟩

theorem refopen_any (A : Option Addr) (cap : Nat) (l : List UInt8) (w : World) (hp : Bytes w A l) (hn : l.length ≤ 1000000) (hc1 : l.length ≤ cap) :
    Calls Tryd.prog 24 #[.slice A l.length cap] w fun e w' => OpenPost w.heap.size (Crc.opened l) e w' ∧ Below w.heap.size w w' := by
  by_cases h : l.length < 4
  · refine (refopen_short A cap l w h).mono ?_
    rintro e w' ⟨rfl, rfl⟩
    rw [Crc.opened_short l h]
    exact ⟨rfl, Below.refl _ _⟩
  · obtain ⟨t, d, rfl, hd⟩ : ∃ t d, l = t ++ d ∧ d.length = 4 := ⟨l.take (l.length - 4), l.drop (l.length - 4), (List.take_append_drop _ _).symm, by rw [List.length_drop]; omega⟩
    have e : (t ++ d).length = t.length + 4 := by rw [List.length_append, hd]
    unfold Bytes at hp
    rw [e] at hp hn hc1 ⊢
    exact refopen_long A cap t d hd w hp (by omega) hc1
end Go.Proofs.YtdckdjkkaangmaaDoor
