/- A packet, encoded; whether it may be. -/
import Derived.Test.YtdckdjkkaangmaaDoorWireE2
namespace Go.Proofs.YtdckdjkkaangmaaDoor
set_option linter.unusedVariables false
set_option linter.unusedSimpArgs false
set_option maxRecDepth 100000
open Go.RowKit

theorem sealed_len (l : List UInt8) : (Crc.sealed l).length = l.length + 4 := by unfold Crc.sealed Crc.le4; simp
/-- A packet may be, its length too. -/
def OkL (P : Pk) : Prop := OkP P ∧ (enc P).1.length + 4 ≤ 16384
instance (P : Pk) : Decidable (OkL P) := by unfold OkL; infer_instance
/-- What a packet is encoded as. -/
def EncPost (B : Nat) (P : Pk) (e : Ending) (w' : World) : Prop :=
  if OkL P then ∃ A c, e = .returned (.tuple #[.slice A (Crc.sealed (enc P).1).length c, .int .i64 0]) ∧ w'.ownsRow B 5 1 (.slice A (Crc.sealed (enc P).1).length c) (Crc.sealed (enc P).1).length ((Crc.sealed (enc P).1).map bv)
  else e = .returned (.tuple #[.slice none 0 0, .int .i64 (if OkP P then 7 else 1)])
theorem EncPost.no {B : Nat} {P : Pk} {w' : World} (h : ¬ OkP P) : EncPost B P (.returned (.tuple #[.slice none 0 0, .int .i64 1])) w' := by
  unfold EncPost
  rw [if_neg fun hl => h hl.1, if_neg h]
theorem EncPost.long {B : Nat} {P : Pk} {w' : World} (h : OkP P) (hl : 16384 < (enc P).1.length + 4) : EncPost B P (.returned (.tuple #[.slice none 0 0, .int .i64 7])) w' := by
  unfold EncPost
  rw [if_neg fun h' => by have := h'.2; omega, if_pos h]
theorem EncPost.yes {B : Nat} {P : Pk} {w' : World} (h : OkP P) (hl : ¬ 16384 < (enc P).1.length + 4) {v : Value} (ho : w'.ownsRow B 5 1 v (Crc.sealed (enc P).1).length ((Crc.sealed (enc P).1).map bv)) : EncPost B P (.returned (.tuple #[v, .int .i64 0])) w' := by
  unfold EncPost
  rw [if_pos ⟨h, by omega⟩]
  obtain ⟨A, c, rfl, _, _⟩ := own_slice ho
  exact ⟨A, c, rfl, ho⟩
set_option maxRecDepth 100000 in
set_option maxHeartbeats 16000000 in
theorem encode_any {w : World} {cs : Array Value} {P : Pk} (hP : PkV w cs P) :
    Calls Tryd.prog 13 #[.agg cs] w fun e w' => EncPost w.heap.size P e w' ∧ Below w.heap.size w w' := by
  have hB1 : Blk (w.alloc (.cells cs 44)) w.heap.size 44 cs := Blk.new _ _ _
  have hP1 := hP.below (below_new w (.cells cs 44))
  have hb1 := below_new w (.cells cs 44)
  have hsz : (Tryd.prog.info? 44).map (·.size) = some cs.size := by rw [hP.size]; exact info_pk
  have HB1 := Lib.hid hB1
  have HP1 := Lib.hid hP1
  have HSZ := Lib.hid hsz
  have HBB := Lib.hid hb1
  have HPP := Lib.hid hP
  clear hB1 hP1 hsz hb1 hP
  go_enter Tryd.func13, Tryd.ntmps13
  go_wp2_with (refine wpList_load_blk rfl rfl rfl HB1.out Tryd.underlying44 rfl HSZ.out ?_; refine Hid.out ?_)
  refine Lib.hid ?_
  go_wp2_with fail
  refine (row_any HP1.out).mono ?_
  rintro e w1 ⟨⟨b, A, c, rfl, hown, hbe⟩, hbl⟩
  have hbw := below_call HBB.out (by simp) hbl
  have HBW := Lib.hid hbw
  clear hbw hbl
  by_cases hok : OkP P
  · have hd : decide (OkP P) = true := decide_eq_true hok
    have hbe := hbe hok
    have HE := Lib.hid hbe
    have hLE : b.length ≤ 12000000 := by rw [hbe]; exact enc_len HPP.out hok.1 hok.2.1
    have hOK := Lib.hid hok
    clear hok hbe
    have hw4 : IntKind.i64.wrap ((b.length : Int) + 4) = (b.length : Int) + 4 := by rw [IntKind.wrap_i64]; omega
    by_cases hl : 16384 < b.length + 4
    · have hld : decide ((16384 : Int) < (b.length : Int) + 4) = true := decide_eq_true (by omega)
      have HL := Lib.hid hl
      clear hl
      go_wp2_with fail
      go_ret2
      exact ⟨EncPost.long hOK.out (by rw [← HE.out]; exact HL.out), HBW.out⟩
    · have hld : decide ((16384 : Int) < (b.length : Int) + 4) = false := decide_eq_false (by omega)
      obtain ⟨_, _, e1, hc1, hc2⟩ := own_slice hown
      injection e1 with e1 e2 e3
      subst e1 e3
      have HS := Lib.hid (seal_any A c b w1 (own_bytes hown) (by omega) hc1 (by simpa [maxLen] using hc2))
      have HL := Lib.hid hl
      clear hl hc1 hc2 hown
      go_wp2_with fail
      refine HS.out.mono ?_
      rintro e w2 ⟨v, rfl, hown2, hb2⟩
      have HO2 := Lib.hid hown2
      have HB2 := Lib.hid hb2
      clear hown2 hb2
      go_wp2_with fail
      go_ret2
      have h2 := HO2.out
      rw [HE.out, ← sealed_len] at h2
      exact ⟨EncPost.yes hOK.out (by rw [← HE.out]; exact HL.out) (own_low h2 HBW.out.size), below_call HBW.out HBW.out.size HB2.out⟩
  · have hd : decide (OkP P) = false := decide_eq_false hok
    have hOK := Lib.hid hok
    clear hok hown hbe
    go_wp2_with fail
    go_ret2
    exact ⟨EncPost.no hOK.out, HBW.out⟩
set_option maxHeartbeats 16000000 in
theorem may_any {w : World} {cs : Array Value} {P : Pk} (hP : PkV w cs P) :
    Calls Tryd.prog 14 #[.agg cs] w fun e w' => e = .returned (.bool (decide (OkL P))) ∧ Below w.heap.size w w' := by
  have hB1 : Blk (w.alloc (.cells cs 44)) w.heap.size 44 cs := Blk.new _ _ _
  have hP1 := hP.below (below_new w (.cells cs 44))
  have hb1 := below_new w (.cells cs 44)
  have hsz : (Tryd.prog.info? 44).map (·.size) = some cs.size := by rw [hP.size]; exact info_pk
  have HB1 := Lib.hid hB1
  have HP1 := Lib.hid hP1
  have HSZ := Lib.hid hsz
  have HBB := Lib.hid hb1
  clear hB1 hP1 hsz hb1 hP
  go_enter Tryd.func14, Tryd.ntmps14
  go_wp2_with (refine wpList_load_blk rfl rfl rfl HB1.out Tryd.underlying44 rfl HSZ.out ?_; refine Hid.out ?_)
  refine Lib.hid ?_
  go_wp2_with fail
  refine (encode_any HP1.out).mono ?_
  rintro e w1 ⟨he, hbl⟩
  have hbw := below_call HBB.out (by simp) hbl
  have HBW := Lib.hid hbw
  clear hbw hbl
  by_cases hl : OkL P
  · have hd : decide (OkL P) = true := decide_eq_true hl
    unfold EncPost at he
    rw [if_pos hl] at he
    obtain ⟨A, c, rfl, ho⟩ := he
    clear hl ho
    go_wp2_with fail
    go_ret
    exact ⟨by rw [hd]; rfl, HBW.out⟩
  · have hd : decide (OkL P) = false := decide_eq_false hl
    unfold EncPost at he
    rw [if_neg hl] at he
    obtain rfl := he
    clear hl
    by_cases ho : OkP P
    · rw [if_pos ho]
      clear ho
      go_wp2_with fail
      go_ret
      exact ⟨by rw [hd]; rfl, HBW.out⟩
    · rw [if_neg ho]
      clear ho
      go_wp2_with fail
      go_ret
      exact ⟨by rw [hd]; rfl, HBW.out⟩
end Go.Proofs.YtdckdjkkaangmaaDoor
