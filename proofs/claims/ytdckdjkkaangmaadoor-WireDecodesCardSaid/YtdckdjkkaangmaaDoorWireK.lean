/- The writing walker: a text, a list; ballots, a place, by pointers in a row of the call's own. -/
import Derived.Test.YtdckdjkkaangmaaDoorWireJ
import Derived.Test.YtdckdjkkaangmaaDoorWireF
namespace Go.Proofs.YtdckdjkkaangmaaDoor
set_option linter.unusedVariables false
set_option linter.unusedSimpArgs false
set_option maxRecDepth 100000
open Go.RowKit

def gText (b : List UInt8) (S : WS) : WS := (S.1 ++ (short b.length ++ b), S.2)
def gList (xs : List Nat) (S : WS) : WS := (S.1 ++ short xs.length ++ xs.flatMap short, S.2 || decide (64 < xs.length))
set_option maxHeartbeats 4000000 in
theorem wtextm_any {w : World} {K : Nat → Prop} {xb wb pb : Nat} {T : TypeId} {cs : Array Value} {S : WS} (h : WSt w K xb wb pb T cs S) (o : Nat) (A : Option Addr) (b : List UInt8) (c : Nat) (ho : cs[o]? = some (.slice A b.length c)) (hb : Bytes w A b) (hbl : b.length ≤ 1000000) (hl : S.1.length ≤ 1000000000) :
    Calls Tryd.prog 118 #[.pointer (some ⟨xb, 0, none⟩), pc pb o] w (WTo w K xb wb pb T cs (gText b S)) := by
  have hd := h.same (Below.refl _ w).drew
  have m0 := hd.me.cell 0
  have p0 := hd.pk.cell o
  rw [ho] at p0
  simp only [List.getElem?_toArray, List.getElem?_cons_zero, List.getElem?_cons_succ] at m0
  obtain ⟨row, hr1, hr2, hr3⟩ := hd.wr
  have hcall := wtext_any wb row S.1 b w.drew hr1 (by omega)
  have HB := Lib.hid (hb.below (Below.refl _ w).drew)
  have HR := Lib.hid hr1
  have HR2 := Lib.hid hr2
  have HR3 := Lib.hid hr3
  have HS := Lib.hid hd
  unfold pc
  clear h hd hb hr1 hr2 hr3
  go_enter Tryd.func118, Tryd.ntmps118
  go_wp2_with fail
  refine PF.pf_begin (by kernel_rfl) ?_
  refine PF.pf_take0 0 (by kernel_rfl) rfl (fun _ _ _ _ _ h => h) (by kernel_rfl) (fun u => by go_simp; try rfl) ?_
  try simp only [Act.put, pz0, pz1, pz2]
  refine PF.pf_take0 1 (by kernel_rfl) rfl (fun _ _ _ _ _ h => h) (by kernel_rfl) (fun u => by go_simp; try rfl) ?_
  try simp only [Act.put, pz0, pz1, pz2]
  refine PF.pf_take0 2 (by kernel_rfl) rfl (fun _ _ _ _ _ h => h) (by kernel_rfl) (fun u => by go_simp; try rfl) ?_
  try simp only [Act.put, pz0, pz1, pz2]
  refine PF.pf_take1 3 (PF.Same (xb) _) (by kernel_rfl) rfl (fun _ _ _ _ _ h => h) (by kernel_rfl) (PF.Same.refl _ _) (fun u hu => by have hcu := hu.cell; go_simp; try rfl) ?_
  try simp only [Act.put, pz0, pz1, pz2]
  refine PF.pf_take0 4 (by kernel_rfl) rfl (fun _ _ _ _ _ h => h) (by kernel_rfl) (fun u => by go_simp; try rfl) ?_
  try simp only [Act.put, pz0, pz1, pz2]
  refine PF.pf_take0 5 (by kernel_rfl) rfl (fun _ _ _ _ _ h => h) (by kernel_rfl) (fun u => by go_simp; try rfl) ?_
  try simp only [Act.put, pz0, pz1, pz2]
  refine PF.pf_take1 6 (PF.Same (pb) _) (by kernel_rfl) rfl (fun _ _ _ _ _ h => h) (by kernel_rfl) (PF.Same.refl _ _) (fun u hu => by have hcu := hu.cell; go_simp; try rfl) ?_
  try simp only [Act.put, pz0, pz1, pz2]
  refine PF.pf_take1 7 (fun u => Bytes u A b) (by kernel_rfl) rfl (fun _ _ _ _ _ h => h) (by kernel_rfl) (HB.out) (fun u hu => by (have hcv := conv_str (P := Tryd.prog) (c := c) Tryd.underlying22 Tryd.underlying5 Tryd.underlying9 hu rfl; go_simp; rfl)) ?_
  try simp only [Act.put, pz0, pz1, pz2]
  refine PF.pf_exec 8 (by kernel_rfl) rfl (by kernel_rfl) (fun K hK => ?_)
  go_simp
  refine hcall.mono ?_
  rintro e w2 ⟨rfl, hw2⟩
  refine hK _ _ (by repeat (first | exact PF.owes_nil | refine PF.owes_left ?_ | refine PF.owes_no (by decide +kernel) ?_ | refine PF.owes_yes (by first | rfl | assumption | go_simp) ?_)) ?_
  clear hK K
  try simp only [Act.put, pz0, pz1, pz2]
  refine PF.pf_done (by kernel_rfl) ?_
  obtain ⟨hS2, hM2⟩ := HS.out.wrote HR.out HR2.out HR3.out hw2
  have HS2 := Lib.hid hS2
  have HM2 := Lib.hid (((Mod.refl _ w).drew).trans hM2)
  clear hcall hw2 hS2 hM2
  go_wp2_with fail
  go_end0
  exact ⟨rfl, HS2.out, HM2.out⟩
set_option maxHeartbeats 4000000 in
theorem wlistm_any {w : World} {K : Nat → Prop} {xb wb pb : Nat} {T : TypeId} {cs : Array Value} {S : WS} (h : WSt w K xb wb pb T cs S) (o : Nat) (A : Option Addr) (xs : List Nat) (c : Nat) (ho : cs[o]? = some (.slice A xs.length c)) (hr : Reads w 1 A xs.length (xs.map u64v)) (hx : ∀ x ∈ xs, x < 18446744073709551616)
    (hB : ∀ ad, A = some ad → K ad.block) (hbl : xs.length ≤ 1000000) (hl : S.1.length ≤ 1000000000) :
    Calls Tryd.prog 116 #[.pointer (some ⟨xb, 0, none⟩), pc pb o, .int .i64 64] w (WTo w K xb wb pb T cs (gList xs S)) := by
  have m0 := h.me.cell 0
  have m1 := h.me.cell 1
  have f1 := h.me.free 1
  have p0 := h.pk.cell o
  rw [ho] at p0
  simp only [List.getElem?_toArray, List.getElem?_cons_zero, List.getElem?_cons_succ] at m0 m1
  have hsl := short_len' xs.length (by omega)
  obtain ⟨v, hv⟩ : ∃ v, v = (S.2 || decide (64 < xs.length)) := ⟨_, rfl⟩
  obtain ⟨hS1, hM1⟩ := h.bad v
  have hS1' := hS1.same (Below.refl _ _).drew
  obtain ⟨row, hr1, hr2, hr3⟩ := hS1'.wr
  have hcall := wuint_any wb row S.1 xs.length (by omega) _ hr1 (by omega)
  have a0 := hS1'.me.cell 0
  have a1 := hS1'.pk.cell o
  rw [ho] at a1
  simp only [List.getElem?_toArray, List.getElem?_cons_zero, List.getElem?_cons_succ] at a0
  have hww : IntKind.u64.wrap (xs.length : Int) = (xs.length : Int) := by rw [IntKind.wrap_u64]; omega
  have HR := Lib.hid hr1
  have HR2 := Lib.hid hr2
  have HR3 := Lib.hid hr3
  have HS1 := Lib.hid hS1'
  have HM1 := Lib.hid hM1.drew
  have HRD := Lib.hid hr
  have HV := Lib.hid hv
  have HO := Lib.hid ho
  have hd3 : S.2 = false → decide (64 < xs.length) = v := fun e => by rw [hv, e]; rfl
  have hd4 : S.2 = true → v = true := fun e => by rw [hv, e]; rfl
  unfold pc
  clear h hr hS1 hM1 hS1' hr1 hr2 hr3 hv ho
  go_enter Tryd.func116, Tryd.ntmps116
  have key : ∀ (w1 : World), w1 = w.setCell ⟨xb, 1, none⟩ (.bool v) → Reads w1.drew 1 A xs.length (xs.map u64v) := fun w1 e => by
    subst e
    exact Reads.mod HRD.out HM1.out fun ad e hn => hn (hB ad e)
  cases hs2 : S.2
  · have hd5 := hd3 hs2
    rw [hs2] at m1
    have hd6 : decide ((64 : Int) < (xs.length : Int)) = v := by rw [← hd5]; congr 1; simp; omega
    have HS2 := Lib.hid hs2
    clear hd3 hd4 hs2
    go_wp2_with fail
    generalize hw1 : w.setCell ⟨xb, 1, none⟩ (.bool v) = w1 at *
    have hrd1 := key w1 rfl
    have HRD1 := Lib.hid hrd1
    clear hw1 key hrd1 m0 m1 f1 p0
    refine PF.pf_begin (by kernel_rfl) ?_
    refine PF.pf_take0 0 (by kernel_rfl) rfl (fun _ _ _ _ _ h => h) (by kernel_rfl) (fun u => by go_simp; try rfl) ?_
    try simp only [Act.put, pz0, pz1, pz2]
    refine PF.pf_take0 1 (by kernel_rfl) rfl (fun _ _ _ _ _ h => h) (by kernel_rfl) (fun u => by go_simp; try rfl) ?_
    try simp only [Act.put, pz0, pz1, pz2]
    refine PF.pf_take0 2 (by kernel_rfl) rfl (fun _ _ _ _ _ h => h) (by kernel_rfl) (fun u => by go_simp; try rfl) ?_
    try simp only [Act.put, pz0, pz1, pz2]
    refine PF.pf_take1 3 (PF.Same (xb) _) (by kernel_rfl) rfl (fun _ _ _ _ _ h => h) (by kernel_rfl) (PF.Same.refl _ _) (fun u hu => by have hcu := hu.cell; go_simp; try rfl) ?_
    try simp only [Act.put, pz0, pz1, pz2]
    refine PF.pf_take0 4 (by kernel_rfl) rfl (fun _ _ _ _ _ h => h) (by kernel_rfl) (fun u => by go_simp; try rfl) ?_
    try simp only [Act.put, pz0, pz1, pz2]
    refine PF.pf_take0 5 (by kernel_rfl) rfl (fun _ _ _ _ _ h => h) (by kernel_rfl) (fun u => by go_simp; try rfl) ?_
    try simp only [Act.put, pz0, pz1, pz2]
    refine PF.pf_take1 6 (PF.Same (pb) _) (by kernel_rfl) rfl (fun _ _ _ _ _ h => h) (by kernel_rfl) (PF.Same.refl _ _) (fun u hu => by have hcu := hu.cell; go_simp; try rfl) ?_
    try simp only [Act.put, pz0, pz1, pz2]
    refine PF.pf_take0 7 (by kernel_rfl) rfl (fun _ _ _ _ _ h => h) (by kernel_rfl) (fun u => by go_simp; try rfl) ?_
    try simp only [Act.put, pz0, pz1, pz2]
    refine PF.pf_take0 8 (by kernel_rfl) rfl (fun _ _ _ _ _ h => h) (by kernel_rfl) (fun u => by go_simp; try rfl) ?_
    try simp only [Act.put, pz0, pz1, pz2]
    refine PF.pf_exec 9 (by kernel_rfl) rfl (by kernel_rfl) (fun K hK => ?_)
    go_simp
    refine hcall.mono ?_
    rintro e w2 ⟨rfl, hw2⟩
    refine hK _ _ (by repeat (first | exact PF.owes_nil | refine PF.owes_left ?_ | refine PF.owes_no (by decide +kernel) ?_ | refine PF.owes_yes (by first | rfl | assumption | go_simp) ?_)) ?_
    clear hK K
    try simp only [Act.put, pz0, pz1, pz2]
    refine PF.pf_done (by kernel_rfl) ?_
    obtain ⟨hS2, hM2⟩ := HS1.out.wrote HR.out HR2.out HR3.out hw2
    have hS2' := hS2.same (Below.refl _ _).drew
    obtain ⟨row2, hr1, hr2, hr3⟩ := hS2'.wr
    have hrd2 : Reads w2.drew 1 A xs.length (xs.map u64v) := Reads.mod HRD1.out hM2.drew fun ad e hn => hn (hB ad e)
    have hput := wput_any wb row2 _ xs hx A c xs.length rfl w2.drew hr1 hrd2 (fun ad e => hr3 _ (hB ad e)) (by simp only [List.length_append]; omega)
    have b0 := hS2'.me.cell 0
    have b1 := hS2'.pk.cell o
    rw [HO.out] at b1
    simp only [List.getElem?_toArray, List.getElem?_cons_zero, List.getElem?_cons_succ] at b0
    have HR' := Lib.hid hr1
    have HR2' := Lib.hid hr2
    have HR3' := Lib.hid hr3
    have HS3 := Lib.hid hS2'
    have HM3 := Lib.hid (HM1.out.trans hM2.drew)
    clear hcall hw2 hS2 hM2 hS2' hr1 hr2 hr3 hrd2 a0 a1
    go_wp2_with fail
    refine PF.pf_begin (by kernel_rfl) ?_
    refine PF.pf_take0 0 (by kernel_rfl) rfl (fun _ _ _ _ _ h => h) (by kernel_rfl) (fun u => by go_simp; try rfl) ?_
    try simp only [Act.put, pz0, pz1, pz2]
    refine PF.pf_take0 1 (by kernel_rfl) rfl (fun _ _ _ _ _ h => h) (by kernel_rfl) (fun u => by go_simp; try rfl) ?_
    try simp only [Act.put, pz0, pz1, pz2]
    refine PF.pf_take0 2 (by kernel_rfl) rfl (fun _ _ _ _ _ h => h) (by kernel_rfl) (fun u => by go_simp; try rfl) ?_
    try simp only [Act.put, pz0, pz1, pz2]
    refine PF.pf_take1 3 (PF.Same (xb) _) (by kernel_rfl) rfl (fun _ _ _ _ _ h => h) (by kernel_rfl) (PF.Same.refl _ _) (fun u hu => by have hcu := hu.cell; go_simp; try rfl) ?_
    try simp only [Act.put, pz0, pz1, pz2]
    refine PF.pf_take0 4 (by kernel_rfl) rfl (fun _ _ _ _ _ h => h) (by kernel_rfl) (fun u => by go_simp; try rfl) ?_
    try simp only [Act.put, pz0, pz1, pz2]
    refine PF.pf_take0 5 (by kernel_rfl) rfl (fun _ _ _ _ _ h => h) (by kernel_rfl) (fun u => by go_simp; try rfl) ?_
    try simp only [Act.put, pz0, pz1, pz2]
    refine PF.pf_take1 6 (PF.Same (pb) _) (by kernel_rfl) rfl (fun _ _ _ _ _ h => h) (by kernel_rfl) (PF.Same.refl _ _) (fun u hu => by have hcu := hu.cell; go_simp; try rfl) ?_
    try simp only [Act.put, pz0, pz1, pz2]
    refine PF.pf_exec 7 (by kernel_rfl) rfl (by kernel_rfl) (fun K hK => ?_)
    go_simp
    refine hput.mono ?_
    rintro e w3 ⟨rfl, hw3⟩
    refine hK _ _ (by repeat (first | exact PF.owes_nil | refine PF.owes_left ?_ | refine PF.owes_no (by decide +kernel) ?_ | refine PF.owes_yes (by first | rfl | assumption | go_simp) ?_)) ?_
    clear hK K
    try simp only [Act.put, pz0, pz1, pz2]
    refine PF.pf_done (by kernel_rfl) ?_
    obtain ⟨hS4, hM4⟩ := HS3.out.wrote HR'.out HR2'.out HR3'.out hw3
    have HS4 := Lib.hid hS4
    have HM4 := Lib.hid (HM3.out.trans hM4)
    clear hput hw3 hS4 hM4
    go_wp2_with fail
    go_end0
    refine ⟨rfl, ?_, HM4.out⟩
    unfold gList
    rw [← HV.out]
    exact HS4.out
  · have hd5 := hd4 hs2
    subst hd5
    rw [hs2] at m1
    have HS2 := Lib.hid hs2
    clear hd3 hd4 hs2
    go_wp2_with fail
    generalize hw1 : w.setCell ⟨xb, 1, none⟩ (.bool true) = w1 at *
    have hrd1 := key w1 rfl
    have HRD1 := Lib.hid hrd1
    clear hw1 key hrd1 m0 m1 f1 p0
    refine PF.pf_begin (by kernel_rfl) ?_
    refine PF.pf_take0 0 (by kernel_rfl) rfl (fun _ _ _ _ _ h => h) (by kernel_rfl) (fun u => by go_simp; try rfl) ?_
    try simp only [Act.put, pz0, pz1, pz2]
    refine PF.pf_take0 1 (by kernel_rfl) rfl (fun _ _ _ _ _ h => h) (by kernel_rfl) (fun u => by go_simp; try rfl) ?_
    try simp only [Act.put, pz0, pz1, pz2]
    refine PF.pf_take0 2 (by kernel_rfl) rfl (fun _ _ _ _ _ h => h) (by kernel_rfl) (fun u => by go_simp; try rfl) ?_
    try simp only [Act.put, pz0, pz1, pz2]
    refine PF.pf_take1 3 (PF.Same (xb) _) (by kernel_rfl) rfl (fun _ _ _ _ _ h => h) (by kernel_rfl) (PF.Same.refl _ _) (fun u hu => by have hcu := hu.cell; go_simp; try rfl) ?_
    try simp only [Act.put, pz0, pz1, pz2]
    refine PF.pf_take0 4 (by kernel_rfl) rfl (fun _ _ _ _ _ h => h) (by kernel_rfl) (fun u => by go_simp; try rfl) ?_
    try simp only [Act.put, pz0, pz1, pz2]
    refine PF.pf_take0 5 (by kernel_rfl) rfl (fun _ _ _ _ _ h => h) (by kernel_rfl) (fun u => by go_simp; try rfl) ?_
    try simp only [Act.put, pz0, pz1, pz2]
    refine PF.pf_take1 6 (PF.Same (pb) _) (by kernel_rfl) rfl (fun _ _ _ _ _ h => h) (by kernel_rfl) (PF.Same.refl _ _) (fun u hu => by have hcu := hu.cell; go_simp; try rfl) ?_
    try simp only [Act.put, pz0, pz1, pz2]
    refine PF.pf_take0 7 (by kernel_rfl) rfl (fun _ _ _ _ _ h => h) (by kernel_rfl) (fun u => by go_simp; try rfl) ?_
    try simp only [Act.put, pz0, pz1, pz2]
    refine PF.pf_take0 8 (by kernel_rfl) rfl (fun _ _ _ _ _ h => h) (by kernel_rfl) (fun u => by go_simp; try rfl) ?_
    try simp only [Act.put, pz0, pz1, pz2]
    refine PF.pf_exec 9 (by kernel_rfl) rfl (by kernel_rfl) (fun K hK => ?_)
    go_simp
    refine hcall.mono ?_
    rintro e w2 ⟨rfl, hw2⟩
    refine hK _ _ (by repeat (first | exact PF.owes_nil | refine PF.owes_left ?_ | refine PF.owes_no (by decide +kernel) ?_ | refine PF.owes_yes (by first | rfl | assumption | go_simp) ?_)) ?_
    clear hK K
    try simp only [Act.put, pz0, pz1, pz2]
    refine PF.pf_done (by kernel_rfl) ?_
    obtain ⟨hS2, hM2⟩ := HS1.out.wrote HR.out HR2.out HR3.out hw2
    have hS2' := hS2.same (Below.refl _ _).drew
    obtain ⟨row2, hr1, hr2, hr3⟩ := hS2'.wr
    have hrd2 : Reads w2.drew 1 A xs.length (xs.map u64v) := Reads.mod HRD1.out hM2.drew fun ad e hn => hn (hB ad e)
    have hput := wput_any wb row2 _ xs hx A c xs.length rfl w2.drew hr1 hrd2 (fun ad e => hr3 _ (hB ad e)) (by simp only [List.length_append]; omega)
    have b0 := hS2'.me.cell 0
    have b1 := hS2'.pk.cell o
    rw [HO.out] at b1
    simp only [List.getElem?_toArray, List.getElem?_cons_zero, List.getElem?_cons_succ] at b0
    have HR' := Lib.hid hr1
    have HR2' := Lib.hid hr2
    have HR3' := Lib.hid hr3
    have HS3 := Lib.hid hS2'
    have HM3 := Lib.hid (HM1.out.trans hM2.drew)
    clear hcall hw2 hS2 hM2 hS2' hr1 hr2 hr3 hrd2 a0 a1
    go_wp2_with fail
    refine PF.pf_begin (by kernel_rfl) ?_
    refine PF.pf_take0 0 (by kernel_rfl) rfl (fun _ _ _ _ _ h => h) (by kernel_rfl) (fun u => by go_simp; try rfl) ?_
    try simp only [Act.put, pz0, pz1, pz2]
    refine PF.pf_take0 1 (by kernel_rfl) rfl (fun _ _ _ _ _ h => h) (by kernel_rfl) (fun u => by go_simp; try rfl) ?_
    try simp only [Act.put, pz0, pz1, pz2]
    refine PF.pf_take0 2 (by kernel_rfl) rfl (fun _ _ _ _ _ h => h) (by kernel_rfl) (fun u => by go_simp; try rfl) ?_
    try simp only [Act.put, pz0, pz1, pz2]
    refine PF.pf_take1 3 (PF.Same (xb) _) (by kernel_rfl) rfl (fun _ _ _ _ _ h => h) (by kernel_rfl) (PF.Same.refl _ _) (fun u hu => by have hcu := hu.cell; go_simp; try rfl) ?_
    try simp only [Act.put, pz0, pz1, pz2]
    refine PF.pf_take0 4 (by kernel_rfl) rfl (fun _ _ _ _ _ h => h) (by kernel_rfl) (fun u => by go_simp; try rfl) ?_
    try simp only [Act.put, pz0, pz1, pz2]
    refine PF.pf_take0 5 (by kernel_rfl) rfl (fun _ _ _ _ _ h => h) (by kernel_rfl) (fun u => by go_simp; try rfl) ?_
    try simp only [Act.put, pz0, pz1, pz2]
    refine PF.pf_take1 6 (PF.Same (pb) _) (by kernel_rfl) rfl (fun _ _ _ _ _ h => h) (by kernel_rfl) (PF.Same.refl _ _) (fun u hu => by have hcu := hu.cell; go_simp; try rfl) ?_
    try simp only [Act.put, pz0, pz1, pz2]
    refine PF.pf_exec 7 (by kernel_rfl) rfl (by kernel_rfl) (fun K hK => ?_)
    go_simp
    refine hput.mono ?_
    rintro e w3 ⟨rfl, hw3⟩
    refine hK _ _ (by repeat (first | exact PF.owes_nil | refine PF.owes_left ?_ | refine PF.owes_no (by decide +kernel) ?_ | refine PF.owes_yes (by first | rfl | assumption | go_simp) ?_)) ?_
    clear hK K
    try simp only [Act.put, pz0, pz1, pz2]
    refine PF.pf_done (by kernel_rfl) ?_
    obtain ⟨hS4, hM4⟩ := HS3.out.wrote HR'.out HR2'.out HR3'.out hw3
    have HS4 := Lib.hid hS4
    have HM4 := Lib.hid (HM3.out.trans hM4)
    clear hput hw3 hS4 hM4
    go_wp2_with fail
    go_end0
    refine ⟨rfl, ?_, HM4.out⟩
    unfold gList
    rw [← HV.out]
    exact HS4.out
end Go.Proofs.YtdckdjkkaangmaaDoor
