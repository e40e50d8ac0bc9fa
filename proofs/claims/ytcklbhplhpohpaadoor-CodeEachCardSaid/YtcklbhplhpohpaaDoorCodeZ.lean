/- CodeTwo, walked. -/
import Derived.Test.YtcklbhplhpohpaaDoorCodeY
import Derived.Laws.StructEq
namespace Go.Proofs.YtcklbhplhpohpaaDoor
open Go.RowKit

theorem parts_ty : SliceTy Tryd.prog 22 36 4 48 := SliceTy.mk Tryd.underlying22 (z := .agg #[.int .i64 0, .int .i64 0, .int .u64 0, .slice none 0 0]) (by kernel_rfl) rfl
theorem putAll_append (l m : List Pt) : putAll (l ++ m) = putAll l ++ putAll m := List.flatMap_append
theorem putAll_at {l : List Pt} {k : Nat} (hk : k < l.length) : (putAll l).drop (putAll (l.take k)).length = l[k].put ++ putAll (l.drop (k + 1)) := by
  have e : putAll l = putAll (l.take k) ++ (l[k].put ++ putAll (l.drop (k + 1))) := by
    conv => lhs; rw [← List.take_append_drop k l]
    rw [putAll_append, List.drop_eq_getElem_cons hk]
    rfl
  rw [e, List.drop_left]
theorem both_eq (l m : List Pt) : (!putAll (l ++ m) == (({ data := (putAll l).toArray } : ByteArray) ++ { data := (putAll m).toArray }).toList) = false := by
  rw [ByteArray.toList_eq, putAll_append]
  simp
theorem Fit.both {l m : List Pt} (h : bulk l ≤ 2000) (k : bulk m ≤ 2000) : Fit (l ++ m) := by
  have h1 := bulk_le h
  have h2 := bulk_le k
  refine ⟨by rw [List.length_append]; omega, ?_⟩
  rw [List.map_append, List.sum_append]
  omega
theorem Pts.of_own {w w0 : World} {base : Nat} {A : Option Addr} {n c : Nat} {l : List Pt} (h : w.ownsRow base 36 4 (.slice A n c) n (Pt.row l)) (hn : n = l.length) (hok : ∀ p ∈ l, p.ok w0) (hb : Below w0.heap.size w0 w) : Pts w A l := by
  subst hn
  exact ⟨Reads.of_own h, fun p hp => (hok p hp).below hb⟩

set_option maxRecDepth 100000 in
set_option maxHeartbeats 4000000 in
theorem two_any (A : Option Addr) (c : Nat) (l : List Pt) (hl : l.length ≤ 9223372036854775807) (B : Option Addr) (e : Nat) (m : List Pt) (hm : m.length ≤ 9223372036854775807) (w : World) (hA : Pts w A l) (hB : Pts w B m) :
    Calls Tryd.prog 7 #[.slice A l.length c, .slice B m.length e] w fun e w' => e = .returned (.bool true) ∧ Below w.heap.size w w' := by
  have HA := Lib.hid hA
  have HB := Lib.hid hB
  have HG1 := Lib.hid (great_any A c l hl w hA)
  have HG2 := Lib.hid (great_any B e m hm w hB)
  have HW := fun w => Lib.hid (awake_any w)
  clear hA hB
  go_enter Tryd.func7, Tryd.ntmps7
  go_wp2_with fail
  refine HG1.out.mono ?_
  rintro e w1 ⟨g, rfl, hb1, rfl⟩
  cases g with
  | true =>
    go_wp2_with fail
    refine (HW _).out.mono ?_
    rintro e w1 ⟨rfl, hb⟩
    have HB := Lib.hid hb
    clear hb
    go_wp2_with fail
    go_ret
    exact ⟨rfl, HB.out⟩
  | false =>
  have HL := Lib.hid (hb1 rfl)
  clear hb1
  go_wp2_with fail
  refine HG2.out.mono ?_
  rintro e w1 ⟨g, rfl, hb2, rfl⟩
  cases g with
  | true =>
    go_wp2_with fail
    refine (HW _).out.mono ?_
    rintro e w1 ⟨rfl, hb⟩
    have HB := Lib.hid hb
    clear hb
    go_wp2_with fail
    go_ret
    exact ⟨rfl, HB.out⟩
  | false =>
  have HM := Lib.hid (hb2 rfl)
  clear hb2 HG1 HG2
  go_wp2_with fail
  refine (row_any A c l.length l rfl (Fit.of_bulk HL.out) w HA.out).mono ?_
  rintro e w1 ⟨⟨A1, c1, rfl, ho1⟩, hb1⟩
  have HO1 := Lib.hid ho1
  have HB1 := Lib.hid hb1
  have hs1 : w.heap.size ≤ w1.heap.size := hb1.size
  clear ho1 hb1
  go_wp2_with fail
  refine (row_any B _ m.length m rfl (Fit.of_bulk HM.out) w1 (HB.out.below HB1.out)).mono ?_
  rintro e w2 ⟨⟨A2, c2, rfl, ho2⟩, hb2⟩
  have HO2 := Lib.hid ho2
  have HB2 := Lib.hid (below_call HB1.out hs1 hb2)
  have HO1b := Lib.hid (own_call HO1.out hb2)
  have hs2 : w1.heap.size ≤ w2.heap.size := hb2.size
  clear ho2 hb2
  have hown0 : (w2.alloc (.cells #[] 36)).ownsRow w2.heap.size 36 4 (.slice (some ⟨w2.heap.size, 0, none⟩) 0 0) 0 [] := World.ownsRow_made _ _ _ (Nat.le_refl _) (by simp [maxLen]) rfl
  have hRl : Reads (w2.alloc (.cells #[] 36)) 4 A l.length (Pt.row l) := (HA.out.1.below HB2.out).alloc _
  have hLl : l.length ≤ 2000 := (bulk_le HL.out).1
  have hLm : m.length ≤ 2000 := (bulk_le HM.out).1
  have hRm : Reads w2 4 B m.length (Pt.row m) := HB.out.1.below HB2.out
  go_wp2_with (at_builtin; refine app_list parts_ty rfl (s := .tmp 22) (x := .tmp 23) rfl hown0 rfl hRl rfl (Pt.row_one l) (by omega) (by simp) ?_; intro v3 w3 hown3 hg3 _; refine Hid.out ?_)
  have hb3 : Below w2.heap.size w2 w3 := (below_new w2 _).grown hg3 (by simp) (own_ge hown0)
  have HB3 := Lib.hid hb3
  have hs3 : w2.heap.size ≤ w3.heap.size := hb3.size
  simp only [Nat.zero_add, List.nil_append] at hown3
  have hRm3 := hRm.below hb3
  clear hg3 hown0 hRl hRm hb3
  obtain ⟨A3, c3, rfl, _, _⟩ := own_slice hown3
  refine Lib.hid ?_
  go_wp2_with (at_builtin; refine app_list parts_ty rfl (s := .tmp 24) (x := .tmp 25) rfl hown3 rfl hRm3 rfl (Pt.row_one m) (by omega) hs3 ?_; intro v4 w4 hown4 hg4 _; refine Hid.out ?_)
  have hb4 : Below w2.heap.size w2 w4 := own_below HB3.out hg4 hs3 (own_ge hown3)
  have HB4 := Lib.hid hb4
  have hs4 : w2.heap.size ≤ w4.heap.size := hb4.size
  obtain ⟨A4, c4, rfl, _, _⟩ := own_slice hown4
  rw [← Pt.row_append] at hown4
  have HBW4 := Lib.hid (below_call HB2.out (Nat.le_trans hs1 hs2) hb4)
  have hP4 : Pts w4 A4 (l ++ m) := Pts.of_own hown4 (by simp) (fun p hp => by
    rcases List.mem_append.1 hp with h | h
    · exact HA.out.2 p h
    · exact HB.out.2 p h) HBW4.out
  have HP4 := Lib.hid hP4
  have HO1c := Lib.hid (own_call HO1b.out hb4)
  have HO2c := Lib.hid (own_call HO2.out hb4)
  clear hown4 hg4 hown3 hRm3 hb4 hP4
  refine Lib.hid ?_
  go_wp2_with fail
  refine (row_any A4 c4 _ (l ++ m) (by simp) (Fit.both HL.out HM.out) w4 HP4.out).mono ?_
  rintro e w5 ⟨⟨A5, c5, rfl, ho5⟩, hb5⟩
  have hcv5 := conv_str (P := Tryd.prog) (w := w5) (n := (putAll (l ++ m)).length) (c := c5) Tryd.underlying27 Tryd.underlying5 Tryd.underlying9 (own_bytes ho5) rfl
  have hcv1 := conv_str (P := Tryd.prog) (w := w5) (n := (putAll l).length) (c := c1) Tryd.underlying27 Tryd.underlying5 Tryd.underlying9 (own_bytes (own_call HO1c.out hb5)) rfl
  have hcv2 := conv_str (P := Tryd.prog) (w := w5) (n := (putAll m).length) (c := c2) Tryd.underlying27 Tryd.underlying5 Tryd.underlying9 (own_bytes (own_call HO2c.out hb5)) rfl
  have HO5 := Lib.hid ho5
  have HB5 := Lib.hid (below_call HBW4.out (Nat.le_trans (Nat.le_trans hs1 hs2) hs4) hb5)
  have HP5 := Lib.hid (HP4.out.below hb5)
  have hs5 : w4.heap.size ≤ w5.heap.size := hb5.size
  clear ho5 hb5
  have hne := both_eq l m
  have hln : (putAll l).length + (putAll m).length ≤ 9223372036854775807 := by
    have := (Fit.of_bulk HL.out).all
    have := (Fit.of_bulk HM.out).all
    omega
  have hla := (Fit.both HL.out HM.out).all
  go_wp2_with fail
  refine (rdr_new A5 c5 _ (putAll (l ++ m)) w5 (own_bytes HO5.out) rfl (by omega)).mono ?_
  rintro e w6 ⟨r, rfl, hR, hb6⟩
  obtain ⟨lo, hlo⟩ : ∃ lo, lo = w5.heap.size := ⟨_, rfl⟩
  obtain ⟨hi, hhi⟩ : ∃ hi, hi = w6.heap.size := ⟨_, rfl⟩
  rw [← hlo, ← hhi] at hR
  have HR := Lib.hid hR
  have HLO : Hid (w.heap.size ≤ lo) := by
    have := HB5.out.size
    show w.heap.size ≤ lo
    omega
  have HLE := Lib.hid hlo
  have HB6 : Hid (Below lo w5 w6) := by rw [hlo]; exact hb6
  have hs6 : hi ≤ w6.heap.size := by omega
  clear hR hb6 hlo hhi hcv5 hcv1 hcv2 hne hln
  have hdec : ∀ k : Nat, k < l.length + m.length → k < (l ++ m).length := fun k hk => by rw [List.length_append]; exact hk
  have HDEC := Lib.hid hdec
  clear hdec
  go_wp2_with fail
  go_loopw [10] (fun i wr => ∃ k : Nat, k ≤ l.length + m.length ∧ i = .int .i64 k ∧ Rdr wr lo hi r (putAll (l ++ m)) (putAll ((l ++ m).take k)).length false ∧ Below lo w5 wr ∧ hi ≤ wr.heap.size) (fun i _ => l.length + m.length - (intOf i).toNat)
  case atStart => exact ⟨0, Nat.zero_le _, rfl, HR.out, HB6.out, hs6⟩
  case round =>
    clear HR HB6 hs6
    obtain ⟨k, hk, rfl, hR, hB, hs⟩ := hrel
    have hP : Pts wr A4 (l ++ m) := HP5.out.below (by have := HLE.out; rw [this] at hB; exact hB)
    have HR := Lib.hid hR
    have HBW := Lib.hid hB
    have HPW := Lib.hid hP
    have hlow : lo ≤ wr.heap.size := by have := hB.size; have := HLE.out; omega
    clear hB hR hP
    by_cases hlt : k < l.length + m.length
    · have hkl := HDEC.out k hlt
      obtain ⟨b, o, hAe, hbl, c0, c1, c2, c3⟩ := HPW.out.at_ hkl
      have hsn := putAll_snoc hkl
      have hat := putAll_at hkl
      have hpo : ((l ++ m)[k]).ok w := by
        rcases List.mem_append.1 (List.getElem_mem hkl) with h | h
        · exact HA.out.2 _ h
        · exact HB.out.2 _ h
      have hfit := (Fit.both HL.out HM.out).one hkl
      have hmeet : ∀ W, Rdr W lo hi r (putAll (l ++ m)) (putAll ((l ++ m).take k)).length false → hi ≤ W.heap.size → ((l ++ m)[k]).ok W → Calls Tryd.prog 32 #[.pointer (some ⟨r, 0, none⟩), ((l ++ m)[k]).val] W fun e w' =>
          e = .returned (.bool true) ∧ Rdr w' lo hi r (putAll (l ++ m)) (putAll ((l ++ m).take (k + 1))).length false ∧ Mod (Iv lo hi) W w' := fun W h1 h2 h3 => by
        have := meet_any lo hi r _ _ ((l ++ m)[k]) W h1 h2 h3 (fun h0 ad e h => by
          obtain ⟨g, o, e2, hg, _⟩ := Bytes.flat hpo.1 h0
          rw [e] at e2
          injection e2 with e2
          subst e2
          have := h.1
          have := HLO.out
          simp only at *
          omega) (by omega) _ hat
        rw [hsn, List.length_append]
        exact this
      have HM2 := fun W h1 h2 h3 => Lib.hid (hmeet W h1 h2 h3)
      have HOK : Hid (((l ++ m)[k]).ok wr) := HPW.out.2 _ (List.getElem_mem hkl)
      subst hAe
      clear hmeet hsn hat hpo hfit
      generalize (l ++ m)[k] = p at c0 c1 c2 c3 HM2 HOK
      unfold Pt.val at HM2
      by_cases hkl2 : k = l.length
      · have hleft : (putAll (l ++ m)).length - (putAll ((l ++ m).take k)).length = (putAll m).length := by
          rw [hkl2, List.take_left, putAll_append, List.length_append]
          omega
        have hb1 : (((k : Nat) : Int) == (l.length : Int)) = true := by rw [beq_iff_eq]; omega
        have hb2 : (k == l.length) = true := by rw [beq_iff_eq]; exact hkl2
        have hlf := rdr_left wr lo hi r _ _ false HR.out
        rw [hleft] at hlf
        have HLF := Lib.hid hlf
        clear hlf hleft hkl2 hkl
        go_wp2_with fail
        refine HLF.out.mono ?_
        rintro e w7 ⟨rfl, n7, hq7⟩
        have hb7 : Below wr.heap.size wr w7 := by rw [hq7]; exact below_drewN (Below.refl _ _) n7
        have HB7 := Lib.hid (below_call HBW.out hlow hb7)
        have HR7 := Lib.hid (HR.out.below hb7)
        have HOK7 := Lib.hid (HOK.out.below hb7)
        have e0 := (hb7.cell (p := ⟨b, o + k * 4, none⟩) hbl).trans c0
        have e1 := (hb7.cell (p := ⟨b, o + k * 4 + 1, none⟩) hbl).trans c1
        have e2 := (hb7.cell (p := ⟨b, o + k * 4 + 2, none⟩) hbl).trans c2
        have e3 := (hb7.cell (p := ⟨b, o + k * 4 + 3, none⟩) hbl).trans c3
        have hs7 : hi ≤ w7.heap.size := Nat.le_trans hs hb7.size
        clear hq7 hb7 c0 c1 c2 c3 HLF
        go_wp2_with fail
        refine (HM2 w7 HR7.out hs7 HOK7.out).out.mono ?_
        rintro e w8 ⟨rfl, hr8, hm8⟩
        have HR8 := Lib.hid hr8
        have HB8 := Lib.hid (Below.mod HB7.out hm8 (by have := HB7.out.size; have := HLE.out; omega) fun k hk => hk.1)
        have hs8 : hi ≤ w8.heap.size := Nat.le_trans hs7 hm8.size
        clear hr8 hm8
        go_wp2_with fail
        go_roundw
        case rel => exact ⟨k + 1, by omega, by go_num, HR8.out, HB8.out, hs8⟩
        case measure => simp [intOf]; omega
      · have hb1 : (((k : Nat) : Int) == (l.length : Int)) = false := by rw [beq_eq_false_iff_ne]; omega
        have hb2 : (k == l.length) = false := by rw [beq_eq_false_iff_ne]; exact hkl2
        clear hkl2 hkl
        go_wp2_with fail
        refine (HM2 wr HR.out hs HOK.out).out.mono ?_
        rintro e w8 ⟨rfl, hr8, hm8⟩
        have HR8 := Lib.hid hr8
        have HB8 := Lib.hid (Below.mod HBW.out hm8 hlow fun k hk => hk.1)
        have hs8 : hi ≤ w8.heap.size := Nat.le_trans hs hm8.size
        clear hr8 hm8
        go_wp2_with fail
        go_roundw
        case rel => exact ⟨k + 1, by omega, by go_num, HR8.out, HB8.out, hs8⟩
        case measure => simp [intOf]; omega
    · have hkl : k = (l ++ m).length := by rw [List.length_append]; omega
      have hR2 := HR.out
      rw [hkl, List.take_length] at hR2
      have HR2 := Lib.hid hR2
      clear hR2 hkl
      go_wp2_with fail
      have hlf := rdr_left wr lo hi r _ _ false HR2.out
      rw [Nat.sub_self] at hlf
      refine hlf.mono ?_
      clear hlf
      rintro e w7 ⟨rfl, n7, hq7⟩
      have hb7 : Below wr.heap.size wr w7 := by rw [hq7]; exact below_drewN (Below.refl _ _) n7
      have HB7 := Lib.hid (below_call HBW.out hlow hb7)
      have HR7 := Lib.hid (HR2.out.below hb7)
      have hs7 : lo ≤ w7.heap.size := by have := HB7.out.size; have := HLE.out; omega
      clear hq7 hb7
      have hend := rdr_end w7 lo hi r _ _ false HR7.out
      rw [show decide ((putAll (l ++ m)).length < (putAll (l ++ m)).length) = false from by simp] at hend
      have HE := Lib.hid hend
      clear hend
      go_wp2_with fail
      refine HE.out.mono ?_
      rintro e w8 ⟨rfl, hr8, hm8⟩
      have HB8 := Lib.hid (Below.mod HB7.out hm8 hs7 fun k hk => hk.1)
      clear hr8 hm8
      go_wp2_with fail
      refine (HW _).out.mono ?_
      rintro e w9 ⟨rfl, hb9⟩
      have HB9 := Lib.hid (below_call HB8.out (by have := HB8.out.size; have := HLE.out; omega) hb9)
      clear hb9
      go_wp2_with fail
      go_ret
      have hfin := HB9.out
      rw [HLE.out] at hfin
      exact ⟨rfl, below_call HB5.out HB5.out.size hfin⟩
namespace CodeTwo
theorem walk {w : World} (A : Option Addr) (l : List Pt) (c : Nat) (hA : Pts w A l) (h3 : l.length ≤ c) (h4 : c ≤ 9223372036854775807)
    (B : Option Addr) (m : List Pt) (e : Nat) (hB : Pts w B m) (h5 : m.length ≤ e) (h6 : e ≤ 9223372036854775807) :
    Calls Tryd.prog 7 #[.slice A l.length c, .slice B m.length e] w fun e w' => e = .returned (.bool true) ∧ Below w.heap.size w w' :=
  two_any A c l (Nat.le_trans h3 h4) B e m (Nat.le_trans h5 h6) w hA hB
end CodeTwo
end Go.Proofs.YtcklbhplhpohpaaDoor
