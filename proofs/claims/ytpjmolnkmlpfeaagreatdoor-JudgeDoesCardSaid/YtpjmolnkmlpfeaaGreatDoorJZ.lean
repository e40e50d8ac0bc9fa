/- Joined texts: JdA, JuRc, JdC. -/
import Derived.Test.YtpjmolnkmlpfeaaGreatDoorJY
import Derived.Test.YtpjmolnkmlpfeaaGreatDoorJX
import Derived.Shelf.Abstract
import Derived.Test.YtpjmolnkmlpfeaaGreatDoorJuE
/- Entries, rows of entries, models: whether they are the same. -/
set_option linter.unusedVariables false
set_option linter.unusedSimpArgs false
namespace Go.Proofs.YtpjmolnkmlpfeaaGreatDoor
set_option maxRecDepth 100000
open Go.RowKit

set_option maxHeartbeats 4000000 in
/-- The document's. -/
theorem r11same_any {K K' : Nat → Prop} {w : World} {a b : Ent} {va vb : Value} (ha : SlB K w va a.body) (hb : SlB K' w vb b.body) :
  Calls Tryz.prog 46 #[.agg (enL (a, va)).toArray, .agg (enL (b, vb)).toArray] w fun e w' => e = .returned (.bool (decide (a = b))) ∧ Below w.heap.size w w' := by
 obtain ⟨A, c, rfl, hA, _⟩ := ha
 obtain ⟨B, d, rfl, hB, _⟩ := hb
 have h1 : Blk ((w.alloc (.cells (enL (a, .slice A a.body.length c)).toArray 73)).alloc (.cells (enL (b, .slice B b.body.length d)).toArray 73)) w.heap.size 73 (enL (a, .slice A a.body.length c)).toArray := (Blk.new _ _ _).alloc _
 have h2 : Blk ((w.alloc (.cells (enL (a, .slice A a.body.length c)).toArray 73)).alloc (.cells (enL (b, .slice B b.body.length d)).toArray 73)) (w.heap.size + 1) 73 (enL (b, .slice B b.body.length d)).toArray := by
  have := Blk.new (w.alloc (.cells (enL (a, .slice A a.body.length c)).toArray 73)) 73 (enL (b, .slice B b.body.length d)).toArray
  rwa [alloc_size] at this
 have hT : Below w.heap.size w ((w.alloc (.cells (enL (a, .slice A a.body.length c)).toArray 73)).alloc (.cells (enL (b, .slice B b.body.length d)).toArray 73)) := ((Below.refl _ _).alloc (Nat.le_refl _) _).alloc (by simp) _
 have r1 := hA.below hT
 have r2 := hB.below hT
 have v1 := conv_str (P := Tryz.prog) (n := a.body.length) (c := c) Tryz.underlying23 Tryz.underlying5 Tryz.underlying9 r1 rfl
 have v2 := conv_str (P := Tryz.prog) (n := b.body.length) (c := d) Tryz.underlying23 Tryz.underlying5 Tryz.underlying9 r2 rfl
 have a0 := (h1.cell 0).trans (rfl : _ = some (Value.int .i64 a.prod))
 have a1 := (h1.cell 1).trans (rfl : _ = some (Value.int .u64 (a.seq : Int)))
 have a2 := (h1.cell 2).trans (rfl : _ = some (Value.slice A a.body.length c))
 have b0 := (h2.cell 0).trans (rfl : _ = some (Value.int .i64 b.prod))
 have b1 := (h2.cell 1).trans (rfl : _ = some (Value.int .u64 (b.seq : Int)))
 have b2 := (h2.cell 2).trans (rfl : _ = some (Value.slice B b.body.length d))
 have HT := Lib.hid hT
 clear h1 h2 hT hA hB r1 r2
 by_cases hp : a.prod = b.prod
 ·have p1 : (a.prod == b.prod) = true := beq_iff_eq.2 hp
  by_cases hs : a.seq = b.seq
  ·have s1 : (a.seq == b.seq) = true := beq_iff_eq.2 hs
   have s2 : ((a.seq : Int) == (b.seq : Int)) = true := beq_iff_eq.2 (by omega)
   by_cases hb : a.body = b.body
   ·have e8 : (a.body == b.body) = true := beq_iff_eq.2 hb
    have HR : Hid (decide (a = b) = true) := decide_eq_true (Ent.ext' hp hs hb)
    clear hp hs hb
    go_enter Tryz.func46, Tryz.ntmps46
    go_wp2_with fail
    go_ret
    exact ⟨by rw [HR.out]; rfl, HT.out⟩
   ·have e8 : (a.body == b.body) = false := beq_eq_false_iff_ne.2 hb
    have HR : Hid (decide (a = b) = false) := decide_eq_false fun e => hb (by rw [e])
    clear hp hs hb
    go_enter Tryz.func46, Tryz.ntmps46
    go_wp2_with fail
    go_ret
    exact ⟨by rw [HR.out]; rfl, HT.out⟩
  ·have s1 : (a.seq == b.seq) = false := beq_eq_false_iff_ne.2 hs
   have s2 : ((a.seq : Int) == (b.seq : Int)) = false := beq_eq_false_iff_ne.2 (by omega)
   have HR : Hid (decide (a = b) = false) := decide_eq_false fun e => hs (by rw [e])
   clear hp hs
   go_enter Tryz.func46, Tryz.ntmps46
   go_wp2_with fail
   go_ret
   exact ⟨by rw [HR.out]; rfl, HT.out⟩
 ·have p1 : (a.prod == b.prod) = false := beq_eq_false_iff_ne.2 hp
  have HR : Hid (decide (a = b) = false) := decide_eq_false fun e => hp (by rw [e])
  clear hp
  go_enter Tryz.func46, Tryz.ntmps46
  go_wp2_with fail
  go_ret
  exact ⟨by rw [HR.out]; rfl, HT.out⟩
/-- What was alike so far. -/
def logs (E : List EnV) : List Ent := E.map fun p : EnV => p.1
theorem logs_take {E F : List EnV} {k : Nat} (h1 : k < E.length) (h2 : k < F.length) (ht : (logs E).take k = (logs F).take k) (he : E[k].1 = F[k].1) : (logs E).take (k + 1) = (logs F).take (k + 1) :=
 same_more (by unfold logs; rw [List.length_map]; exact h1) (by unfold logs; rw [List.length_map]; exact h2) ht (by simp only [logs, List.getElem_map]; exact he)
theorem logs_ne {E F : List EnV} {k : Nat} (h1 : k < E.length) (h2 : k < F.length) (he : E[k].1 ≠ F[k].1) : logs E ≠ logs F := fun e => he (by
 have h3 : (logs E)[k]? = (logs F)[k]? := by rw [e]
 unfold logs at h3
 rw [List.getElem?_map, List.getElem?_map, List.getElem?_eq_getElem h1, List.getElem?_eq_getElem h2] at h3
 injection h3)
theorem logs_all {E F : List EnV} (hl : E.length = F.length) (h : (logs E).take E.length = (logs F).take E.length) : logs E = logs F := by
 rwa [List.take_of_length_le (by unfold logs; rw [List.length_map]; omega), List.take_of_length_le (by unfold logs; rw [List.length_map]; omega)] at h
set_option maxHeartbeats 4000000 in
theorem eqfunc_any {K K' : Nat → Prop} {w : World} {A B : Option Addr} {c d : Nat} {E F : List EnV} (hA : Reads w 3 A E.length (E.flatMap enL)) (hB : Reads w 3 B F.length (F.flatMap enL)) (hE : ∀ p ∈ E, SlB K w p.2 p.1.body) (hF : ∀ p ∈ F, SlB K' w p.2 p.1.body)
  (hbE : ∀ p ∈ E, p.1.body.length ≤ 1000000) (hbF : ∀ p ∈ F, p.1.body.length ≤ 1000000) (hn : E.length ≤ 100000) (hm : F.length ≤ 100000) :
  Calls Tryz.prog 44 #[.slice A E.length c, .slice B F.length d, .func (.func 45) #[] #[]] w fun e w' => e = .returned (.bool (decide (logs E = logs F))) ∧ Below w.heap.size w w' := by
 have eg : ∀ args w, (callFunc 45 args).run Tryz.prog w = .ok (.enter 45 args) w := enters_of Tryz.func45 (by kernel_rfl) rfl
 have HA := Lib.hid hA
 have HB := Lib.hid hB
 have HE := Lib.hid hE
 have HF := Lib.hid hF
 have HBE := Lib.hid hbE
 have HBF := Lib.hid hbF
 clear hA hB hE hF hbE hbF
 by_cases hl : E.length = F.length
 ·have hd : ((E.length : Int) != (F.length : Int)) = false := by simp [hl]
  have hd2 : (E.length != F.length) = false := by simp [hl]
  have HL := Lib.hid hl
  clear hl
  go_enter Tryz.func44, Tryz.ntmps44
  go_wp2_with fail
  clear hd hd2
  go_loopw [17] (fun i wr => ∃ k : Nat, k ≤ E.length ∧ i = .int .i64 k ∧ (logs E).take k = (logs F).take k ∧ Below w.heap.size w wr) (fun i _ => E.length - (intOf i).toNat)
  case atStart => exact ⟨0, by omega, rfl, rfl, Below.refl _ _⟩
  case round =>
   obtain ⟨k, hk, rfl, htk, hb⟩ := hrel
   have HT := Lib.hid hb
   have HTK := Lib.hid htk
   clear htk hb
   by_cases hlt : k < E.length
   ·have hlt2 : k < F.length := by have := HL.out; omega
    have hlt3 : (k : Int) < (F.length : Int) := by omega
    have hlt4 : (k : Int) < (E.length : Int) := by omega
    obtain ⟨b, o, rfl, hbl, c0, c1, c2⟩ := en_cells (HA.out.below HT.out) hlt
    obtain ⟨b', o', rfl, hbl', d0, d1, d2⟩ := en_cells (HB.out.below HT.out) hlt2
    have hx := HE.out _ (List.getElem_mem hlt)
    have hy := HF.out _ (List.getElem_mem hlt2)
    have hbx := HBE.out _ (List.getElem_mem hlt)
    have hby := HBF.out _ (List.getElem_mem hlt2)
    have HM := Lib.hid (logs_take hlt hlt2 HTK.out)
    have HN : Hid (E[k].1 ≠ F[k].1 → logs E ≠ logs F) := logs_ne hlt hlt2
    generalize E[k] = p at c0 c1 c2 hx hbx HM HN
    generalize F[k] = q at d0 d1 d2 hy hby HM HN
    obtain ⟨x, px⟩ := p
    obtain ⟨y, py⟩ := q
    obtain ⟨Dx, cx, ex, _⟩ := id hx
    obtain ⟨Dy, cy, ey, _⟩ := id hy
    simp only at ex ey c0 c1 c2 d0 d1 d2
    subst ex ey
    have HX := Lib.hid (hx.below HT.out)
    have HY := Lib.hid (hy.below HT.out)
    have HBX : Hid (x.body.length ≤ 1000000 ∧ y.body.length ≤ 1000000) := ⟨hbx, hby⟩
    have HBL : Hid (b' < wr.heap.size) := hbl'
    clear hx hy hbx hby
    obtain ⟨wo, hwo⟩ : ∃ wo, wo = wr.alloc (.cells #[.int .i64 x.prod, .int .u64 (x.seq : Int), .slice Dx x.body.length cx] 73) := ⟨_, rfl⟩
    have hbo : Below wr.heap.size wr wo := by rw [hwo]; exact below_new _ _
    have d0' := (hbo.cell (p := ⟨b', o' + k * 3, none⟩) hbl').trans d0
    have d1' := (hbo.cell (p := ⟨b', o' + k * 3 + 1, none⟩) hbl').trans d1
    have d2' := (hbo.cell (p := ⟨b', o' + k * 3 + 2, none⟩) hbl').trans d2
    rw [hwo] at d0' d1' d2'
    clear hbo hwo wo
    go_wp2_with fail
    have hbw : Below wr.heap.size wr ((wr.alloc (.cells #[.int .i64 x.prod, .int .u64 (x.seq : Int), .slice Dx x.body.length cx] 73)).alloc (.cells #[.int .i64 y.prod, .int .u64 (y.seq : Int), .slice Dy y.body.length cy] 73)) := ((Below.refl _ _).alloc (Nat.le_refl _) _).alloc (by simp) _
    refine (esame_any (a := x) (b := y) (HX.out.below hbw) (HY.out.below hbw) HBX.out.1 (Nat.le_trans HBX.out.2 (by decide))).mono ?_
    rintro e w1 ⟨rfl, hb1⟩
    have hb2 := hbw.trans (hb1.mono hbw.size)
    have HT2 := Tt HT hb2
    clear hbw hb1 hb2 d0' d1' d2' c0 c1 c2 d0 d1 d2 HX HY
    generalize hdd : decide (x = y) = dd
    cases dd with
    | true =>
     have HM2 := Lib.hid (HM.out (of_decide_eq_true hdd))
     clear hdd HM HN
     go_wp2_with fail
     go_roundw
     case rel => exact ⟨k + 1, hlt, by go_num, HM2.out, HT2.out⟩
     case measure => simp [intOf]; omega
    | false =>
     have HR : Hid (decide (logs E = logs F) = false) := decide_eq_false (HN.out (of_decide_eq_false hdd))
     clear hdd HM HN
     go_wp2_with fail
     go_ret
     exact ⟨by rw [HR.out]; rfl, HT2.out⟩
   ·obtain rfl : k = E.length := by omega
    have HR : Hid (decide (logs E = logs F) = true) := decide_eq_true (logs_all HL.out HTK.out)
    go_wp2_with fail
    go_ret
    exact ⟨by rw [HR.out]; rfl, HT.out⟩
 ·have hd : ((E.length : Int) != (F.length : Int)) = true := by simp only [bne_iff_ne, ne_eq]; omega
  have hd2 : (E.length != F.length) = true := by simp only [bne_iff_ne, ne_eq]; omega
  have HR : Hid (decide (logs E = logs F) = false) := decide_eq_false fun e => hl (by
   have := congrArg List.length e
   unfold logs at this
   rwa [List.length_map, List.length_map] at this)
  clear hl
  go_enter Tryz.func44, Tryz.ntmps44
  go_wp2_with fail
  go_ret
  exact ⟨by rw [HR.out]; rfl, Below.refl _ _⟩
set_option maxHeartbeats 4000000 in
theorem jsame_any {K K' : Nat → Prop} {w : World} {vl vc ul uc : Value} {M N : Mdl} (h : MdF K w vl vc M) (h' : MdF K' w ul uc N) (hn : M.log.length ≤ 100000) (hbl : ∀ e ∈ M.log, e.body.length ≤ 1000000) (hn' : N.log.length ≤ 100000) (hbl' : ∀ e ∈ N.log, e.body.length ≤ 1000000) :
  Calls Tryz.prog 22 #[.agg (mdL M vl vc).toArray, .agg (mdL N ul uc).toArray] w fun e w' => e = .returned (.bool (sameM M N)) ∧ Below w.heap.size w w' := by
 have HM0 := Lib.hid h
 have HN0 := Lib.hid h'
 have hvc := h.2.one
 have huc := h'.2.one
 obtain ⟨⟨A, c, E, rfl, hE, hr, hall, _⟩, _⟩ := id h
 obtain ⟨⟨B, d, F, rfl, hF, hr', hall', _⟩, _⟩ := id h'
 have hlE : M.log.length = E.length := by rw [← hE, List.length_map]
 have hlF : N.log.length = F.length := by rw [← hF, List.length_map]
 have HEF : Hid (logs E = M.log ∧ logs F = N.log) := ⟨hE, hF⟩
 have HB : Hid ((M.log.length ≤ 100000 ∧ (∀ e ∈ M.log, e.body.length ≤ 1000000)) ∧ (N.log.length ≤ 100000 ∧ (∀ e ∈ N.log, e.body.length ≤ 1000000))) := ⟨⟨hn, hbl⟩, ⟨hn', hbl'⟩⟩
 have HBE : Hid ((∀ p ∈ E, p.1.body.length ≤ 1000000) ∧ (∀ p ∈ F, p.1.body.length ≤ 1000000)) := ⟨fun p hp => hbl _ (by rw [← hE]; exact List.mem_map.2 ⟨p, hp, rfl⟩), fun p hp => hbl' _ (by rw [← hF]; exact List.mem_map.2 ⟨p, hp, rfl⟩)⟩
 have HR := Lib.hid hr
 have HR2 := Lib.hid hr'
 have HALL := Lib.hid hall
 have HAL2 := Lib.hid hall'
 have HLE : Hid (E.length ≤ 100000 ∧ F.length ≤ 100000) := ⟨by omega, by omega⟩
 have h1 : Blk ((w.alloc (.cells (mdL M (.slice A E.length c) vc).toArray 45)).alloc (.cells (mdL N (.slice B F.length d) uc).toArray 45)) w.heap.size 45 (mdL M (.slice A E.length c) vc).toArray := (Blk.new _ _ _).alloc _
 have h2 : Blk ((w.alloc (.cells (mdL M (.slice A E.length c) vc).toArray 45)).alloc (.cells (mdL N (.slice B F.length d) uc).toArray 45)) (w.heap.size + 1) 45 (mdL N (.slice B F.length d) uc).toArray := by
  have := Blk.new (w.alloc (.cells (mdL M (.slice A E.length c) vc).toArray 45)) 45 (mdL N (.slice B F.length d) uc).toArray
  rwa [alloc_size] at this
 have hT : Below w.heap.size w ((w.alloc (.cells (mdL M (.slice A E.length c) vc).toArray 45)).alloc (.cells (mdL N (.slice B F.length d) uc).toArray 45)) := ((Below.refl _ _).alloc (Nat.le_refl _) _).alloc (by simp) _
 have HT := Lib.hid hT
 have H1 := Lib.hid h1
 have H2 := Lib.hid h2
 clear h h' hn hbl hn' hbl' hE hF hr hr' hall hall' h1 h2 hT hlE hlF
 go_enter Tryz.func22, Tryz.ntmps22
 go_wp2_with fail
 generalize (w.alloc (.cells (mdL M (.slice A E.length c) vc).toArray 45)).alloc (.cells (mdL N (.slice B F.length d) uc).toArray 45) = w0 at HT H1 H2 ⊢
 have a0 := (H1.out.cell 0).trans (rfl : _ = some (Value.slice A E.length c))
 have a1 := (H1.out.cell 1).trans (rfl : _ = some (Value.int .u64 (M.trim : Int)))
 have b0 := (H2.out.cell 0).trans (rfl : _ = some (Value.slice B F.length d))
 have b1 := (H2.out.cell 1).trans (rfl : _ = some (Value.int .u64 (N.trim : Int)))
 by_cases ht : M.trim = N.trim
 ·have t0 : (M.trim == N.trim) = true := beq_iff_eq.2 ht
  have t1 : ((M.trim : Int) == (N.trim : Int)) = true := beq_iff_eq.2 (by omega)
  have HP : Hid (sameM M N = (decide (own3 M.cur = own3 N.cur) && decide (M.log = N.log))) := by show _ = _; unfold sameM; rw [decide_eq_true ht]; rfl
  clear ht
  have eg : ∀ args w, (callFunc 45 args).run Tryz.prog w = .ok (.enter 45 args) w := enters_of Tryz.func45 (by kernel_rfl) rfl
  generalize hcc : decide (own3 M.cur = own3 N.cur) = cc at HP
  have HCC := Lib.hid hcc
  clear hcc
  cases cc with
  | true =>
   refine PF.b (by kernel_rfl) (fun _ _ _ _ _ h => h) ?_
   refine PF.t 0 (by kernel_rfl) rfl (by intro u; go_simp; try rfl) ?_
   try simp only [pz]
   refine PF.m 1 (w.heap.size) (by kernel_rfl) rfl (fun hcu => by go_simp; try rfl) ?_
   try simp only [pz]
   refine PF.t 2 (by kernel_rfl) rfl (by intro u; go_simp; try rfl) ?_
   try simp only [pz]
   refine PF.m 3 ((w.heap.size+1)) (by kernel_rfl) rfl (fun hcu => by go_simp; try rfl) ?_
   try simp only [pz]
   refine PF.t 4 (by kernel_rfl) rfl (by intro u; go_simp; try rfl) ?_
   try simp only [pz]
   refine PF.t 5 (by kernel_rfl) rfl (by intro u; go_simp; try rfl) ?_
   try simp only [pz]
   refine PF.u 6 ((fun u => Blk u w.heap.size 45 (mdL M (.slice A E.length c) vc).toArray)) (by kernel_rfl) rfl (H1.out) (fun u hu => exec_load_blk rfl rfl hu Tryz.underlying45 rfl (info_model rfl)) ?_
   try simp only [pz]
   refine PF.u 9 ((fun u => Blk u (w.heap.size + 1) 45 (mdL N (.slice B F.length d) uc).toArray)) (by kernel_rfl) rfl (H2.out) (fun u hu => exec_load_blk rfl rfl hu Tryz.underlying45 rfl (info_model rfl)) ?_
   try simp only [pz]
   refine PF.e 7 (by kernel_rfl) rfl fun K hK => ?_
   go_simp
   refine (mown_any (X := fun _ => False) (HM0.out.below (HT.out.drew)) HB.out.1.1 HB.out.1.2 (fun _ h => h.elim)).mono ?_
   rintro e v7 ⟨⟨v', rfl, vl1, g1, rfl, hof⟩, hb⟩
   have hb := ((Below.refl w0.heap.size w0).drew).trans hb
   have hof1 := hof.1
   have HK1 := Lib.hid hof.2.1
   have H1 := Bb H1 hb
   have H2 := Bb H2 hb
   have HT := Tt HT hb
   have a0 := (H1.out.cell 0).trans (rfl : _ = some (Value.slice A E.length c))
   have b0 := (H2.out.cell 0).trans (rfl : _ = some (Value.slice B F.length d))
   clear hof hof1 hb
   refine hK (by repeat (first | exact PF.n | refine PF.l ?_ | refine PF.o (by decide +kernel) ?_ | refine PF.y (by exact H2.out) ?_)) ?_
   clear hK K
   try simp only [pz]
   refine PF.t 8 (by kernel_rfl) rfl (by intro u; go_simp; try rfl) ?_
   try simp only [pz]
   refine PF.e 10 (by kernel_rfl) rfl fun K hK => ?_
   go_simp
   refine (mown_any (X := fun _ => False) (HN0.out.below HT.out) HB.out.2.1 HB.out.2.2 (fun _ h => h.elim)).mono ?_
   rintro e v10 ⟨⟨v', rfl, vl2, g2, rfl, hof⟩, hb⟩
   have HK2 := Lib.hid hof.2.1
   have HK1 := Bb HK1 hb
   have H1 := Bb H1 hb
   have H2 := Bb H2 hb
   have HT := Tt HT hb
   have a0 := (H1.out.cell 0).trans (rfl : _ = some (Value.slice A E.length c))
   have b0 := (H2.out.cell 0).trans (rfl : _ = some (Value.slice B F.length d))
   clear hof hb
   refine hK (by repeat (first | exact PF.n | refine PF.l ?_ | refine PF.o (by decide +kernel) ?_ | refine PF.y (by first | rfl | assumption | go_simp) ?_)) ?_
   clear hK K
   try simp only [pz]
   refine PF.t 11 (by kernel_rfl) rfl (by intro u; go_simp; try rfl) ?_
   try simp only [pz]
   refine PF.e 12 (by kernel_rfl) rfl fun K hK => ?_
   go_simp
   refine (eqk_any (some ⟨g1, 0, none⟩) (some ⟨g2, 0, none⟩) 3 3 (own3 M.cur) (own3 N.cur) _ (blk_reads HK1.out rfl) (blk_reads HK2.out rfl) (by show 3 ≤ _; decide) (by show 3 ≤ _; decide)).mono ?_
   rintro e v12 ⟨rfl, q, rfl⟩
   rw [HCC.out]
   refine hK (by repeat (first | exact PF.n | refine PF.l ?_ | refine PF.o (by decide +kernel) ?_ | refine PF.y (by first | rfl | assumption | go_simp) ?_)) ?_
   clear hK K
   try simp only [pz]
   refine PF.t 13 (by kernel_rfl) rfl (by intro u; go_simp; try rfl) ?_
   try simp only [pz]
   refine PF.t 14 (by kernel_rfl) rfl (by intro u; go_simp; try rfl) ?_
   try simp only [pz]
   refine PF.t 15 (by kernel_rfl) rfl (by intro u; go_simp; try rfl) ?_
   try simp only [pz]
   refine PF.m 16 (w.heap.size) (by kernel_rfl) rfl (fun hcu => by go_simp; try rfl) ?_
   try simp only [pz]
   refine PF.t 17 (by kernel_rfl) rfl (by intro u; go_simp; try rfl) ?_
   try simp only [pz]
   refine PF.m 18 ((w.heap.size+1)) (by kernel_rfl) rfl (fun hcu => by go_simp; try rfl) ?_
   try simp only [pz]
   refine PF.e 19 (by kernel_rfl) rfl fun K hK => ?_
   go_simp
   refine (eqfunc_any (HR.out.below (below_drewN HT.out q)) (HR2.out.below (below_drewN HT.out q)) (fun p hp => (HALL.out p hp).below (below_drewN HT.out q)) (fun p hp => (HAL2.out p hp).below (below_drewN HT.out q)) HBE.out.1 HBE.out.2 HLE.out.1 HLE.out.2).mono ?_
   rintro e v19 ⟨rfl, hb⟩
   have HT := Lib.hid ((below_drewN HT.out q).trans (hb.mono HT.out.size))
   clear hb
   refine hK (by repeat (first | exact PF.n | refine PF.l ?_ | refine PF.o (by decide +kernel) ?_ | refine PF.y (by first | rfl | assumption | go_simp) ?_)) ?_
   clear hK K
   try simp only [pz]
   refine PF.t 20 (by kernel_rfl) rfl (by intro u; go_simp; try rfl) ?_
   try simp only [pz]
   refine PF.t 21 (by kernel_rfl) rfl (by intro u; go_simp; try rfl) ?_
   try simp only [pz]
   refine PF.d (by kernel_rfl) ?_
   go_wp2_with fail
   go_ret
   exact ⟨by rw [HP.out, HEF.out.1, HEF.out.2]; rfl, HT.out⟩
  | false =>
   refine PF.b (by kernel_rfl) (fun _ _ _ _ _ h => h) ?_
   refine PF.t 0 (by kernel_rfl) rfl (by intro u; go_simp; try rfl) ?_
   try simp only [pz]
   refine PF.m 1 (w.heap.size) (by kernel_rfl) rfl (fun hcu => by go_simp; try rfl) ?_
   try simp only [pz]
   refine PF.t 2 (by kernel_rfl) rfl (by intro u; go_simp; try rfl) ?_
   try simp only [pz]
   refine PF.m 3 ((w.heap.size+1)) (by kernel_rfl) rfl (fun hcu => by go_simp; try rfl) ?_
   try simp only [pz]
   refine PF.t 4 (by kernel_rfl) rfl (by intro u; go_simp; try rfl) ?_
   try simp only [pz]
   refine PF.t 5 (by kernel_rfl) rfl (by intro u; go_simp; try rfl) ?_
   try simp only [pz]
   refine PF.u 6 ((fun u => Blk u w.heap.size 45 (mdL M (.slice A E.length c) vc).toArray)) (by kernel_rfl) rfl (H1.out) (fun u hu => exec_load_blk rfl rfl hu Tryz.underlying45 rfl (info_model rfl)) ?_
   try simp only [pz]
   refine PF.u 9 ((fun u => Blk u (w.heap.size + 1) 45 (mdL N (.slice B F.length d) uc).toArray)) (by kernel_rfl) rfl (H2.out) (fun u hu => exec_load_blk rfl rfl hu Tryz.underlying45 rfl (info_model rfl)) ?_
   try simp only [pz]
   refine PF.e 7 (by kernel_rfl) rfl fun K hK => ?_
   go_simp
   refine (mown_any (X := fun _ => False) (HM0.out.below (HT.out.drew)) HB.out.1.1 HB.out.1.2 (fun _ h => h.elim)).mono ?_
   rintro e v7 ⟨⟨v', rfl, vl1, g1, rfl, hof⟩, hb⟩
   have hb := ((Below.refl w0.heap.size w0).drew).trans hb
   have HK1 := Lib.hid hof.2.1
   have H1 := Bb H1 hb
   have H2 := Bb H2 hb
   have HT := Tt HT hb
   clear hof hb
   refine hK (by repeat (first | exact PF.n | refine PF.l ?_ | refine PF.o (by decide +kernel) ?_ | refine PF.y (by exact H2.out) ?_)) ?_
   clear hK K
   try simp only [pz]
   refine PF.t 8 (by kernel_rfl) rfl (by intro u; go_simp; try rfl) ?_
   try simp only [pz]
   refine PF.e 10 (by kernel_rfl) rfl fun K hK => ?_
   go_simp
   refine (mown_any (X := fun _ => False) (HN0.out.below HT.out) HB.out.2.1 HB.out.2.2 (fun _ h => h.elim)).mono ?_
   rintro e v10 ⟨⟨v', rfl, vl2, g2, rfl, hof⟩, hb⟩
   have HK2 := Lib.hid hof.2.1
   have HK1 := Bb HK1 hb
   have HT := Tt HT hb
   clear hof hb
   refine hK (by repeat (first | exact PF.n | refine PF.l ?_ | refine PF.o (by decide +kernel) ?_ | refine PF.y (by first | rfl | assumption | go_simp) ?_)) ?_
   clear hK K
   try simp only [pz]
   refine PF.t 11 (by kernel_rfl) rfl (by intro u; go_simp; try rfl) ?_
   try simp only [pz]
   refine PF.e 12 (by kernel_rfl) rfl fun K hK => ?_
   go_simp
   refine (eqk_any (some ⟨g1, 0, none⟩) (some ⟨g2, 0, none⟩) 3 3 (own3 M.cur) (own3 N.cur) _ (blk_reads HK1.out rfl) (blk_reads HK2.out rfl) (by show 3 ≤ _; decide) (by show 3 ≤ _; decide)).mono ?_
   rintro e v12 ⟨rfl, q, rfl⟩
   rw [HCC.out]
   refine hK (by repeat (first | exact PF.n | refine PF.l ?_ | refine PF.o (by decide +kernel) ?_ | refine PF.y (by first | rfl | assumption | go_simp) ?_)) ?_
   clear hK K
   try simp only [pz]
   refine PF.t 13 (by kernel_rfl) rfl (by intro u; go_simp; try rfl) ?_
   try simp only [pz]
   refine PF.t 14 (by kernel_rfl) rfl (by intro u; go_simp; try rfl) ?_
   try simp only [pz]
   refine PF.s 15 (by kernel_rfl) rfl ?_
   refine PF.s 16 (by kernel_rfl) rfl ?_
   refine PF.s 17 (by kernel_rfl) rfl ?_
   refine PF.s 18 (by kernel_rfl) rfl ?_
   refine PF.k 19 (by kernel_rfl) rfl ?_
   try simp only [pz]
   refine PF.t 20 (by kernel_rfl) rfl (by intro u; go_simp; try rfl) ?_
   try simp only [pz]
   refine PF.t 21 (by kernel_rfl) rfl (by intro u; go_simp; try rfl) ?_
   try simp only [pz]
   refine PF.d (by kernel_rfl) ?_
   go_wp2_with fail
   go_ret
   exact ⟨by rw [HP.out]; rfl, by have h1 := HT.out; exact below_drewN h1 q⟩
 ·have t0 : (M.trim == N.trim) = false := beq_eq_false_iff_ne.2 ht
  have t1 : ((M.trim : Int) == (N.trim : Int)) = false := beq_eq_false_iff_ne.2 (by omega)
  have HP : Hid (sameM M N = false) := by show _ = _; unfold sameM; rw [decide_eq_false ht]; rfl
  clear ht
  refine PF.b (by kernel_rfl) (fun _ _ _ _ _ h => h) ?_
  refine PF.t 0 (by kernel_rfl) rfl (by intro u; go_simp; try rfl) ?_
  try simp only [pz]
  refine PF.m 1 (w.heap.size) (by kernel_rfl) rfl (fun hcu => by go_simp; try rfl) ?_
  try simp only [pz]
  refine PF.t 2 (by kernel_rfl) rfl (by intro u; go_simp; try rfl) ?_
  try simp only [pz]
  refine PF.m 3 ((w.heap.size+1)) (by kernel_rfl) rfl (fun hcu => by go_simp; try rfl) ?_
  try simp only [pz]
  refine PF.t 4 (by kernel_rfl) rfl (by intro u; go_simp; try rfl) ?_
  try simp only [pz]
  refine PF.t 5 (by kernel_rfl) rfl (by intro u; go_simp; try rfl) ?_
  try simp only [pz]
  refine PF.s 6 (by kernel_rfl) rfl ?_
  refine PF.s 9 (by kernel_rfl) rfl ?_
  refine PF.k 7 (by kernel_rfl) rfl ?_
  refine PF.s 8 (by kernel_rfl) rfl ?_
  refine PF.k 10 (by kernel_rfl) rfl ?_
  refine PF.s 11 (by kernel_rfl) rfl ?_
  refine PF.k 12 (by kernel_rfl) rfl ?_
  try simp only [pz]
  refine PF.t 13 (by kernel_rfl) rfl (by intro u; go_simp; try rfl) ?_
  try simp only [pz]
  refine PF.t 14 (by kernel_rfl) rfl (by intro u; go_simp; try rfl) ?_
  try simp only [pz]
  refine PF.s 15 (by kernel_rfl) rfl ?_
  refine PF.s 16 (by kernel_rfl) rfl ?_
  refine PF.s 17 (by kernel_rfl) rfl ?_
  refine PF.s 18 (by kernel_rfl) rfl ?_
  refine PF.k 19 (by kernel_rfl) rfl ?_
  try simp only [pz]
  refine PF.t 20 (by kernel_rfl) rfl (by intro u; go_simp; try rfl) ?_
  try simp only [pz]
  refine PF.t 21 (by kernel_rfl) rfl (by intro u; go_simp; try rfl) ?_
  try simp only [pz]
  refine PF.d (by kernel_rfl) ?_
  go_wp2_with fail
  go_ret
  exact ⟨by rw [HP.out]; rfl, HT.out.drew⟩
end Go.Proofs.YtpjmolnkmlpfeaaGreatDoor

/- The document's Cursor. -/
namespace Go.Proofs.YtpjmolnkmlpfeaaGreatDoor
set_option maxRecDepth 100000
open Go.RowKit

/-- A cursor's place. -/
def curS (M : Mdl) (s : Int) : Nat := if 1 ≤ s ∧ s ≤ 3 then M.cur.getD (s - 1).toNat 0 else 0
set_option maxHeartbeats 4000000 in
theorem rcursor_any {K : Nat → Prop} {w : World} {vl vc : Value} {M : Mdl} (h : SlU K w vc M.cur) (hv : vl.oneCell' = true) (s : Int) (hs : -9223372036854775808 ≤ s) :
  Calls Tryz.prog 33 #[.agg (mdL M vl vc).toArray, .int .i64 s] w fun e w' => e = .returned (.int .u64 (curS M s : Nat)) ∧ Below w.heap.size w w' := by
 obtain ⟨A, c, rfl, hr, h1, h2, _⟩ := h
 obtain ⟨n, hn⟩ : ∃ n, n = M.cur.length := ⟨_, rfl⟩
 rw [← hn] at hr ⊢
 have hB1 : Blk (w.alloc (.cells (mdL M vl (.slice A n c)).toArray 45)) w.heap.size 45 (mdL M vl (.slice A n c)).toArray := Blk.new _ _ _
 have HT := Lib.hid (below_new w (.cells (mdL M vl (.slice A n c)).toArray 45))
 have c2 := (hB1.cell 2).trans (rfl : _ = some (Value.slice A n c))
 have HR := Lib.hid hr
 have HN := Lib.hid hn
 clear hB1 hr hn
 by_cases hb : 1 ≤ s ∧ s ≤ 3 ∧ s ≤ n
 ·obtain ⟨k, hk, hk3⟩ : ∃ k : Nat, s = (k : Int) + 1 ∧ k < 3 := ⟨(s - 1).toNat, by omega, by omega⟩
  subst hk
  have hkn : k < n := by omega
  obtain ⟨b, o, rfl, hbl, hc⟩ := Reads.flat HR.out (by omega) (by decide)
  have hlt : k < M.cur.length := by rw [← HN.out]; exact hkn
  have hg : (M.cur.map u64v)[k]? = some (.int .u64 ((M.cur[k] : Nat) : Int)) := by rw [List.getElem?_map, List.getElem?_eq_getElem hlt]; rfl
  have hcell := (below_new w (.cells (mdL M vl (.slice (some ⟨b, o, none⟩) n c)).toArray 45)).cell (p := ⟨b, o + k, none⟩) hbl |>.trans (hc k _ hg)
  have HP : Hid (curS M ((k : Int) + 1) = M.cur[k]) := by
   show _ = _
   unfold curS
   rw [if_pos (by omega), show ((k : Int) + 1 - 1).toNat = k by omega, List.getD_eq_getElem?_getD, List.getElem?_eq_getElem hlt]
   rfl
  have d1 : decide ((k : Int) + 1 < 1) = false := decide_eq_false (by omega)
  have d2 : decide (3 < (k : Int) + 1) = false := decide_eq_false (by omega)
  have d3 : decide ((n : Int) < (k : Int) + 1) = false := decide_eq_false (by omega)
  have hw : IntKind.i64.wrap ((k : Int) + 1 - 1) = (k : Int) := by rw [IntKind.wrap_i64]; omega
  have hw1 : (k : Int) + 1 - 1 = (k : Int) := by omega
  have hw2 : IntKind.i64.wrap (k : Int) = (k : Int) := by rw [IntKind.wrap_i64]; omega
  have hx0 : (k : Int) < (n : Int) := by omega
  generalize M.cur[k] = x at hcell HP
  clear hb hc hg hs h1 h2
  go_enter Tryz.func33, Tryz.ntmps33
  go_wp2_with fail
  go_ret
  exact ⟨by rw [HP.out]; rfl, HT.out⟩
 ·have HP : Hid (curS M s = 0) := by
   show _ = _
   unfold curS
   by_cases h : 1 ≤ s ∧ s ≤ 3
   ·rw [if_pos h, List.getD_eq_getElem?_getD, List.getElem?_eq_none (by rw [← HN.out]; omega)]
    rfl
   ·rw [if_neg h]
  by_cases h5 : s < 1
  ·have d1 : decide (s < 1) = true := decide_eq_true h5
   clear hb hs h1 h2 h5
   go_enter Tryz.func33, Tryz.ntmps33
   go_wp2_with fail
   go_ret
   exact ⟨by rw [HP.out]; rfl, HT.out⟩
  ·have d1 : decide (s < 1) = false := decide_eq_false h5
   by_cases h6 : 3 < s
   ·have d2 : decide (3 < s) = true := decide_eq_true h6
    clear hb hs h1 h2 h5 h6
    go_enter Tryz.func33, Tryz.ntmps33
    go_wp2_with fail
    go_ret
    exact ⟨by rw [HP.out]; rfl, HT.out⟩
   ·have d2 : decide (3 < s) = false := decide_eq_false h6
    have d3 : decide ((n : Int) < s) = true := decide_eq_true (by omega)
    clear hb hs h1 h2 h5 h6
    go_enter Tryz.func33, Tryz.ntmps33
    go_wp2_with fail
    go_ret
    exact ⟨by rw [HP.out]; rfl, HT.out⟩
end Go.Proofs.YtpjmolnkmlpfeaaGreatDoor

/- The document's last; Own; Same. -/
namespace Go.Proofs.YtpjmolnkmlpfeaaGreatDoor
set_option maxRecDepth 100000
open Go.RowKit

/-- What last answers. -/
def lastS (M : Mdl) (p : Int) (k : Nat) : Nat := match lastK M.log p k with | none => 0 | some j => (M.log.getD j zEnt).seq
def lastA (M : Mdl) (p : Int) (k : Nat) : Nat := match lastK M.log p k with | none => 0 | some j => j
def lastH (M : Mdl) (p : Int) (k : Nat) : Bool := (lastK M.log p k).isSome
theorem last_later (M : Mdl) (p : Int) (k : Nat) : laterK M.log k (lastK M.log p k) = (!lastH M p k || decide (lastS M p k < (M.log.getD k zEnt).seq)) := by
 unfold lastH lastS
 cases lastK M.log p k with
 | none => rfl
 | some j => simp [laterK]
theorem last_yes {M : Mdl} {p : Int} {k : Nat} (h1 : (M.log.getD k zEnt).prod = p) (h2 : laterK M.log k (lastK M.log p k) = true) : lastS M p (k + 1) = (M.log.getD k zEnt).seq ∧ lastA M p (k + 1) = k ∧ lastH M p (k + 1) = true := by
 unfold lastS lastA lastH
 rw [lastK_succ, if_pos ⟨h1, h2⟩]
 exact ⟨rfl, rfl, rfl⟩
theorem last_no {M : Mdl} {p : Int} {k : Nat} (h : ¬ ((M.log.getD k zEnt).prod = p ∧ laterK M.log k (lastK M.log p k) = true)) : lastS M p (k + 1) = lastS M p k ∧ lastA M p (k + 1) = lastA M p k ∧ lastH M p (k + 1) = lastH M p k := by
 unfold lastS lastA lastH
 rw [lastK_succ, if_neg h]
 exact ⟨rfl, rfl, rfl⟩
set_option maxHeartbeats 8000000 in
theorem rlast_any {K : Nat → Prop} {w : World} {vl vc : Value} {M : Mdl} (h : SlE K w vl M.log) (hv : vc.oneCell' = true) (p : Int) (hn : M.log.length ≤ 100000) :
  Calls Tryz.prog 47 #[.agg (mdL M vl vc).toArray, .int .i64 p] w fun e w' => e = .returned (.tuple #[.int .u64 (lastS M p M.log.length : Nat), .int .u64 (lastA M p M.log.length : Nat), .bool (lastH M p M.log.length)]) ∧ Below w.heap.size w w' := by
 obtain ⟨A, c, E, rfl, hE, hr, hall, _⟩ := h
 have hlE : M.log.length = E.length := by rw [← hE, List.length_map]
 have hB1 : Blk (w.alloc (.cells (mdL M (.slice A E.length c) vc).toArray 45)) w.heap.size 45 (mdL M (.slice A E.length c) vc).toArray := Blk.new _ _ _
 have hT := below_new w (.cells (mdL M (.slice A E.length c) vc).toArray 45)
 rw [hlE] at hn ⊢
 have HR := Lib.hid (hr.below hT)
 have HALL := Lib.hid hall
 have HE := Lib.hid hE
 have HB := Lib.hid hB1
 have HT := Lib.hid hT
 clear hE hr hall hlE hB1 hT
 go_enter Tryz.func47, Tryz.ntmps47
 go_wp2_with fail
 generalize w.alloc (.cells (mdL M (.slice A E.length c) vc).toArray 45) = w1 at HR HB HT ⊢
 go_loopw [7, 8, 9, 10] (fun sv av hv iv wr => ∃ k : Nat, k ≤ E.length ∧ iv = .int .i64 k ∧ sv = .int .u64 (lastS M p k : Nat) ∧ av = .int .u64 (lastA M p k : Nat) ∧ hv = .bool (lastH M p k) ∧ Below w1.heap.size w1 wr) (fun _ _ _ i _ => E.length - (intOf i).toNat)
 case atStart => exact ⟨0, by omega, rfl, rfl, rfl, rfl, Below.refl _ _⟩
 case round =>
  obtain ⟨k, hk, rfl, rfl, rfl, rfl, hb⟩ := hrel
  obtain ⟨wr, rfl⟩ : ∃ wo : World, wo = wr := ⟨_, rfl⟩
  have m0 := ((HB.out.below hb HB.out.lt).cell 0).trans (rfl : _ = some (Value.slice A E.length c))
  have HW := Lib.hid hb
  clear hb
  generalize hsv : lastS M p k = sv
  generalize hav : lastA M p k = av
  generalize hhv : lastH M p k = hv
  have HV : Hid (lastS M p k = sv ∧ lastA M p k = av ∧ lastH M p k = hv) := ⟨hsv, hav, hhv⟩
  clear hsv hav hhv
  by_cases hlt : k < E.length
  ·obtain ⟨b, o, rfl, hbl, c0, c1, c2⟩ := en_cells (HR.out.below HW.out) hlt
   have hg := map_getD HE.out hlt
   obtain ⟨D, d, eD, _⟩ := HALL.out _ (List.getElem_mem hlt)
   rw [eD] at c2
   generalize E[k].1.body.length = nd at c2
   generalize E[k].1 = x at c0 c1 hg
   have HG := Lib.hid hg
   have hlti : (k : Int) < (E.length : Int) := by omega
   have hwk : IntKind.i64.wrap ((k : Int) + 1) = (k : Int) + 1 := by rw [IntKind.wrap_i64]; omega
   have hwu : IntKind.u64.wrap (k : Int) = (k : Int) := by rw [IntKind.wrap_u64]; omega
   have HY : Hid (x.prod = p → (!hv || decide (sv < x.seq)) = true → lastS M p (k + 1) = x.seq ∧ lastA M p (k + 1) = k ∧ lastH M p (k + 1) = true) := fun h1 h2 => by
    have h3 := last_yes (M := M) (p := p) (k := k) (by rw [HG.out]; exact h1) (by rw [last_later, HV.out.1, HV.out.2.2, HG.out]; exact h2)
    rw [HG.out] at h3
    exact h3
   have HZ : Hid (¬ (x.prod = p ∧ (!hv || decide (sv < x.seq)) = true) → lastS M p (k + 1) = sv ∧ lastA M p (k + 1) = av ∧ lastH M p (k + 1) = hv) := fun h => by
    have h3 := last_no (M := M) (p := p) (k := k) (by rw [last_later, HV.out.1, HV.out.2.2, HG.out]; exact h)
    rw [HV.out.1, HV.out.2.1, HV.out.2.2] at h3
    exact h3
   have HWN := Lib.hid (HW.out.trans ((below_new wr (.cells #[.int .i64 x.prod, .int .u64 (x.seq : Int), .slice D nd d] 73)).mono HW.out.size))
   have hbox : Blk (wr.alloc (.cells #[.int .i64 x.prod, .int .u64 (x.seq : Int), .slice D nd d] 73)) wr.heap.size 73 #[.int .i64 x.prod, .int .u64 (x.seq : Int), .slice D nd d] := Blk.new _ _ _
   have e0 := hbox.cell 0
   have e1 := hbox.cell 1
   clear hbox hg hbl eD
   by_cases hp : x.prod = p
   ·have p1 : (x.prod == p) = true := beq_iff_eq.2 hp
    cases hv with
    | false =>
     have HQ := Lib.hid (HY.out hp rfl)
     clear hp HY HZ
     go_wp2_with fail
     go_roundw
     case rel => exact ⟨k + 1, hlt, by go_num, by rw [HQ.out.1], by rw [HQ.out.2.1], by rw [HQ.out.2.2], HWN.out⟩
     case measure => simp [intOf]; omega
    | true =>
     by_cases hs : sv < x.seq
     ·have s0 : decide (sv < x.seq) = true := decide_eq_true hs
      have s1 : decide ((sv : Int) < (x.seq : Int)) = true := decide_eq_true (by omega)
      have HQ := Lib.hid (HY.out hp (by rw [s0]; rfl))
      clear hp hs HY HZ
      go_wp2_with fail
      go_roundw
      case rel => exact ⟨k + 1, hlt, by go_num, by rw [HQ.out.1], by rw [HQ.out.2.1], by rw [HQ.out.2.2], HWN.out⟩
      case measure => simp [intOf]; omega
     ·have s0 : decide (sv < x.seq) = false := decide_eq_false hs
      have s1 : decide ((sv : Int) < (x.seq : Int)) = false := decide_eq_false (by omega)
      have HQ := Lib.hid (HZ.out fun h => by have := h.2; rw [s0] at this; cases this)
      clear hp hs HY HZ
      go_wp2_with fail
      go_roundw
      case rel => exact ⟨k + 1, hlt, by go_num, by rw [HQ.out.1], by rw [HQ.out.2.1], by rw [HQ.out.2.2], HWN.out⟩
      case measure => simp [intOf]; omega
   ·have p1 : (x.prod == p) = false := beq_eq_false_iff_ne.2 hp
    have HQ := Lib.hid (HZ.out fun h => hp h.1)
    clear hp HY HZ
    go_wp2_with fail
    go_roundw
    case rel => exact ⟨k + 1, hlt, by go_num, by rw [HQ.out.1], by rw [HQ.out.2.1], by rw [HQ.out.2.2], HWN.out⟩
    case measure => simp [intOf]; omega
  ·obtain rfl : k = E.length := by omega
   go_wp2_with fail
   refine bodyPost_ret (results_tmp3 Tryz.results47 _ _ _) rfl ?_
   rw [HV.out.1, HV.out.2.1, HV.out.2.2]
   exact ⟨rfl, HT.out.trans (HW.out.mono HT.out.size)⟩
end Go.Proofs.YtpjmolnkmlpfeaaGreatDoor
