/- The law JudgeMade, walked. -/
import Derived.Test.YtpjmolnkmlpfeaaGreatDoorJuMb
import Derived.Test.YtpjmolnkmlpfeaaGreatDoorJuMc
import Derived.Test.YtpjmolnkmlpfeaaGreatDoorCliL
import Derived.Test.YtpjmolnkmlpfeaaGreatDoorOpenMd
namespace Go.Proofs.YtpjmolnkmlpfeaaGreatDoor
set_option linter.unusedVariables false
set_option linter.unusedSimpArgs false
set_option maxRecDepth 100000
open Go.RowKit

theorem zero_act (w : World) : (zeroValue 47).run Tryz.prog w = .ok (.agg (acL ⟨0, 0, zCal, nilV⟩).toArray) w := (zero_of_info (n := 11) (by kernel_rfl)).1 w
theorem info_act {cs : Array Value} (h : cs.size = 11) : (Tryz.prog.info? 47).map (·.size) = some cs.size := by rw [h]; kernel_rfl
theorem info_actL {vs : List Value} (h : vs.length = 11) : (Tryz.prog.info? 47).map (·.size) = some vs.length := by rw [h]; kernel_rfl
theorem ac_one {x : AcV} (h : x.v.oneCell' = true) : ∀ u ∈ (acL x).toArray.toList, u.oneCell' = true := by
  intro u hu
  have hu : u ∈ Value.int .i64 x.d :: .int .i64 x.i :: calL x.c x.v := by simpa [acL] using hu
  rcases List.mem_cons.1 hu with rfl | hu
  · rfl
  · rcases List.mem_cons.1 hu with rfl | hu
    · rfl
    · exact calL_one h u (by simpa using hu)
theorem act_call {w : World} {g : Nat} {t : TypeId} {x : AcV} (h : Blk w g t (acL x).toArray) : w.rangeAt g 2 (calL x.c x.v) := fun j v hv => by
  rw [h.cell, List.getElem?_toArray, acL, Nat.add_comm, List.getElem?_cons_succ, List.getElem?_cons_succ]
  exact hv
theorem dn_call {w : World} {g : Nat} {t : TypeId} {x : DnV} (h : Blk w g t (dnL x).toArray) : w.rangeAt g 0 (calL x.c x.vc) := fun j v hv => by
  rw [Nat.zero_add, h.cell, List.getElem?_toArray, dnL, List.getElem?_append_left (List.getElem?_eq_some_iff.1 hv).1]
  exact hv
theorem dn_put (D : DnV) (R : Rep) (vr : Value) : putL (dnL D).toArray 9 (repL R vr) = (dnL ⟨D.c, R, D.vc, vr⟩).toArray := by
  apply Array.ext_getElem?
  intro i
  rw [putL_get _ _ _ _ (by show 9 + 9 ≤ 18; omega), List.getElem?_toArray, List.getElem?_toArray, dnL, dnL]
  by_cases h : i < 9
  · rw [if_neg (by omega), List.getElem?_append_left (by show i < 9; exact h), List.getElem?_append_left (by show i < 9; exact h)]
  · rw [List.getElem?_append_right (by show 9 ≤ i; omega), List.getElem?_append_right (by show 9 ≤ i; omega)]
    show _ = (repL R vr)[i - 9]?
    by_cases h2 : i < 18
    · rw [if_pos ⟨by omega, by show i < 9 + 9; omega⟩]
    · rw [if_neg (fun h => h2 h.2), List.getElem?_eq_none (by show 9 ≤ i - 9; omega), List.getElem?_eq_none (by show 9 ≤ i - 9; omega)]
theorem dn_callR {w : World} {b o : Nat} {x : DnV} (h : w.rangeAt b o (dnL x)) : w.rangeAt b o (calL x.c x.vc) := fun j v hv => by
  refine h j v ?_
  rw [dnL, List.getElem?_append_left (List.getElem?_eq_some_iff.1 hv).1]
  exact hv
theorem dn_repR {w : World} {b o : Nat} {x : DnV} (h : w.rangeAt b o (dnL x)) : w.rangeAt b (o + 9) (repL x.r x.vr) := fun j v hv => by
  have := h (9 + j) v (by
    rw [dnL, List.getElem?_append_right (by show 9 ≤ 9 + j; omega)]
    show (repL x.r x.vr)[9 + j - 9]? = _
    rw [Nat.add_sub_cancel_left]
    exact hv)
  rwa [← Nat.add_assoc] at this
def z16 : Array Value := ((List.replicate 16 0).map u64v).toArray
theorem dn_oneA {x : DnV} (h1 : x.vc.oneCell' = true) (h2 : x.vr.oneCell' = true) : ∀ u ∈ (dnL x).toArray.toList, u.oneCell' = true := fun u hu => dn_one h1 h2 u (by simpa using hu)
theorem repL_oneL {R : Rep} {v : Value} (h : v.oneCell' = true) : ∀ u ∈ repL R v, u.oneCell' = true := fun u hu => repL_one (R := R) h u (by simpa using hu)
theorem make16 (w : World) : (Instr.makeSlice 43 (.int .i64 16) (.int .i64 16)).run Tryz.prog w = .ok (.slice (some ⟨w.heap.size, 0, none⟩) 16 16) (w.alloc (.cells z16 22)) := by kernel_rfl
theorem i64_lowJ (n : Int) : bits .and .i64 n 65535 = n % 65536 := by
  have h1 : (BitVec.ofInt 64 n &&& BitVec.ofInt 64 65535).toNat = (BitVec.ofInt 64 n).toNat % 65536 := by
    rw [BitVec.toNat_and, show (BitVec.ofInt 64 65535).toNat = 65535 by decide]
    exact Nat.and_two_pow_sub_one_eq_mod _ 16
  show IntKind.i64.wrap ((BitVec.ofInt 64 n &&& BitVec.ofInt 64 65535).toNat : Int) = _
  rw [h1, IntKind.wrap_i64, BitVec.toNat_ofInt]
  omega
/-- A row of one's own that is not empty. -/
theorem own_someD {w : World} {B : Nat} {A : Option Addr} {n c : Nat} {L : List DnV} (h : OwD B w (.slice A n c) L) (h0 : 0 < L.length) : ∃ g, A = some ⟨g, 0, none⟩ := by
  rcases h.2 with ⟨e, e2⟩ | ⟨g, c, cur, e, hg, _⟩
  · omega
  · injection e with e
    exact ⟨g, e⟩
theorem own_rangeD {w : World} {B g n c : Nat} {L : List DnV} (h : OwD B w (.slice (some ⟨g, 0, none⟩) n c) L) (hn : n = L.length) {k : Nat} (hk : k < L.length) : w.rangeAt g (k * 18) (dnL L[k]) := by
  subst hn
  obtain ⟨b, o, e, hb, hr⟩ := rows_range dnL_len (by decide) (Reads.of_own h) hk
  injection e with e
  injection e with e1 e2
  subst e1 e2
  rw [Nat.zero_add] at hr
  exact hr
theorem reads_takeD {w : World} {A : Option Addr} {n : Nat} {L : List DnV} (hr : Reads w 18 A n (L.flatMap dnL)) (hn : n = L.length) {q : Nat} (hq : q ≤ n) : Reads w 18 A q ((L.take q).flatMap dnL) := by
  subst hn
  refine ⟨by rw [flatD_len, List.length_take]; congr 1; omega, fun h0 => ?_⟩
  obtain ⟨ad, e, hb, hc⟩ := hr.2 (by omega)
  refine ⟨ad, e, hb, fun j u hu => hc j u ?_⟩
  have e2 : L.flatMap dnL = (L.take q).flatMap dnL ++ (L.drop q).flatMap dnL := by rw [← List.flatMap_append, List.take_append_drop]
  rw [e2, List.getElem?_append_left (List.getElem?_eq_some_iff.1 hu).1]
  exact hu
theorem reads_dropD {w : World} {A : Option Addr} {n cap : Nat} {L : List DnV} (hr : Reads w 18 A n (L.flatMap dnL)) (hn : n = L.length) {q : Nat} (hq : q ≤ n) (hc : n ≤ cap) : Reads w 18 (if cap = q then A else A.map (·.add (q * 18))) (n - q) ((L.drop q).flatMap dnL) := by
  subst hn
  have := Reads.cut hr hq hc
  have e2 : L.flatMap dnL = (L.take q).flatMap dnL ++ (L.drop q).flatMap dnL := by rw [← List.flatMap_append, List.take_append_drop]
  have e3 : (L.flatMap dnL).drop (q * 18) = (L.drop q).flatMap dnL := by
    have h4 : ((L.take q).flatMap dnL).length = q * 18 := by rw [flatD_len, List.length_take, Nat.min_eq_left hq]
    rw [e2, ← h4, List.drop_left]
  rwa [e3] at this
theorem reads_drop0 {w : World} {g n cap : Nat} {L : List DnV} (hr : Reads w 18 (some ⟨g, 0, none⟩) n (L.flatMap dnL)) (hn : n = L.length) {q : Nat} (hq : q ≤ n) (hc : n ≤ cap) : Reads w 18 (if cap = q then some ⟨g, 0, none⟩ else some ⟨g, q * 18, none⟩) (n - q) ((L.drop q).flatMap dnL) := by
  have h := reads_dropD hr hn hq hc
  rwa [show ((some ⟨g, 0, none⟩ : Option Addr).map (·.add (q * 18))) = some ⟨g, q * 18, none⟩ from by show some (Addr.add ⟨g, 0, none⟩ (q * 18)) = _; rw [add_flat, Nat.zero_add]] at h
/-- What the loop keeps. -/
def MadS (w : World) (B g6 gn k : Nat) (hv ov ev : Value) (wr : World) : Prop :=
  ∃ nx H O E m vl vc, MadI k nx (H.map fun x : NtV => x.n) m (O.map fun x : DnV => x.c) (E.map fun x : DnV => (x.c, x.r)) ∧ MadM B wr hv ov ev H O E m vl vc ∧ Blk wr g6 45 (mdL m vl vc).toArray ∧ Blk wr gn 22 (nx.map u64v).toArray ∧ Below w.heap.size w wr ∧ B ≤ wr.heap.size
theorem nt_of {B : Nat} {w : World} {hv ov ev : Value} {H : List NtV} {O E : List DnV} {m : Mdl} {vl vc : Value} (h : MadM B w hv ov ev H O E m vl vc) : ∃ K, SlH K w hv (H.map fun x : NtV => x.n) := ⟨_, h.oh.slh h.sh⟩
namespace JudgeMade
set_option maxRecDepth 100000 in
set_option maxHeartbeats 32000000 in
theorem walk {w : World} (A : Option Addr) (l : List AcV) (c : Nat) (hr : Reads w 11 A l.length (l.flatMap acL)) (h1 : l.length ≤ c) (h2 : c ≤ 9223372036854775807) (hin : ∀ x ∈ l, AcIn w x) :
    Calls Tryz.prog 4 #[.slice A l.length c] w fun e w' => e = .returned (.bool true) ∧ Below w.heap.size w w' := by
  have HR := Lib.hid hr
  have HIN := Lib.hid hin
  have haw : ∀ w5, Below w.heap.size w w5 → Calls Tryz.prog 9 #[] w5 fun e w' => e = .returned (.bool true) ∧ Below w.heap.size w w' := fun w2 h2 => (awake_any w2).mono fun e w' ⟨h1, h3⟩ => ⟨h1, h2.trans (h3.mono h2.size)⟩
  have HAW := Lib.hid haw
  have hlc : l.length ≤ 9223372036854775807 := by omega
  clear haw hr hin h1 h2
  by_cases hbig : 150 < l.length
  · have d1 : decide (150 < l.length) = true := decide_eq_true hbig
    have d2 : decide ((150 : Int) < (l.length : Int)) = true := decide_eq_true (by omega)
    clear hbig
    go_enter Tryz.func4, Tryz.ntmps4
    go_wp2_with fail
    refine (HAW.out w (Below.refl _ _)).mono ?_
    rintro e w3 ⟨rfl, hb⟩
    go_wp2_with fail
    go_ret
    exact ⟨rfl, hb⟩
  have d1 : decide (150 < l.length) = false := decide_eq_false hbig
  have d2 : decide ((150 : Int) < (l.length : Int)) = false := decide_eq_false (by omega)
  have hn : l.length ≤ 150 := by omega
  clear hbig hlc
  go_enter Tryz.func4, Tryz.ntmps4
  go_wp2_with (refine wpList_build0 rfl rfl (build_mdl _) ?_; refine wpList_alloc_blk rfl (ty := 45) rfl zero_model ?_; rintro g6 w1 hg6 hB6 hb6; refine Hid.out ?_)
  refine Lib.hid ?_
  refine wpList_store_blk rfl (ty := 45) rfl (g := g6) (cs := (mdL zMdl nilV nilV).toArray) rfl rfl hB6 rfl (info_model rfl) (mdL_one rfl rfl) ?_
  rintro w2 hB62 hm6
  have HT2 : Hid (Below w.heap.size w w2) := hb6.trans (hm6.to_below hb6.size fun b hb e => by omega)
  have HG6 : Hid (w.heap.size = g6) := hg6
  have HB6 := Lib.hid hB62
  have hmk := make16
  clear d1 d2 hg6 hB6 hb6 hB62 hm6
  go_wp2_with fail
  have hb6lt := HB6.out.lt
  have HBN : Hid (Blk (w2.alloc (.cells z16 22)) w2.heap.size 22 ((List.replicate 16 0).map u64v).toArray) := Blk.new _ _ _
  have HB6 := Lib.hid (HB6.out.below (below_new w2 (.cells z16 22)) HB6.out.lt)
  have HT3 : Hid (Below w.heap.size w (w2.alloc (.cells z16 22))) := HT2.out.trans ((below_new _ _).mono HT2.out.size)
  have HGN : Hid (g6 < w2.heap.size ∧ w2.heap.size < (w2.alloc (.cells z16 22)).heap.size ∧ w.heap.size ≤ g6) := ⟨hb6lt, HBN.out.lt, by have := HG6.out; omega⟩
  clear hmk HT2 HG6 hb6lt
  generalize hgn : w2.heap.size = gn at HBN HGN ⊢
  generalize w2.alloc (.cells z16 22) = w3 at HBN HB6 HT3 HGN ⊢
  clear hgn
  obtain ⟨B, hB⟩ : ∃ B, B = w3.heap.size := ⟨_, rfl⟩
  have HGB : Hid (g6 < gn ∧ gn < B ∧ w.heap.size ≤ g6) := by rw [hB]; exact HGN.out
  have HS0 : Hid (MadS w B g6 gn 0 (.slice none 0 0) (.slice none 0 0) (.slice none 0 0) w3) := ⟨List.replicate 16 0, [], [], [], zMdl, nilV, nilV, MadI.zero, ⟨World.ownsRow_nil _ _ _ _, World.ownsRow_nil _ _ _ _, World.ownsRow_nil _ _ _ _, (fun b e => by cases e), (fun b e => by cases e), (fun b e => by cases e), (fun x h => by cases h), (fun x h => by cases h), (fun x h => by cases h), ⟨SlE.nil _ _, SlU.nil _ _⟩⟩, HB6.out, HBN.out, HT3.out, by omega⟩
  clear HBN HB6 HT3 HGN hB
  go_loopw [3, 4, 5, 8] (fun hv ov ev iv wr => ∃ k : Nat, k ≤ l.length ∧ iv = .int .i64 k ∧ MadS w B g6 gn k hv ov ev wr) (fun _ _ _ i _ => l.length - (intOf i).toNat)
  case atStart => exact ⟨0, by omega, rfl, HS0.out⟩
  case round =>
    obtain ⟨k, hk, rfl, hS⟩ := hrel
    obtain ⟨wr, rfl⟩ : ∃ wo : World, wo = wr := ⟨_, rfl⟩
    obtain ⟨nx, H, O, E, m, vl, vc, hI, hM, hB6, hBn, hT, hBs⟩ := hS
    obtain ⟨Ah, ch, rfl, _, _⟩ := own_slice hM.oh
    obtain ⟨Ao, co, rfl, hco, _⟩ := own_slice hM.oo
    obtain ⟨Ae, ce, rfl, hce, _⟩ := own_slice hM.oe
    have HI := Lib.hid hI
    have HM := Lib.hid hM
    have HB6 := Lib.hid hB6
    have HBN := Lib.hid hBn
    have HT := Lib.hid hT
    have HBS := Lib.hid hBs
    have HCO : Hid (O.length ≤ co) := hco
    have HCE : Hid (E.length ≤ ce) := hce
    clear hI hM hB6 hBn hT hBs HS0 hco hce
    by_cases hlt : k < l.length
    · obtain ⟨b, o, rfl, hbl, hrg⟩ := rows_range acL_len (by decide) (HR.out.below (HT.out.mono (Nat.le_refl _))) hlt
      have hxi := HIN.out _ (List.getElem_mem hlt)
      generalize l[k] = x at hrg hxi
      have hone : x.v.oneCell' = true := hxi.v.one
      have HXI := Lib.hid hxi
      have HRG := Lib.hid hrg
      have hlti : (k : Int) < (l.length : Int) := by omega
      have hwk : IntKind.i64.wrap ((k : Int) + 1) = (k : Int) + 1 := by rw [IntKind.wrap_i64]; omega
      clear hrg hxi hbl
      go_wp2_with (refine wpList_load_rg rfl (ty := 47) rfl (vs := acL x) rfl HRG.out Tryz.underlying47 rfl (info_actL rfl) ?_; refine wpList_alloc_blk rfl (ty := 47) rfl zero_act ?_; rintro g9 w1 hg9 hB9 hb9; refine Hid.out ?_)
      refine Lib.hid ?_
      refine wpList_store_blk rfl (ty := 47) rfl (g := g9) (cs := (acL x).toArray) rfl rfl hB9 rfl (info_act rfl) (ac_one hone) ?_
      rintro w2 hB92 hm9
      have HG9 : Hid (B ≤ g9) := by have h1 : wr.heap.size = g9 := hg9; have := HBS.out; show _ ≤ _; omega
      have hb2 : Below wr.heap.size wr w2 := hb9.trans (hm9.to_below hb9.size fun b hb e => by omega)
      have HM := Lib.hid (HM.out.below hb2)
      have HB6 := Lib.hid (HB6.out.below hb2 HB6.out.lt)
      have HBN := Lib.hid (HBN.out.below hb2 HBN.out.lt)
      have HT := Lib.hid (HT.out.trans (hb2.mono HT.out.size))
      have HBS : Hid (B ≤ w2.heap.size) := Nat.le_trans HBS.out hb2.size
      have H9 := Lib.hid hB92
      have c0 := (H9.out.cell 0).trans (rfl : _ = some (Value.int .i64 x.d))
      have c1 := (H9.out.cell 1).trans (rfl : _ = some (Value.int .i64 x.i))
      have HSK : Hid (∀ wz, Below w2.heap.size w2 wz → MadS w B g6 gn (k + 1) (.slice Ah H.length ch) (.slice Ao O.length co) (.slice Ae E.length ce) wz) := fun wz hz => ⟨nx, H, O, E, m, vl, vc, HI.out.more, HM.out.below hz, HB6.out.below hz HB6.out.lt, HBN.out.below hz HBN.out.lt, HT.out.trans (hz.mono HT.out.size), Nat.le_trans HBS.out hz.size⟩
      have hk150 : k ≤ 150 := by omega
      clear hb2 hB9 hb9 hg9 hB92 hm9 hone HRG
      by_cases q0 : x.d = 0
      · have p0 : (x.d == 0) = true := beq_iff_eq.2 q0
        have HB6m := HB6
        have HDN : Hid (∀ b, w2.heap.size ≤ b → Dat B (.slice Ah H.length ch) (.slice Ao O.length co) (.slice Ae E.length ce) b) := fun b hb => HM.out.dat hb HBS.out
        have HOG : Hid (∀ b, (Value.slice Ah H.length ch).ownBlock = some b → ¬ w2.heap.size ≤ b) := fun b hb h => by have := HM.out.lt_h hb; omega
        clear q0
        go_wp2_with (refine wpList_load_rg rfl (ty := 25) rfl (vs := calL x.c x.v) rfl (act_call H9.out) Tryz.underlying25 rfl (infoj_call9 rfl) ?_; refine Hid.out ?_)
        refine Lib.hid ?_
        go_wp2_with fail
        refine (rowncall_any (HXI.out.v.below HT.out) HXI.out.b).mono ?_
        rintro e w3 ⟨⟨v', rfl, hsl⟩, hb3⟩
        obtain ⟨A3, c3, e3, _⟩ := id hsl
        subst e3
        go_wp2_with (refine wpList_alloc_blk rfl (ty := 25) rfl zero_call ?_; rintro g10 w4 hg10 hB10 hb10; refine Hid.out ?_)
        refine Lib.hid ?_
        refine wpList_store_blk rfl (ty := 25) rfl (g := g10) (cs := (calL x.c (.slice A3 x.c.body.length c3)).toArray) rfl rfl hB10 rfl (info_call rfl) (calL_one rfl) ?_
        rintro w5 hB11 hm11
        have hb5 : Below w2.heap.size w2 w5 := (hb3.trans (hb10.mono hb3.size)).trans (hm11.to_below (Nat.le_trans hb3.size hb10.size) fun b hb e => by have := hb3.size; omega)
        have HSL : Hid (SlB (fun b => w2.heap.size ≤ b ∧ b < g10) w5 (.slice A3 x.c.body.length c3) x.c.body) := ((hsl.weak (K' := fun b => w2.heap.size ≤ b ∧ b < g10) fun b h1 h2 => ⟨h2, by omega⟩).below hb10).mod hm11 fun b hb e => by omega
        have HG10 : Hid (w2.heap.size ≤ g10 ∧ gn ≠ g10 ∧ g6 ≠ g10) := by
          have h1 := hb3.size
          have h2 := HBS.out
          have h3 := HGB.out
          show _ ∧ _
          omega
        have H10 := Lib.hid hB11
        have HB5 := Lib.hid hb5
        have HFIT : Hid (CalOk x.c) := HXI.out.ok
        obtain ⟨C, hC⟩ : ∃ C, C = x.c := ⟨_, rfl⟩
        rw [← hC] at H10 HSL HFIT
        rw [← hC]
        obtain ⟨n, hnb⟩ : ∃ n, n = C.body.length := ⟨_, rfl⟩
        have HNB := Lib.hid hnb
        rw [← hnb] at H10 HSL
        have y8 := (H10.out.cell 8).trans (rfl : _ = some (Value.slice A3 n c3))
        have y0 := (H10.out.cell 0).trans (rfl : _ = some (Value.int .i64 C.cl))
        clear hb3 hg10 hB10 hb10 hB11 hm11 hb5 hsl hC hnb c0 c1 p0 H9
        by_cases hlong : 1000 < n
        · have d1 : decide (1000 < n) = true := decide_eq_true hlong
          have d2 : decide ((1000 : Int) < (n : Int)) = true := decide_eq_true (by omega)
          clear hlong
          as_aux_lemma =>
            go_wp2_with fail
            go_roundw
            case rel => exact ⟨k + 1, hlt, by go_num, HSK.out _ HB5.out⟩
            case measure => simp [intOf]; omega
        have d1 : decide (1000 < n) = false := decide_eq_false hlong
        have d2 : decide ((1000 : Int) < (n : Int)) = false := decide_eq_false (by omega)
        by_cases hc1 : C.cl < 1
        · have d3 : decide (C.cl < 1) = true := decide_eq_true hc1
          clear hc1 hlong
          as_aux_lemma =>
            go_wp2_with fail
            go_roundw
            case rel => exact ⟨k + 1, hlt, by go_num, HSK.out _ HB5.out⟩
            case measure => simp [intOf]; omega
        have d3 : decide (C.cl < 1) = false := decide_eq_false hc1
        by_cases hc2 : 15 < C.cl
        · have d4 : decide (15 < C.cl) = true := decide_eq_true hc2
          clear hc2 hc1 hlong
          as_aux_lemma =>
            go_wp2_with fail
            go_roundw
            case rel => exact ⟨k + 1, hlt, by go_num, HSK.out _ HB5.out⟩
            case measure => simp [intOf]; omega
        have d4 : decide (15 < C.cl) = false := decide_eq_false hc2
        obtain ⟨j, hj, hj1, hj2⟩ : ∃ j : Nat, C.cl = (j : Int) ∧ 1 ≤ j ∧ j ≤ 15 := ⟨C.cl.toNat, by omega, by omega, by omega⟩
        have HJ := Lib.hid hj
        have HN1 : Hid (n ≤ 1000) := by show _ ≤ _; omega
        rw [hj] at y0 d3 d4
        clear hj hc1 hc2 hlong
        go_wp2_with fail
        clear d1 d2 d3 d4 y8
        have hjn : j < nx.length := by rw [HI.out.nxl]; omega
        have x0 := cur_cell (HBN.out.below HB5.out HBN.out.lt) hjn
        obtain ⟨n0, hn0⟩ : ∃ n0, n0 = nx.getD j 0 := ⟨_, rfl⟩
        have hn0k : n0 ≤ k := by rw [hn0]; exact HI.out.nxb j
        rw [← hn0] at x0
        have HN0 := Lib.hid hn0
        have HJN := Lib.hid hjn
        have hw0 : IntKind.u64.wrap ((n0 : Int) + 1) = (n0 : Int) + 1 := by rw [IntKind.wrap_u64]; omega
        have hj16 : (j : Int) < 16 := by omega
        have hj16n : j < 16 := by omega
        have y1 := (H10.out.cell 1).trans (rfl : _ = some (Value.int .u64 (C.inc : Int)))
        have z1 := H10.out.free 1
        clear hn0 hjn
        refine PF.pf_begin (by kernel_rfl) ?_
        refine PF.pf_take0 0 (by kernel_rfl) rfl (fun _ _ _ _ _ h => h) (by kernel_rfl) (fun u => by go_simp; try rfl) ?_
        try simp only [Act.put, pz0, pz1, pz2]
        refine PF.pf_take0 1 (by kernel_rfl) rfl (fun _ _ _ _ _ h => h) (by kernel_rfl) (fun u => by go_simp; try rfl) ?_
        try simp only [Act.put, pz0, pz1, pz2]
        refine PF.pf_take1 2 (PF.Same (g10) _) (by kernel_rfl) rfl (fun _ _ _ _ _ h => h) (by kernel_rfl) (PF.Same.refl _ _) (fun u hu => by have hcu := hu.cell; go_simp; try rfl) ?_
        try simp only [Act.put, pz0, pz1, pz2]
        refine PF.pf_take0 3 (by kernel_rfl) rfl (fun _ _ _ _ _ h => h) (by kernel_rfl) (fun u => by go_simp; try rfl) ?_
        try simp only [Act.put, pz0, pz1, pz2]
        refine PF.pf_take1 4 (PF.Same (gn) _) (by kernel_rfl) rfl (fun _ _ _ _ _ h => h) (by kernel_rfl) (PF.Same.refl _ _) (fun u hu => by have hcu := hu.cell; go_simp; try rfl) ?_
        try simp only [Act.put, pz0, pz1, pz2]
        refine PF.pf_take0 5 (by kernel_rfl) rfl (fun _ _ _ _ _ h => h) (by kernel_rfl) (fun u => by go_simp; try rfl) ?_
        try simp only [Act.put, pz0, pz1, pz2]
        refine PF.pf_take0 6 (by kernel_rfl) rfl (fun _ _ _ _ _ h => h) (by kernel_rfl) (fun u => by go_simp; try rfl) ?_
        try simp only [Act.put, pz0, pz1, pz2]
        refine PF.pf_exec 7 (by kernel_rfl) rfl (by kernel_rfl) (fun K hK => ?_)
        go_simp
        have H10 := Lib.hid (H10.out.put 1 (.int .u64 1))
        have y2 := (H10.out.cell 2).trans (rfl : _ = some (Value.int .u64 (C.n : Int)))
        have z2 := H10.out.free 2
        refine hK _ _ (by repeat (first | exact PF.owes_nil | refine PF.owes_left ?_ | refine PF.owes_no (by decide +kernel) ?_ | refine PF.owes_yes (by first | exact Below.heap_setCell _ _ _ _ HG10.out.2.1 | exact Below.heap_setCell _ _ _ _ HG10.out.2.1.symm) ?_)) ?_
        clear hK K
        try simp only [Act.put, pz0, pz1, pz2]
        refine PF.pf_take0 8 (by kernel_rfl) rfl (fun _ _ _ _ _ h => h) (by kernel_rfl) (fun u => by go_simp; try rfl) ?_
        try simp only [Act.put, pz0, pz1, pz2]
        refine PF.pf_exec 9 (by kernel_rfl) rfl (by kernel_rfl) (fun K hK => ?_)
        go_simp
        have H10 := Lib.hid (H10.out.put 2 (.int .u64 ((n0 : Int) + 1)))
        have y4 := (H10.out.cell 4).trans (rfl : _ = some (Value.int .i64 C.ch))
        have z4 := H10.out.free 4
        refine hK _ _ (by repeat (first | exact PF.owes_nil | refine PF.owes_left ?_ | refine PF.owes_no (by decide +kernel) ?_ | refine PF.owes_yes (by first | rfl | assumption | go_simp) ?_)) ?_
        clear hK K
        try simp only [Act.put, pz0, pz1, pz2]
        refine PF.pf_take0 10 (by kernel_rfl) rfl (fun _ _ _ _ _ h => h) (by kernel_rfl) (fun u => by go_simp; try rfl) ?_
        try simp only [Act.put, pz0, pz1, pz2]
        refine PF.pf_exec 11 (by kernel_rfl) rfl (by kernel_rfl) (fun K hK => ?_)
        go_simp
        have H10 := Lib.hid (H10.out.put 4 (.int .i64 1))
        refine hK _ _ (by repeat (first | exact PF.owes_nil | refine PF.owes_left ?_ | refine PF.owes_no (by decide +kernel) ?_ | refine PF.owes_yes (by first | rfl | assumption | go_simp) ?_)) ?_
        clear hK K
        try simp only [Act.put, pz0, pz1, pz2]
        refine PF.pf_done (by kernel_rfl) ?_
        have hm : Mod (fun b => b = g10) w5 ((((w5.setCell ⟨g10, 1, none⟩ (.int .u64 1)).setCell ⟨g10, 2, none⟩ (.int .u64 ((n0 : Int) + 1))).setCell ⟨g10, 4, none⟩ (.int .i64 1)).drew) := (Mod.set (S := fun b => b = g10) (Mod.set (S := fun b => b = g10) (Mod.set (S := fun b => b = g10) (Mod.refl _ w5) (p := ⟨g10, 1, none⟩) (fun _ => rfl) _) (p := ⟨g10, 2, none⟩) (fun _ => rfl) _) (p := ⟨g10, 4, none⟩) (fun _ => rfl) _).drew
        have H10 : Hid (Blk ((((w5.setCell ⟨g10, 1, none⟩ (.int .u64 1)).setCell ⟨g10, 2, none⟩ (.int .u64 ((n0 : Int) + 1))).setCell ⟨g10, 4, none⟩ (.int .i64 1)).drew) g10 25 (calL { C with inc := 1, n := n0 + 1, ch := 1 } (.slice A3 n c3)).toArray) := H10.out.drew
        have HB6 := Lib.hid (HB5.out.trans (hm.to_below HB5.out.size fun b hb e => by have := HG10.out.1; omega))
        have HSL := Lib.hid (HSL.out.mod hm fun b hb e => by have := hb.2; omega)
        clear hm HB5 x0 y0 y1 z1 y2 z2 y4 z4
        generalize (((w5.setCell ⟨g10, 1, none⟩ (.int .u64 1)).setCell ⟨g10, 2, none⟩ (.int .u64 ((n0 : Int) + 1))).setCell ⟨g10, 4, none⟩ (.int .i64 1)).drew = w6 at H10 HB6 HSL ⊢
        have HCC : Hid ((({ C with inc := 1, n := n0 + 1, ch := 1 } : Cal).cl = (j : Int) ∧ ({ C with inc := 1, n := n0 + 1, ch := 1 } : Cal).inc = 1 ∧ ({ C with inc := 1, n := n0 + 1, ch := 1 } : Cal).n = n0 + 1 ∧ ({ C with inc := 1, n := n0 + 1, ch := 1 } : Cal).ch = 1) ∧ ({ C with inc := 1, n := n0 + 1, ch := 1 } : Cal).seq < 18446744073709551616 ∧ ({ C with inc := 1, n := n0 + 1, ch := 1 } : Cal).body.length ≤ 1000 ∧ n = ({ C with inc := 1, n := n0 + 1, ch := 1 } : Cal).body.length) := ⟨⟨HJ.out, rfl, rfl, rfl⟩, HFIT.out.seq, by show C.body.length ≤ 1000; have := HN1.out; have := HNB.out; omega, HNB.out⟩
        have HSL : Hid (SlB (fun b => w2.heap.size ≤ b ∧ b < g10) w6 (.slice A3 n c3) ({ C with inc := 1, n := n0 + 1, ch := 1 } : Cal).body) := HSL.out
        generalize ({ C with inc := 1, n := n0 + 1, ch := 1 } : Cal) = D at H10 HCC HSL
        go_wp2_with (refine wpList_load_blk rfl (ty := 25) rfl (g := g10) rfl H10.out Tryz.underlying25 rfl (info_call rfl) ?_; refine Hid.out ?_)
        refine Lib.hid ?_
        have hmay := rmay_any (C := D) HSL.out
        have HMY := Lib.hid hmay
        clear hmay HFIT HJ HNB HN1
        go_wp2_with fail
        refine HMY.out.mono ?_
        rintro e w7 ⟨rfl, hb7⟩
        have HB7 := Lib.hid (HB6.out.trans (hb7.mono HB6.out.size))
        have H10 := Lib.hid (H10.out.below hb7 H10.out.lt)
        have HSL := Lib.hid (HSL.out.below hb7)
        clear hb7 HMY HB6
        cases hmc : mayC D with
        | false =>
          as_aux_lemma =>
            go_wp2_with fail
            go_roundw
            case rel => exact ⟨k + 1, hlt, by go_num, HSK.out _ HB7.out⟩
            case measure => simp [intOf]; omega
        | true =>
          have hmp : MayP D := by unfold mayC at hmc; exact of_decide_eq_true hmc
          have HFD : Hid (FitC D) := ⟨hmp, HCC.out.2.1, HCC.out.2.2.1⟩
          clear hmc hmp HSK
          have y0 := (H10.out.cell 0).trans (rfl : _ = some (Value.int .i64 D.cl))
          rw [HCC.out.1.1] at y0
          have hBN := HBN.out.below HB7.out HBN.out.lt
          have x0 := cur_cell hBN HJN.out
          rw [← HN0.out] at x0
          have zj := hBN.free j
          have hw0 : IntKind.u64.wrap ((n0 : Int) + 1) = (n0 : Int) + 1 := by rw [IntKind.wrap_u64]; omega
          have HM7 := Lib.hid (HM.out.below HB7.out)
          have HB67 := Lib.hid (HB6m.out.below HB7.out HB6m.out.lt)
          have hm8 : Mod (fun b => b = gn) w7 (w7.setCell ⟨gn, j, none⟩ (.int .u64 ((n0 : Int) + 1))) := Mod.set (S := fun b => b = gn) (Mod.refl _ _) (p := ⟨gn, j, none⟩) (fun _ => rfl) _
          have HBN8 : Hid (Blk (w7.setCell ⟨gn, j, none⟩ (.int .u64 ((n0 : Int) + 1))) gn 22 ((nx.set j (n0 + 1)).map u64v).toArray) := cur_put hBN j (n0 + 1)
          have HM8 := Lib.hid (HM7.out.mod hm8 fun b hb _ e => by have := HGB.out.2.1; omega)
          have HB68 := Lib.hid (HB67.out.mod hm8 fun e => by have := HGB.out.1; omega)
          have H108 := Lib.hid (H10.out.mod hm8 fun e => HG10.out.2.1 e.symm)
          have HSL8 := Lib.hid (HSL.out.mod hm8 fun b hb e => by have h1 := hb.1; have h2 := HBS.out; have h3 := HGB.out.2.1; omega)
          have HT7 := Lib.hid (HT.out.trans (HB7.out.mono HT.out.size))
          have HT8 := Lib.hid (HT7.out.trans (hm8.to_below HT7.out.size fun b hb e => by have := HGB.out; omega))
          have HBS8 : Hid (B ≤ (w7.setCell ⟨gn, j, none⟩ (.int .u64 ((n0 : Int) + 1))).heap.size ∧ g10 < (w7.setCell ⟨gn, j, none⟩ (.int .u64 ((n0 : Int) + 1))).heap.size) := ⟨Nat.le_trans HBS.out (Nat.le_trans HB7.out.size hm8.size), H108.out.lt⟩
          clear hBN hm8 HM7 HB67 H10 HSL HT7 HB7 HBN HM
          go_wp2_with (refine wpList_load_blk rfl (ty := 25) rfl (g := g10) rfl H108.out Tryz.underlying25 rfl (info_call rfl) ?_; refine Hid.out ?_)
          refine Lib.hid ?_
          clear y0 x0 zj hw0 hj16 hj16n
          generalize w7.setCell ⟨gn, j, none⟩ (.int .u64 ((n0 : Int) + 1)) = w8 at HBN8 HM8 HB68 H108 HSL8 HT8 HBS8 ⊢
          have HDAT : Hid (SlB (Dat B (.slice Ah H.length ch) (.slice Ao O.length co) (.slice Ae E.length ce)) w8 (.slice A3 n c3) D.body) := HSL8.out.weak fun b _ hb => HDN.out b hb.1
          refine wpList_build2 rfl rfl rfl rfl (build_beg D (.slice A3 n c3) w8) ?_
          refine wpList_bs1 rfl (ty := 28) rfl (x := .agg (ntL (begV D (.slice A3 n c3))).toArray) (v := .slice (some ⟨w8.heap.size, 0, none⟩) 1 1) rfl (bs1_nt (begV D (.slice A3 n c3)) w8) ?_
          have hr9 : OwH w8.heap.size (w8.alloc (.cells ([begV D (.slice A3 n c3)].flatMap ntL).toArray 38)) (.slice (some ⟨w8.heap.size, 0, none⟩) 1 1) [begV D (.slice A3 n c3)] := owh_new w8 [begV D (.slice A3 n c3)] (Nat.le_refl _) (by simp)
          have hb9 : Below w8.heap.size w8 (w8.alloc (.cells ([begV D (.slice A3 n c3)].flatMap ntL).toArray 38)) := below_new _ _
          generalize w8.alloc (.cells ([begV D (.slice A3 n c3)].flatMap ntL).toArray 38) = w9 at hr9 hb9 ⊢
          have HM9 := Lib.hid (HM8.out.below hb9)
          have HDAT9 := Lib.hid (HDAT.out.below hb9)
          have HBN9 := Lib.hid (HBN8.out.below hb9 HBN8.out.lt)
          have HB69 := Lib.hid (HB68.out.below hb9 HB68.out.lt)
          have H109 := Lib.hid (H108.out.below hb9 H108.out.lt)
          have HT9 := Lib.hid (HT8.out.trans (hb9.mono HT8.out.size))
          have HBS9 : Hid (B ≤ w9.heap.size) := Nat.le_trans HBS8.out.1 hb9.size
          have HHL : Hid ((H.length + 1) * 184 ≤ 140737488355328 ∧ (O.length + 1) * 176 ≤ 140737488355328) := by
            have h1 := HI.out.hl
            have h2 := HI.out.opl
            rw [List.length_map] at h1 h2
            show _ ∧ _
            omega
          have HR9 := Lib.hid hr9
          clear hb9 hr9 HM8 HDAT HBN8 HB68 H108 HT8
          go_wp2_with (first | (at_builtin; refine app_list note_ty rfl (s := .tmp 107) (x := .tmp 110) rfl HM9.out.oh rfl (Reads.of_own HR9.out) rfl (ntL_one (by intro y hy; rw [List.mem_singleton.1 hy]; exact ⟨rfl, rfl⟩)) HHL.out.1 HBS9.out ?_; intro v10 w10 ho10 hg10 hq10; refine Hid.out ?_))
          refine Lib.hid ?_
          have ho10' : OwH B w10 v10 (H ++ [begV D (.slice A3 n c3)]) := by
            show World.ownsRow _ _ _ _ _ _ _
            rw [List.length_append, List.flatMap_append]
            exact ho10
          have HM10 := Lib.hid (HM9.out.note ho10' hg10 hq10 ⟨HDAT9.out, SlB.nil _ _⟩)
          have hm10 := mod_grownO hg10
          have HDAT10 := Lib.hid (Dat.slb (hv' := v10) (ov' := .slice Ao O.length co) (ev' := .slice Ae E.length ce) HDAT9.out hm10 (fun b hb _ => hb.2.1) (fun b e => by rcases hq10 with h1 | h1; exact .inl (h1 ▸ e); rw [h1] at e; injection e with e; exact .inr (by omega)) (fun _ e => .inl e) (fun _ e => .inl e))
          have HOLD : Hid (∀ b, (Value.slice Ah H.length ch).ownBlock = some b → B ≤ b ∧ b ≠ g10) := fun b hb => ⟨own_ge HM9.out.oh b hb, fun e => HOG.out b hb (by rw [e]; exact HG10.out.1)⟩
          have HBN10 := Lib.hid (HBN9.out.mod hm10 fun e => by have h1 := (HOLD.out _ e).1; have := HGB.out; omega)
          have HB610 := Lib.hid (HB69.out.mod hm10 fun e => by have h1 := (HOLD.out _ e).1; have := HGB.out; omega)
          have H1010 := Lib.hid (H109.out.mod hm10 fun e => (HOLD.out _ e).2 rfl)
          have HT10 := Lib.hid (HT9.out.trans (hm10.to_below HT9.out.size fun b hb e => by have h1 := (HOLD.out _ e).1; have := HGB.out; omega))
          have HBS10 : Hid (B ≤ w10.heap.size) := Nat.le_trans HBS9.out hg10.size
          clear ho10 ho10' hg10 hq10 hm10 HOLD HM9 HDAT9 HBN9 HB69 H109 HT9 HR9
          go_wp2_with (refine wpList_load_blk rfl (ty := 25) rfl (g := g10) rfl H1010.out Tryz.underlying25 rfl (info_call rfl) ?_; refine Hid.out ?_)
          refine Lib.hid ?_
          refine wpList_build1 rfl (ty := 50) rfl (x := .agg (calL D (.slice A3 n c3)).toArray) (v := .agg (dnL (opV D (.slice A3 n c3))).toArray) rfl (build_dn D (.slice A3 n c3) w10) ?_
          refine wpList_bs1 rfl (ty := 41) rfl (x := .agg (dnL (opV D (.slice A3 n c3))).toArray) (v := .slice (some ⟨w10.heap.size, 0, none⟩) 1 1) rfl (bs1_dn (opV D (.slice A3 n c3)) w10) ?_
          have hr11 : OwD w10.heap.size (w10.alloc (.cells ([opV D (.slice A3 n c3)].flatMap dnL).toArray 50)) (.slice (some ⟨w10.heap.size, 0, none⟩) 1 1) [opV D (.slice A3 n c3)] := owd_new w10 [opV D (.slice A3 n c3)] (Nat.le_refl _) (by simp)
          have hb11 : Below w10.heap.size w10 (w10.alloc (.cells ([opV D (.slice A3 n c3)].flatMap dnL).toArray 50)) := below_new _ _
          generalize w10.alloc (.cells ([opV D (.slice A3 n c3)].flatMap dnL).toArray 50) = w11 at hr11 hb11 ⊢
          have HM11 := Lib.hid (HM10.out.below hb11)
          have HDAT11 := Lib.hid (HDAT10.out.below hb11)
          have HBN11 := Lib.hid (HBN10.out.below hb11 HBN10.out.lt)
          have HB611 := Lib.hid (HB610.out.below hb11 HB610.out.lt)
          have HT11 := Lib.hid (HT10.out.trans (hb11.mono HT10.out.size))
          have HBS11 : Hid (B ≤ w11.heap.size) := Nat.le_trans HBS10.out hb11.size
          have HR11 := Lib.hid hr11
          clear hb11 hr11 HM10 HDAT10 HBN10 HB610 H1010 HT10 HBS10
          go_wp2_with (first | (at_builtin; refine app_list done_ty rfl (s := .tmp 112) (x := .tmp 115) rfl HM11.out.oo rfl (Reads.of_own HR11.out) rfl (dnL_one (by intro y hy; rw [List.mem_singleton.1 hy]; exact ⟨rfl, rfl⟩)) HHL.out.2 HBS11.out ?_; intro v12 w12 ho12 hg12 hq12; refine Hid.out ?_))
          refine Lib.hid ?_
          have ho12' : OwD B w12 v12 (O ++ [opV D (.slice A3 n c3)]) := by
            show World.ownsRow _ _ _ _ _ _ _
            rw [List.length_append, List.flatMap_append]
            exact ho12
          have hm12 := mod_grownO hg12
          have HOL12 : Hid (∀ b, (Value.slice Ao O.length co).ownBlock = some b → B ≤ b) := fun b hb => own_ge HM11.out.oo b hb
          have HFIN : Hid (MadS w B g6 gn (k + 1) v10 v12 (.slice Ae E.length ce) w12) := by
            refine ⟨nx.set j (n0 + 1), H ++ [begV D (.slice A3 n c3)], O ++ [opV D (.slice A3 n c3)], E, m, vl, vc, ?_, HM11.out.opens ho12' hg12 hq12 ⟨HDAT11.out, SlB.nil _ _⟩, HB611.out.mod hm12 fun e => by (have h1 := HOL12.out _ e; have := HGB.out; omega), HBN11.out.mod hm12 fun e => by (have h1 := HOL12.out _ e; have := HGB.out; omega), HT11.out.trans (hm12.to_below HT11.out.size fun b hb e => by have h1 := HOL12.out _ e; have := HGB.out; omega), Nat.le_trans HBS11.out hg12.size⟩
            have hjj : D.cl.toNat = j := by rw [HCC.out.1.1]; omega
            have hst := HI.out.begins (by omega) HFD.out HCC.out.1.2.1 (by rw [hjj, HCC.out.1.2.2.1, HN0.out]) HCC.out.1.2.2.2
            rw [hjj, HCC.out.1.2.2.1] at hst
            rw [List.map_append, List.map_append]
            exact hst
          clear ho12 ho12' hg12 hq12 hm12 HOL12 HM11 HDAT11 HBN11 HB611 HT11 HBS11 HR11
          go_wp2_with fail
          go_roundw
          case rel => exact ⟨k + 1, hlt, by go_num, HFIN.out⟩
          case measure => simp [intOf]; omega
      have p0 : (x.d == 0) = false := beq_eq_false_iff_ne.2 q0
      by_cases q1 : x.d = 1
      · have p1 : (x.d == 1) = true := beq_iff_eq.2 q1
        clear q0 q1
        by_cases hO : O.length = 0
        · have e0 : ((O.length : Int) == 0) = true := beq_iff_eq.2 (by omega)
          have e1 : (O.length == 0) = true := beq_iff_eq.2 hO
          have HO0 := Lib.hid hO
          clear hO
          as_aux_lemma =>
            go_wp2_with fail
            go_roundw
            case rel => exact ⟨k + 1, hlt, by go_num, HSK.out _ (Below.refl _ _)⟩
            case measure => simp [intOf]; omega
        have e0 : ((O.length : Int) == 0) = false := beq_eq_false_iff_ne.2 (by omega)
        have e1 : (O.length == 0) = false := beq_eq_false_iff_ne.2 hO
        obtain ⟨mm, hmm, hmm2⟩ : ∃ mm : Nat, bits .and .i64 x.i 65535 = (mm : Int) ∧ mm ≤ 65535 := ⟨(x.i % 65536).toNat, by rw [i64_lowJ]; omega, by omega⟩
        have hrem : ((mm : Int)).tmod (O.length : Int) = ((mm % O.length : Nat) : Int) := rfl
        obtain ⟨q, hq⟩ : ∃ q, q = mm % O.length := ⟨_, rfl⟩
        have hql : q < O.length := by rw [hq]; exact Nat.mod_lt mm (by omega)
        rw [← hq] at hrem
        clear hq
        obtain ⟨gr, rfl⟩ := own_someD HM.out.oo (by omega)
        have hqi : (q : Int) < (O.length : Int) := by omega
        have hqi1 : (q : Int) + 1 ≤ (O.length : Int) := by omega
        have hqic : (q : Int) ≤ (co : Int) := by have := HCO.out; omega
        have hqic1 : (q : Int) + 1 ≤ (co : Int) := by have := HCO.out; omega
        have hwq : IntKind.i64.wrap ((q : Int) + 1) = (q : Int) + 1 := by rw [IntKind.wrap_i64]; have := HI.out.opl; rw [List.length_map] at this; omega
        have hRG := own_rangeD HM.out.oo rfl hql
        have hmemD := List.getElem_mem hql
        have hget : O[q]? = some O[q] := List.getElem?_eq_getElem hql
        generalize O[q] = D at hRG hmemD hget
        have HRD := Lib.hid hRG
        have HMD := Lib.hid hmemD
        have HGT := Lib.hid hget
        have hq0 : O.length ≠ 0 := by omega
        have hq0i : (O.length : Int) ≠ 0 := by omega
        clear hRG hmemD hget
        clear hO
        have hDone := HM.out.so D HMD.out
        have hdo1 : D.vc.oneCell' = true := hDone.1.one
        have hdo2 : D.vr.oneCell' = true := hDone.2.one
        clear hDone HSK
        go_wp2_with (refine wpList_load_rg rfl (ty := 50) rfl (vs := dnL D) rfl HRD.out Tryz.underlying50 rfl (info_doneL rfl) ?_; refine wpList_alloc_blk rfl (ty := 50) rfl zero_done ?_; rintro g12 w3 hg12 hB12 hb12; refine Hid.out ?_)
        refine Lib.hid ?_
        refine wpList_store_blk rfl (ty := 50) rfl (g := g12) (cs := (dnL D).toArray) rfl rfl hB12 rfl (info_done rfl) (dn_oneA hdo1 hdo2) ?_
        rintro w4 hB13 hm12
        have hb4 : Below w2.heap.size w2 w4 := hb12.trans (hm12.to_below hb12.size fun b hb e => by omega)
        have HG12 : Hid (w2.heap.size = g12 ∧ g12 < w4.heap.size) := ⟨hg12, hB13.lt⟩
        have HB64 := Lib.hid (HB6.out.below hb4 HB6.out.lt)
        have HB4 := Lib.hid hb4
        have H12 := Lib.hid hB13
        have hfit : FitC D.c := HI.out.fit D.c (List.mem_map.2 ⟨D, HMD.out, rfl⟩)
        have HFIT := Lib.hid hfit
        clear hg12 hB12 hb12 hB13 hm12 hb4 hfit c0 c1 p0 p1 e0 e1 H9
        go_wp2_with (refine wpList_load_blk rfl (ty := 45) rfl (g := g6) rfl HB64.out Tryz.underlying45 rfl (info_model rfl) ?_; refine Hid.out ?_)
        refine Lib.hid ?_
        go_wp2_with (refine wpList_load_rg rfl (ty := 25) rfl (vs := calL D.c D.vc) rfl (dn_call H12.out) Tryz.underlying25 rfl (infoj_call9 rfl) ?_; refine Hid.out ?_)
        refine Lib.hid ?_
        go_wp2_with fail
        refine (answer_any (K := fun b => Dat B (.slice Ah H.length ch) (.slice (some ⟨gr, 0, none⟩) O.length co) (.slice Ae E.length ce) b ∧ b < w2.heap.size) (N := k) ((HM.out.sm.weak fun b hb h => ⟨h, hb⟩).below HB4.out) ((HM.out.so D HMD.out).1.below HB4.out) HI.out.okm (by omega) HI.out.trim HFIT.out.may (Nat.le_trans HFIT.out.body (by decide))).mono ?_
        rintro e w5 ⟨⟨M2, R, u1, u2, vr, rfl, hd, hcd, hmf, hsl⟩, hb5⟩
        have HD := Lib.hid hd
        have HCD := Lib.hid hcd
        have hu1 : u1.oneCell' = true := hmf.1.one
        have hu2 : u2.oneCell' = true := hmf.2.one
        have hvr : vr.oneCell' = true := hsl.one
        have p3 : (R.res == 3) = false := beq_eq_false_iff_ne.2 (of_decide_eq_true hcd.known).1
        go_wp2_with (refine wpList_alloc_blk rfl (ty := 45) rfl zero_model ?_; rintro g13 w6 hg13 hB13 hb6; refine wpList_alloc_blk rfl (ty := 32) rfl zero_reply ?_; rintro g14 w7 hg14 hB14 hb7; refine Hid.out ?_)
        refine Lib.hid ?_
        refine wpList_store_blk rfl (ty := 45) rfl (g := g13) (cs := (mdL M2 u1 u2).toArray) rfl rfl (hB13.below hb7 hB13.lt) rfl (info_model rfl) (mdL_one hu1 hu2) ?_
        rintro w8 hB15 hm8
        refine wpList_store_blk rfl (ty := 32) rfl (g := g14) (cs := (repL R vr).toArray) rfl rfl (hB14.mod hm8 (fun e => by have := hB13.lt; omega)) rfl (info_reply rfl) (repL_one hvr) ?_
        rintro w9 hB16 hm9
        have hb59 : Below w5.heap.size w5 w9 := ((hb6.trans (hb7.mono hb6.size)).trans (hm8.to_below (Nat.le_trans hb6.size hb7.size) fun b hb e => by omega)).trans (hm9.to_below (Nat.le_trans hb6.size (Nat.le_trans hb7.size hm8.size)) fun b hb e => by have := hb6.size; omega)
        have hb49 := hb5.trans (hb59.mono hb5.size)
        have hb29 := HB4.out.trans (hb49.mono HB4.out.size)
        have H12 := Lib.hid (H12.out.below hb49 H12.out.lt)
        have H13 := Lib.hid (hB15.mod hm9 fun e => by have := hB13.lt; omega)
        have H14 := Lib.hid hB16
        have HB69 := Lib.hid (HB6.out.below hb29 HB6.out.lt)
        have HS : Hid (w2.heap.size ≤ w4.heap.size) := HB4.out.size
        have HN2 : Hid (g6 ≠ g12 ∧ g6 ≠ g13 ∧ g6 ≠ g14 ∧ g12 ≠ g13 ∧ g12 ≠ g14) := by
          have h1 := HGB.out
          have h2 := HBS.out
          have h3 := HG12.out
          have h4 := hb5.size
          have h5 := hb6.size
          show _ ∧ _
          omega
        have HMF2 : Hid (MdF (fun b => w4.heap.size ≤ b) w9 u1 u2 M2) := hmf.below hb59
        have HSL2 := Lib.hid (hsl.below hb59)
        have HMOD : Hid (Mod (fun b => b = g6) w2 w9) := Mod.below hb29 (Nat.le_refl _)
        have r3 := (H14.out.cell 3).trans (rfl : _ = some (Value.int .i64 R.res))
        clear hd hcd hmf hsl hb5 hg13 hB13 hb6 hg14 hB14 hb7 hB15 hm8 hB16 hm9 hb59 hb49 hb29 HB64 HB6 HB4
        go_wp2_with fail
        refine PF.pf_begin (by kernel_rfl) ?_
        refine PF.pf_take1 0 ((fun u => Blk u g13 45 (mdL M2 u1 u2).toArray)) (by kernel_rfl) rfl (fun _ _ _ _ _ h => h) (by kernel_rfl) (H13.out) (fun u hu => by (exact exec_load_blk rfl rfl hu Tryz.underlying45 rfl (info_model rfl))) ?_
        try simp only [Act.put, pz0, pz1, pz2]
        refine PF.pf_take1 1 ((fun u => Blk u g14 32 (repL R vr).toArray)) (by kernel_rfl) rfl (fun _ _ _ _ _ h => h) (by kernel_rfl) (H14.out) (fun u hu => by (exact exec_load_blk rfl rfl hu Tryz.underlying32 rfl (info_reply rfl))) ?_
        try simp only [Act.put, pz0, pz1, pz2]
        refine PF.pf_exec 2 (by kernel_rfl) rfl (by kernel_rfl) (fun K hK => ?_)
        refine wp_store_blk (cs := (mdL M2 u1 u2).toArray) rfl rfl rfl HB69.out.drew rfl (info_model rfl) (mdL_one hu1 hu2) ?_
        intro v2 hB hm
        have hm := (Mod.refl (fun b => b = g6) w9).drew.trans hm
        have HMOD := Lib.hid (HMOD.out.trans hm)
        have HMF2 := Lib.hid (HMF2.out.mod hm fun b hb e => by have h1 := HGB.out; have h2 := HBS.out; have h3 := HS.out; omega)
        have HSL2 := Lib.hid (HSL2.out.mod hm fun b hb e => by have h1 := HGB.out; have h2 := hb.1.1; omega)
        have H12 := Lib.hid (H12.out.mod hm fun e => HN2.out.1 e.symm)
        have H13 := Lib.hid (H13.out.mod hm fun e => HN2.out.2.1 e.symm)
        have H14 := Lib.hid (H14.out.mod hm fun e => HN2.out.2.2.1 e.symm)
        have HB69 := Lib.hid hB
        clear hB hm
        refine hK _ _ (by repeat (first | exact PF.owes_nil | refine PF.owes_left ?_ | refine PF.owes_no (by decide +kernel) ?_ | refine PF.owes_yes (by first | exact H14.out | exact H13.out) ?_)) ?_
        clear hK K
        try simp only [Act.put, pz0, pz1, pz2]
        refine PF.pf_take0 3 (by kernel_rfl) rfl (fun _ _ _ _ _ h => h) (by kernel_rfl) (fun u => by go_simp; try rfl) ?_
        try simp only [Act.put, pz0, pz1, pz2]
        refine PF.pf_exec 4 (by kernel_rfl) rfl (by kernel_rfl) (fun K hK => ?_)
        refine wp_store_rgB (vs := repL R vr) rfl rfl rfl H12.out (by show 9 + 9 ≤ 18; decide) (infoj_reply9 rfl) (repL_oneL hvr) ?_
        intro v4 hB hm
        rw [dn_put] at hB
        have HMOD := Lib.hid (HMOD.out.join hm fun b hb e => by have := HG12.out.1; omega)
        have HMF2 := Lib.hid (HMF2.out.mod hm fun b hb e => by have h1 := HG12.out.2; omega)
        have HSL2 := Lib.hid (HSL2.out.mod hm fun b hb e => by have h1 := HG12.out.1; have h2 := hb.2; omega)
        have HB69 := Lib.hid (HB69.out.mod hm fun e => HN2.out.1 e)
        have H13 := Lib.hid (H13.out.mod hm fun e => HN2.out.2.2.2.1 e.symm)
        have H14 := Lib.hid (H14.out.mod hm fun e => HN2.out.2.2.2.2 e.symm)
        have H12 := Lib.hid hB
        clear hB hm
        refine hK _ _ (by repeat (first | exact PF.owes_nil | refine PF.owes_left ?_ | refine PF.owes_no (by decide +kernel) ?_ | refine PF.owes_yes (by first | exact H14.out | exact H13.out) ?_)) ?_
        clear hK K
        try simp only [Act.put, pz0, pz1, pz2]
        refine PF.pf_done (by kernel_rfl) ?_
        clear r3 p3 H13 H14
        have HM10 := Lib.hid (HM.out.mod HMOD.out fun b hb _ e => by have := HGB.out; omega)
        have HBN10 := Lib.hid (HBN.out.mod HMOD.out fun e => by have := HGB.out; omega)
        have HDV : Hid (SlB (Dat B (.slice Ah H.length ch) (.slice (some ⟨gr, 0, none⟩) O.length co) (.slice Ae E.length ce)) v4 D.vc D.c.body) := (HM10.out.so D HMD.out).1
        have HRV : Hid (SlB (Dat B (.slice Ah H.length ch) (.slice (some ⟨gr, 0, none⟩) O.length co) (.slice Ae E.length ce)) v4 vr R.body) := HSL2.out.weak fun b _ h => h.1
        have HMV : Hid (MdF (Dat B (.slice Ah H.length ch) (.slice (some ⟨gr, 0, none⟩) O.length co) (.slice Ae E.length ce)) v4 u1 u2 M2) := HMF2.out.weak fun b _ h => HM.out.dat (Nat.le_trans HS.out h) HBS.out
        have HM10 := Lib.hid (HM10.out.model HMV.out)
        have HT10 := Lib.hid (HT.out.trans (HMOD.out.to_below HT.out.size fun b hb e => by have := HGB.out; omega))
        have HBS10 : Hid (B ≤ v4.heap.size) := Nat.le_trans HBS.out HMOD.out.size
        have HHL : Hid ((E.length + 1) * 176 ≤ 140737488355328 ∧ O.length ≤ 1000) := by
          have h1 := HI.out.enl
          have h2 := HI.out.opl
          rw [List.length_map] at h1 h2
          show _ ∧ _
          omega
        have HQL := Lib.hid hql
        have hro : Reads v4 18 (some ⟨gr, 0, none⟩) O.length (O.flatMap dnL) := Reads.of_own HM10.out.oo
        have HRO := Lib.hid hro
        have HO1 : Hid (∀ y ∈ O, y.vc.oneCell' = true ∧ y.vr.oneCell' = true) := fun y hy => ⟨(HM10.out.so y hy).1.one, (HM10.out.so y hy).2.one⟩
        have HLT : Hid ((O.take q).length = q ∧ (O.drop (q + 1)).length = O.length - (q + 1)) := ⟨by rw [List.length_take]; omega, by rw [List.length_drop]⟩
        clear hro HMV HSL2 HMF2 HMOD HM
        go_wp2_with fail
        refine PF.pf_begin (by kernel_rfl) ?_
        refine PF.pf_take0 1 (by kernel_rfl) rfl (fun _ _ _ _ _ h => h) (by kernel_rfl) (fun u => by go_simp; try rfl) ?_
        try simp only [Act.put, pz0, pz1, pz2]
        refine PF.pf_take0 2 (by kernel_rfl) rfl (fun _ _ _ _ _ h => h) (by kernel_rfl) (fun u => by go_simp; try rfl) ?_
        try simp only [Act.put, pz0, pz1, pz2]
        refine PF.pf_take0 3 (by kernel_rfl) rfl (fun _ _ _ _ _ h => h) (by kernel_rfl) (fun u => by go_simp; try rfl) ?_
        try simp only [Act.put, pz0, pz1, pz2]
        refine PF.pf_take0 5 (by kernel_rfl) rfl (fun _ _ _ _ _ h => h) (by kernel_rfl) (fun u => by go_simp; try rfl) ?_
        try simp only [Act.put, pz0, pz1, pz2]
        refine PF.pf_take0 6 (by kernel_rfl) rfl (fun _ _ _ _ _ h => h) (by kernel_rfl) (fun u => by go_simp; try rfl) ?_
        try simp only [Act.put, pz0, pz1, pz2]
        refine PF.pf_take0 7 (by kernel_rfl) rfl (fun _ _ _ _ _ h => h) (by kernel_rfl) (fun u => by go_simp; try rfl) ?_
        try simp only [Act.put, pz0, pz1, pz2]
        refine PF.pf_take0 8 (by kernel_rfl) rfl (fun _ _ _ _ _ h => h) (by kernel_rfl) (fun u => by go_simp; try rfl) ?_
        try simp only [Act.put, pz0, pz1, pz2]
        refine PF.pf_exec 0 (by kernel_rfl) rfl (by kernel_rfl) (fun K hK => ?_)
        refine wp_mkD0 rfl ?_
        intro g15 v0 ho0 hb0
        have HX0 := Lib.hid ho0
        have HY0 := Lib.hid ((Below.refl v4.heap.size v4).drew.trans hb0)
        clear ho0 hb0
        refine hK _ _ (by repeat (first | exact PF.owes_nil | refine PF.owes_left ?_ | refine PF.owes_no (by decide +kernel) ?_ | refine PF.owes_yes (by first | rfl | assumption | go_simp) ?_)) ?_
        clear hK K
        try simp only [Act.put, pz0, pz1, pz2]
        refine PF.pf_exec 4 (by kernel_rfl) rfl (by kernel_rfl) (fun K hK => ?_)
        refine wp_appD rfl HX0.out rfl (reads_takeD (HRO.out.below HY0.out) rfl (Nat.le_of_lt HQL.out)) HLT.out.1.symm rfl (fun y hy => HO1.out y (List.mem_of_mem_take hy)) (by have := HLT.out.1; have := HHL.out.2; have := HQL.out; show 0 + _ ≤ _; omega) HY0.out.size ?_
        intro x4 v5 ho4 hg4 hq4
        have HX4 := Lib.hid ho4
        have HY4 := Lib.hid (HY0.out.grown hg4 HY0.out.size (own_ge HX0.out))
        clear ho4 hg4 hq4
        refine hK _ _ (by repeat (first | exact PF.owes_nil | refine PF.owes_left ?_ | refine PF.owes_no (by decide +kernel) ?_ | refine PF.owes_yes (by first | rfl | assumption | go_simp) ?_)) ?_
        clear hK K
        try simp only [Act.put, pz0, pz1, pz2]
        refine PF.pf_exec 9 (by kernel_rfl) rfl (by kernel_rfl) (fun K hK => ?_)
        refine wp_appD rfl HX4.out rfl (reads_drop0 (HRO.out.below HY4.out) rfl (q := q + 1) HQL.out HCO.out) HLT.out.2.symm rfl (fun y hy => HO1.out y (List.mem_of_mem_drop hy)) (by rw [List.length_append]; have := HLT.out; have := HHL.out.2; have := HQL.out; show 0 + _ + _ ≤ _; omega) HY4.out.size ?_
        intro x9 v9 ho9 hg9 hq9
        have HX9 := Lib.hid ho9
        have HY9 := Lib.hid (HY4.out.grown hg9 HY4.out.size (own_ge HX4.out))
        clear ho9 hg9 hq9
        refine hK _ _ (by repeat (first | exact PF.owes_nil | refine PF.owes_left ?_ | refine PF.owes_no (by decide +kernel) ?_ | refine PF.owes_yes (by first | rfl | assumption | go_simp) ?_)) ?_
        clear hK K
        try simp only [Act.put, pz0, pz1, pz2]
        refine PF.pf_take0 10 (by kernel_rfl) rfl (fun _ _ _ _ _ h => h) (by kernel_rfl) (fun u => by go_simp; try rfl) ?_
        try simp only [Act.put, pz0, pz1, pz2]
        refine PF.pf_done (by kernel_rfl) ?_
        generalize (if co = q + 1 then (some ⟨gr, 0, none⟩ : Option Addr) else some ⟨gr, (q + 1) * 18, none⟩) = ad9
        have HX9 : Hid (OwD v4.heap.size v9 x9 (O.take q ++ O.drop (q + 1))) := HX9.out
        have HM11 := Lib.hid (HM10.out.opened HY9.out HX9.out HBS10.out fun y hy => by rcases List.mem_append.1 hy with hy | hy; exact List.mem_of_mem_take hy; exact List.mem_of_mem_drop hy)
        have HDV := Lib.hid (Dat.slb (S := fun _ => False) (hv' := .slice Ah H.length ch) (ov' := x9) (ev' := .slice Ae E.length ce) HDV.out (Mod.below HY9.out (Nat.le_refl _)) (fun _ _ _ h => h) (fun _ e => .inl e) (fun b e => .inr (own_ge HX9.out b e)) (fun _ e => .inl e))
        have HRV := Lib.hid (Dat.slb (S := fun _ => False) (hv' := .slice Ah H.length ch) (ov' := x9) (ev' := .slice Ae E.length ce) HRV.out (Mod.below HY9.out (Nat.le_refl _)) (fun _ _ _ h => h) (fun _ e => .inl e) (fun b e => .inr (own_ge HX9.out b e)) (fun _ e => .inl e))
        have HBN11 := Lib.hid (HBN10.out.below HY9.out HBN10.out.lt)
        have HB611 := Lib.hid (HB69.out.below HY9.out HB69.out.lt)
        have H1211 := Lib.hid (H12.out.below HY9.out H12.out.lt)
        have HT11 := Lib.hid (HT10.out.trans (HY9.out.mono HT10.out.size))
        have HBS11 : Hid (B ≤ v9.heap.size) := Nat.le_trans HBS10.out HY9.out.size
        clear HX0 HX4 HY0 HY4 HX9 HY9 HM10 HBN10 HB69 H12 HT10 HBS10 HRO HO1 HLT
        go_wp2_with (refine wpList_load_blk rfl (ty := 50) rfl (g := g12) rfl H1211.out Tryz.underlying50 rfl (info_done rfl) ?_; refine Hid.out ?_)
        refine Lib.hid ?_
        refine wpList_bs1 rfl (ty := 41) rfl (x := .agg (dnL ⟨D.c, R, D.vc, vr⟩).toArray) (v := .slice (some ⟨v9.heap.size, 0, none⟩) 1 1) rfl (bs1_dn ⟨D.c, R, D.vc, vr⟩ v9) ?_
        have hr11 : OwD v9.heap.size (v9.alloc (.cells ([⟨D.c, R, D.vc, vr⟩].flatMap dnL).toArray 50)) (.slice (some ⟨v9.heap.size, 0, none⟩) 1 1) [⟨D.c, R, D.vc, vr⟩] := owd_new v9 [⟨D.c, R, D.vc, vr⟩] (Nat.le_refl _) (by simp)
        have hb11 : Below v9.heap.size v9 (v9.alloc (.cells ([⟨D.c, R, D.vc, vr⟩].flatMap dnL).toArray 50)) := below_new _ _
        generalize v9.alloc (.cells ([⟨D.c, R, D.vc, vr⟩].flatMap dnL).toArray 50) = w11 at hr11 hb11 ⊢
        have HM11 := Lib.hid (HM11.out.below hb11)
        have HDV := Lib.hid (HDV.out.below hb11)
        have HRV := Lib.hid (HRV.out.below hb11)
        have HBN11 := Lib.hid (HBN11.out.below hb11 HBN11.out.lt)
        have HB611 := Lib.hid (HB611.out.below hb11 HB611.out.lt)
        have HT11 := Lib.hid (HT11.out.trans (hb11.mono HT11.out.size))
        have HBS11 : Hid (B ≤ w11.heap.size) := Nat.le_trans HBS11.out hb11.size
        have HR11 := Lib.hid hr11
        clear hb11 hr11 H1211
        go_wp2_with (first | (at_builtin; refine app_list done_ty rfl (s := .tmp 155) (x := .tmp 157) rfl HM11.out.oe rfl (Reads.of_own HR11.out) rfl (dnL_one (by intro y hy; rw [List.mem_singleton.1 hy]; exact ⟨hdo1, hvr⟩)) HHL.out.1 HBS11.out ?_; intro v12 w12 ho12 hg12 hq12; refine Hid.out ?_))
        refine Lib.hid ?_
        have ho12' : OwD B w12 v12 (E ++ [⟨D.c, R, D.vc, vr⟩]) := by
          show World.ownsRow _ _ _ _ _ _ _
          rw [List.length_append, List.flatMap_append]
          exact ho12
        have hm12 := mod_grownO hg12
        have HOL12 : Hid (∀ b, (Value.slice Ae E.length ce).ownBlock = some b → B ≤ b) := fun b hb => own_ge HM11.out.oe b hb
        have HFIN : Hid (MadS w B g6 gn (k + 1) (.slice Ah H.length ch) x9 v12 w12) := by
          refine ⟨nx, H, O.take q ++ O.drop (q + 1), E ++ [⟨D.c, R, D.vc, vr⟩], M2, u1, u2, ?_, HM11.out.dones ho12' hg12 hq12 ⟨HDV.out, HRV.out⟩, HB611.out.mod hm12 fun e => by (have h1 := HOL12.out _ e; have := HGB.out; omega), HBN11.out.mod hm12 fun e => by (have h1 := HOL12.out _ e; have := HGB.out; omega), HT11.out.trans (hm12.to_below HT11.out.size fun b hb e => by have h1 := HOL12.out _ e; have := HGB.out; omega), Nat.le_trans HBS11.out hg12.size⟩
          have hst := HI.out.does (i := q) (C := D.c) (by rw [List.getElem?_map, HGT.out]; rfl) HD.out HCD.out
          rw [List.eraseIdx_eq_take_drop_succ, ← List.map_take, ← List.map_drop, ← List.map_append] at hst
          rw [List.map_append (f := fun x : DnV => (x.c, x.r))]
          exact hst
        clear ho12 ho12' hg12 hq12 hm12 HOL12 HM11 HDV HRV HBN11 HB611 HT11 HBS11 HR11
        go_wp2_with fail
        go_roundw
        case rel => exact ⟨k + 1, hlt, by go_num, HFIN.out⟩
        case measure => simp [intOf]; omega
      have p1 : (x.d == 1) = false := beq_eq_false_iff_ne.2 q1
      clear q0 q1
      by_cases hO : E.length = 0
      · have e0 : ((E.length : Int) == 0) = true := beq_iff_eq.2 (by omega)
        have e1 : (E.length == 0) = true := beq_iff_eq.2 hO
        clear hO
        as_aux_lemma =>
          go_wp2_with fail
          go_roundw
          case rel => exact ⟨k + 1, hlt, by go_num, HSK.out _ (Below.refl _ _)⟩
          case measure => simp [intOf]; omega
      have e0 : ((E.length : Int) == 0) = false := beq_eq_false_iff_ne.2 (by omega)
      have e1 : (E.length == 0) = false := beq_eq_false_iff_ne.2 hO
      obtain ⟨mm, hmm, hmm2⟩ : ∃ mm : Nat, bits .and .i64 x.i 65535 = (mm : Int) ∧ mm ≤ 65535 := ⟨(x.i % 65536).toNat, by rw [i64_lowJ]; omega, by omega⟩
      have hrem : ((mm : Int)).tmod (E.length : Int) = ((mm % E.length : Nat) : Int) := rfl
      obtain ⟨q, hq⟩ : ∃ q, q = mm % E.length := ⟨_, rfl⟩
      have hql : q < E.length := by rw [hq]; exact Nat.mod_lt mm (by omega)
      rw [← hq] at hrem
      clear hq
      obtain ⟨gr, rfl⟩ := own_someD HM.out.oe (by omega)
      have hqi : (q : Int) < (E.length : Int) := by omega
      have hqi1 : (q : Int) + 1 ≤ (E.length : Int) := by omega
      have hqic : (q : Int) ≤ (ce : Int) := by have := HCE.out; omega
      have hqic1 : (q : Int) + 1 ≤ (ce : Int) := by have := HCE.out; omega
      have hwq : IntKind.i64.wrap ((q : Int) + 1) = (q : Int) + 1 := by rw [IntKind.wrap_i64]; have := HI.out.enl; rw [List.length_map] at this; omega
      have hRG := own_rangeD HM.out.oe rfl hql
      have hmemD := List.getElem_mem hql
      have hget : E[q]? = some E[q] := List.getElem?_eq_getElem hql
      generalize E[q] = D at hRG hmemD hget
      have HRD := Lib.hid hRG
      have HMD := Lib.hid hmemD
      have HGT := Lib.hid hget
      have hq0 : E.length ≠ 0 := by omega
      have hq0i : (E.length : Int) ≠ 0 := by omega
      clear hRG hmemD hget
      clear hO
      have hDone := HM.out.se D HMD.out
      have hdo1 : D.vc.oneCell' = true := hDone.1.one
      have hdo2 : D.vr.oneCell' = true := hDone.2.one
      have HDC := Lib.hid (dn_callR HRD.out)
      have HDR := Lib.hid (dn_repR HRD.out)
      have HHL : Hid (H.length + 1 ≤ 100000 ∧ E.length ≤ 1000) := by
        have h1 := HI.out.enl
        have h2 := HI.out.hl
        rw [List.length_map] at h1 h2
        show _ ∧ _
        omega
      clear hDone HSK
      go_wp2_with fail
      refine PF.pf_begin (by kernel_rfl) ?_
      refine PF.pf_take0 0 (by kernel_rfl) rfl (fun _ _ _ _ _ h => h) (by kernel_rfl) (fun u => by go_simp; try rfl) ?_
      try simp only [Act.put, pz0, pz1, pz2]
      refine PF.pf_take0 1 (by kernel_rfl) rfl (fun _ _ _ _ _ h => h) (by kernel_rfl) (fun u => by go_simp; try rfl) ?_
      try simp only [Act.put, pz0, pz1, pz2]
      refine PF.pf_take0 2 (by kernel_rfl) rfl (fun _ _ _ _ _ h => h) (by kernel_rfl) (fun u => by go_simp; try rfl) ?_
      try simp only [Act.put, pz0, pz1, pz2]
      refine PF.pf_take0 3 (by kernel_rfl) rfl (fun _ _ _ _ _ h => h) (by kernel_rfl) (fun u => by go_simp; try rfl) ?_
      try simp only [Act.put, pz0, pz1, pz2]
      refine PF.pf_take0 4 (by kernel_rfl) rfl (fun _ _ _ _ _ h => h) (by kernel_rfl) (fun u => by go_simp; try rfl) ?_
      try simp only [Act.put, pz0, pz1, pz2]
      refine PF.pf_take1 5 ((fun u => u.rangeAt gr (q * 18) (calL D.c D.vc))) (by kernel_rfl) rfl (fun _ _ _ _ _ h => h) (by kernel_rfl) (HDC.out) (fun u hu => by (exact exec_load_rg rfl rfl hu Tryz.underlying25 rfl (infoj_call9 rfl))) ?_
      try simp only [Act.put, pz0, pz1, pz2]
      refine PF.pf_take0 6 (by kernel_rfl) rfl (fun _ _ _ _ _ h => h) (by kernel_rfl) (fun u => by go_simp; try rfl) ?_
      try simp only [Act.put, pz0, pz1, pz2]
      refine PF.pf_take0 7 (by kernel_rfl) rfl (fun _ _ _ _ _ h => h) (by kernel_rfl) (fun u => by go_simp; try rfl) ?_
      try simp only [Act.put, pz0, pz1, pz2]
      refine PF.pf_take0 8 (by kernel_rfl) rfl (fun _ _ _ _ _ h => h) (by kernel_rfl) (fun u => by go_simp; try rfl) ?_
      try simp only [Act.put, pz0, pz1, pz2]
      refine PF.pf_take0 9 (by kernel_rfl) rfl (fun _ _ _ _ _ h => h) (by kernel_rfl) (fun u => by go_simp; try rfl) ?_
      try simp only [Act.put, pz0, pz1, pz2]
      refine PF.pf_take1 10 ((fun u => u.rangeAt gr (q * 18 + 9) (repL D.r D.vr))) (by kernel_rfl) rfl (fun _ _ _ _ _ h => h) (by kernel_rfl) (HDR.out) (fun u hu => by (exact exec_load_rg rfl rfl hu Tryz.underlying32 rfl (infoj_reply9 rfl))) ?_
      try simp only [Act.put, pz0, pz1, pz2]
      refine PF.pf_take0 11 (by kernel_rfl) rfl (fun _ _ _ _ _ h => h) (by kernel_rfl) (fun u => by exact exec_build3 (x := .int .i64 2) (y := .agg (calL D.c D.vc).toArray) (z := .agg (repL D.r D.vr).toArray) (v := .agg (ntL (endV D.c D.r D.vc D.vr)).toArray) rfl rfl rfl rfl (build_end D.c D.r D.vc D.vr _)) ?_
      try simp only [Act.put, pz0, pz1, pz2]
      refine PF.pf_exec 12 (by kernel_rfl) rfl (by kernel_rfl) (fun K hK => ?_)
      refine wp_mkN1 (x := endV D.c D.r D.vc D.vr) rfl rfl ?_
      intro g15 v0 ho0 hb0
      have HX0 := Lib.hid ho0
      have HY0 := Lib.hid ((Below.refl w2.heap.size w2).drew.trans hb0)
      clear ho0 hb0
      have HM := Lib.hid (HM.out.below HY0.out)
      refine hK _ _ (by repeat (first | exact PF.owes_nil | refine PF.owes_left ?_ | refine PF.owes_no (by decide +kernel) ?_ | refine PF.owes_yes (by first | rfl | assumption | go_simp) ?_)) ?_
      clear hK K
      try simp only [Act.put, pz0, pz1, pz2]
      refine PF.pf_exec 13 (by kernel_rfl) rfl (by kernel_rfl) (fun K hK => ?_)
      refine wp_appNv (M := [endV D.c D.r D.vc D.vr]) rfl HM.out.oh rfl HX0.out rfl rfl (fun y hy => by rw [List.mem_singleton.1 hy]; exact ⟨hdo1, hdo2⟩) HHL.out.1 (Nat.le_trans HBS.out HY0.out.size) ?_
      intro x13 v13 ho13 hg13 hq13
      have HM13 := Lib.hid (HM.out.note ho13 hg13 hq13 (HM.out.se D HMD.out))
      have HMG := Lib.hid (mod_grownO hg13)
      have HOH : Hid (∀ b, (Value.slice Ah H.length ch).ownBlock = some b → B ≤ b) := fun b hb => own_ge HM.out.oh b hb
      clear ho13 hg13 hq13
      refine hK _ _ (by repeat (first | exact PF.owes_nil | refine PF.owes_left ?_ | refine PF.owes_no (by decide +kernel) ?_ | refine PF.owes_yes (by first | rfl | assumption | go_simp) ?_)) ?_
      clear hK K
      try simp only [Act.put, pz0, pz1, pz2]
      refine PF.pf_take0 14 (by kernel_rfl) rfl (fun _ _ _ _ _ h => h) (by kernel_rfl) (fun u => by go_simp; try rfl) ?_
      try simp only [Act.put, pz0, pz1, pz2]
      refine PF.pf_done (by kernel_rfl) ?_
      have HB613 := Lib.hid ((HB6.out.below HY0.out HB6.out.lt).mod HMG.out fun e => by have h1 := HOH.out _ e; have := HGB.out; omega)
      have HBN13 := Lib.hid ((HBN.out.below HY0.out HBN.out.lt).mod HMG.out fun e => by have h1 := HOH.out _ e; have := HGB.out; omega)
      have hT0 := HT.out.trans (HY0.out.mono HT.out.size)
      have HT13 := Lib.hid (hT0.trans (HMG.out.to_below hT0.size fun b hb e => by have h1 := HOH.out _ e; have := HGB.out; omega))
      have HBS13 : Hid (B ≤ v13.heap.size) := Nat.le_trans HBS.out (Nat.le_trans HY0.out.size HMG.out.size)
      have HQL := Lib.hid hql
      have hro : Reads v13 18 (some ⟨gr, 0, none⟩) E.length (E.flatMap dnL) := Reads.of_own HM13.out.oe
      have HRO := Lib.hid hro
      have HO1 : Hid (∀ y ∈ E, y.vc.oneCell' = true ∧ y.vr.oneCell' = true) := fun y hy => ⟨(HM13.out.se y hy).1.one, (HM13.out.se y hy).2.one⟩
      have HLT : Hid ((E.take q).length = q ∧ (E.drop (q + 1)).length = E.length - (q + 1)) := ⟨by rw [List.length_take]; omega, by rw [List.length_drop]⟩
      obtain ⟨A13, c13, rfl, _, _⟩ := own_slice HM13.out.oh
      clear hro hT0 HX0 HY0 HM HMG HOH HB6 HBN HT HBS HDC HDR
      go_wp2_with fail
      refine PF.pf_begin (by kernel_rfl) ?_
      refine PF.pf_take0 1 (by kernel_rfl) rfl (fun _ _ _ _ _ h => h) (by kernel_rfl) (fun u => by go_simp; try rfl) ?_
      try simp only [Act.put, pz0, pz1, pz2]
      refine PF.pf_take0 2 (by kernel_rfl) rfl (fun _ _ _ _ _ h => h) (by kernel_rfl) (fun u => by go_simp; try rfl) ?_
      try simp only [Act.put, pz0, pz1, pz2]
      refine PF.pf_take0 3 (by kernel_rfl) rfl (fun _ _ _ _ _ h => h) (by kernel_rfl) (fun u => by go_simp; try rfl) ?_
      try simp only [Act.put, pz0, pz1, pz2]
      refine PF.pf_take0 5 (by kernel_rfl) rfl (fun _ _ _ _ _ h => h) (by kernel_rfl) (fun u => by go_simp; try rfl) ?_
      try simp only [Act.put, pz0, pz1, pz2]
      refine PF.pf_take0 6 (by kernel_rfl) rfl (fun _ _ _ _ _ h => h) (by kernel_rfl) (fun u => by go_simp; try rfl) ?_
      try simp only [Act.put, pz0, pz1, pz2]
      refine PF.pf_take0 7 (by kernel_rfl) rfl (fun _ _ _ _ _ h => h) (by kernel_rfl) (fun u => by go_simp; try rfl) ?_
      try simp only [Act.put, pz0, pz1, pz2]
      refine PF.pf_take0 8 (by kernel_rfl) rfl (fun _ _ _ _ _ h => h) (by kernel_rfl) (fun u => by go_simp; try rfl) ?_
      try simp only [Act.put, pz0, pz1, pz2]
      refine PF.pf_exec 0 (by kernel_rfl) rfl (by kernel_rfl) (fun K hK => ?_)
      refine wp_mkD0 rfl ?_
      intro g15 v0 ho0 hb0
      have HX0 := Lib.hid ho0
      have HY0 := Lib.hid ((Below.refl v13.heap.size v13).drew.trans hb0)
      clear ho0 hb0
      refine hK _ _ (by repeat (first | exact PF.owes_nil | refine PF.owes_left ?_ | refine PF.owes_no (by decide +kernel) ?_ | refine PF.owes_yes (by first | rfl | assumption | go_simp) ?_)) ?_
      clear hK K
      try simp only [Act.put, pz0, pz1, pz2]
      refine PF.pf_exec 4 (by kernel_rfl) rfl (by kernel_rfl) (fun K hK => ?_)
      refine wp_appD rfl HX0.out rfl (reads_takeD (HRO.out.below HY0.out) rfl (Nat.le_of_lt HQL.out)) HLT.out.1.symm rfl (fun y hy => HO1.out y (List.mem_of_mem_take hy)) (by have := HLT.out.1; have := HHL.out.2; have := HQL.out; show 0 + _ ≤ _; omega) HY0.out.size ?_
      intro x4 v5 ho4 hg4 hq4
      have HX4 := Lib.hid ho4
      have HY4 := Lib.hid (HY0.out.grown hg4 HY0.out.size (own_ge HX0.out))
      clear ho4 hg4 hq4
      refine hK _ _ (by repeat (first | exact PF.owes_nil | refine PF.owes_left ?_ | refine PF.owes_no (by decide +kernel) ?_ | refine PF.owes_yes (by first | rfl | assumption | go_simp) ?_)) ?_
      clear hK K
      try simp only [Act.put, pz0, pz1, pz2]
      refine PF.pf_exec 9 (by kernel_rfl) rfl (by kernel_rfl) (fun K hK => ?_)
      refine wp_appD rfl HX4.out rfl (reads_drop0 (HRO.out.below HY4.out) rfl (q := q + 1) HQL.out HCE.out) HLT.out.2.symm rfl (fun y hy => HO1.out y (List.mem_of_mem_drop hy)) (by rw [List.length_append]; have := HLT.out; have := HHL.out.2; have := HQL.out; show 0 + _ + _ ≤ _; omega) HY4.out.size ?_
      intro x9 v9 ho9 hg9 hq9
      have HX9 := Lib.hid ho9
      have HY9 := Lib.hid (HY4.out.grown hg9 HY4.out.size (own_ge HX4.out))
      clear ho9 hg9 hq9
      refine hK _ _ (by repeat (first | exact PF.owes_nil | refine PF.owes_left ?_ | refine PF.owes_no (by decide +kernel) ?_ | refine PF.owes_yes (by first | rfl | assumption | go_simp) ?_)) ?_
      clear hK K
      try simp only [Act.put, pz0, pz1, pz2]
      refine PF.pf_take0 10 (by kernel_rfl) rfl (fun _ _ _ _ _ h => h) (by kernel_rfl) (fun u => by go_simp; try rfl) ?_
      try simp only [Act.put, pz0, pz1, pz2]
      refine PF.pf_done (by kernel_rfl) ?_
      have HX9 : Hid (OwD v13.heap.size v9 x9 (E.take q ++ E.drop (q + 1))) := HX9.out
      have HM14 := Lib.hid (HM13.out.doned HY9.out HX9.out HBS13.out fun y hy => by rcases List.mem_append.1 hy with hy | hy; exact List.mem_of_mem_take hy; exact List.mem_of_mem_drop hy)
      have HFIN : Hid (MadS w B g6 gn (k + 1) (.slice A13 (H ++ [endV D.c D.r D.vc D.vr]).length c13) (.slice Ao O.length co) x9 v9) := by
        refine ⟨nx, H ++ [endV D.c D.r D.vc D.vr], O, E.take q ++ E.drop (q + 1), m, vl, vc, ?_, HM14.out, HB613.out.below HY9.out HB613.out.lt, HBN13.out.below HY9.out HBN13.out.lt, HT13.out.trans (HY9.out.mono HT13.out.size), Nat.le_trans HBS13.out HY9.out.size⟩
        have hst := HI.out.ends (i := q) (C := D.c) (R := D.r) (by rw [List.getElem?_map, HGT.out]; rfl)
        rw [List.eraseIdx_eq_take_drop_succ, ← List.map_take, ← List.map_drop, ← List.map_append] at hst
        rw [List.map_append (f := fun x : NtV => x.n)]
        exact hst
      clear HM13 HM14 HX0 HX4 HX9 HY0 HY4 HY9 HB613 HBN13 HT13 HBS13 HRO HO1 HLT
      go_wp2_with fail
      go_roundw
      case rel => exact ⟨k + 1, hlt, by go_num, HFIN.out⟩
      case measure => simp [intOf]; omega
    · obtain rfl : k = l.length := by omega
      obtain ⟨K, hslh⟩ := nt_of HM.out
      have hlen : (H.map fun x : NtV => x.n).length ≤ 150 := Nat.le_trans HI.out.hl (by omega)
      have HSLH := Lib.hid hslh
      have HLEN := Lib.hid hlen
      have HTT := Lib.hid HT.out
      have hln : l.length ≤ 150 := hn
      clear hslh hlen HM HB6 HBN HBS HCO HCE
      go_wp2_with fail
      refine (jmay_any HSLH.out HI.out.hok (Nat.le_trans HLEN.out (by decide))).mono ?_
      rintro e w3 ⟨hb3, b, er, rfl, hp⟩
      have hor := HI.out.may hln hp
      have HT3 := Lib.hid (HTT.out.trans (hb3.mono HTT.out.size))
      have HS3 := Lib.hid (HSLH.out.below hb3)
      clear hp hb3
      rcases hor with ⟨rfl, rfl⟩ | ⟨rfl, rfl⟩
      · go_wp2_with fail
        refine (is_any HS3.out HI.out.hok (Nat.le_trans HLEN.out (by decide))).mono ?_
        rintro e w4 ⟨rfl, hb4⟩
        have HT4 := Lib.hid (HT3.out.trans (hb4.mono HT3.out.size))
        have hisd : decide (IsH (H.map fun x : NtV => x.n)) = true := decide_eq_true HI.out.is
        rw [hisd]
        clear hb4 hisd
        go_wp2_with fail
        refine (HAW.out w4 HT4.out).mono ?_
        rintro e w5 ⟨rfl, hb⟩
        go_wp2_with fail
        go_ret
        exact ⟨rfl, hb⟩
      · go_wp2_with fail
        refine (is_any HS3.out HI.out.hok (Nat.le_trans HLEN.out (by decide))).mono ?_
        rintro e w4 ⟨rfl, hb4⟩
        have HT4 := Lib.hid (HT3.out.trans (hb4.mono HT3.out.size))
        have hisd : decide (IsH (H.map fun x : NtV => x.n)) = true := decide_eq_true HI.out.is
        rw [hisd]
        clear hb4 hisd
        go_wp2_with fail
        refine (HAW.out w4 HT4.out).mono ?_
        rintro e w5 ⟨rfl, hb⟩
        go_wp2_with fail
        go_ret
        exact ⟨rfl, hb⟩
end JudgeMade
end Go.Proofs.YtpjmolnkmlpfeaaGreatDoor
