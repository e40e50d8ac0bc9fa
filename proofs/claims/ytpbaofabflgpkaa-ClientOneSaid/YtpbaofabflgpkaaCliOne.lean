/- The law ClientOne, walked. -/
import Derived.Test.YtpbaofabflgpkaaCliU
namespace Go.Proofs.Ytpbaofabflgpkaa
set_option linter.unusedVariables false
set_option linter.unusedSimpArgs false
open Go.RowKit

theorem i64_and31 (n : Int) : bits .and .i64 n 31 = n % 32 := by
  have h1 : (BitVec.ofInt 64 n &&& BitVec.ofInt 64 31).toNat = (BitVec.ofInt 64 n).toNat % 32 := by
    rw [BitVec.toNat_and, show (BitVec.ofInt 64 31).toNat = 31 by decide]
    exact Nat.and_two_pow_sub_one_eq_mod _ 5
  show IntKind.i64.wrap ((BitVec.ofInt 64 n &&& BitVec.ofInt 64 31).toNat : Int) = _
  rw [h1, BitVec.toNat_ofInt, IntKind.wrap_i64]
  omega
theorem zero_lv {K : Nat → Prop} {w : World} {g : Nat} (h : Blk w g 27 (calL zCal (.slice none 0 0)).toArray) : Lv K w g zCal := ⟨_, h, SlB.nil _ _⟩
theorem zero_rv {K : Nat → Prop} {w : World} {g : Nat} (h : Blk w g 36 (repL zRep (.slice none 0 0)).toArray) : Rv K w g zRep := ⟨_, h, SlB.nil _ _⟩
theorem rng_below {w w' : World} {g o : Nat} {vs : List Value} (h : w.rangeAt g o vs) (hb : Below w.heap.size w w') : w'.rangeAt g o vs := fun j v hv => (hb.cell (p := ⟨g, o + j, none⟩) (World.block_lt_of_cell? w _ (h j v hv))).trans (h j v hv)
theorem take_step {α : Type} [DecidableEq α] {l : List α} {p : Nat} {x : α} (hp : p < l.length) (h : l[p] = x) : decide (x ∈ l.take (p + 1)) = true := decide_eq_true (by rw [List.take_succ_eq_append_getElem hp, h]; simp)
theorem take_in {α : Type} [DecidableEq α] {l : List α} {p : Nat} {x : α} (hp : p < l.length) (h : x ∈ l.take p) : decide (x ∈ l.take (p + 1)) = true := decide_eq_true (by rw [List.take_succ_eq_append_getElem hp]; exact List.mem_append_left _ h)
theorem take_out {α : Type} [DecidableEq α] {l : List α} {p : Nat} {x : α} (hp : p < l.length) (h : ¬ x ∈ l.take p) (h2 : l[p] ≠ x) : decide (x ∈ l.take (p + 1)) = false := decide_eq_false (by
  rw [List.take_succ_eq_append_getElem hp]
  intro hx
  rcases List.mem_append.1 hx with hx | hx
  · exact h hx
  · exact h2 (List.mem_singleton.1 hx).symm)
set_option maxRecDepth 100000 in
set_option maxHeartbeats 16000000 in
theorem one_any {Ki Ke : Nat → Prop} {w : World} {nid : Int} {inc : Nat} {vi : Value} {bs : List Int} {Ae : Option Addr} {es : List Ev} {ce : Nat} (hvi : SlI Ki w vi bs) (hn : bs.length * 8 ≤ 140737488351232) (hev : Evs Ke w Ae es) :
    Calls Try.prog 3 #[.int .i64 nid, .int .u64 (inc : Int), vi, .slice Ae es.length ce] w fun e w' => e = .returned (.bool true) ∧ Below w.heap.size w w' := by
  have HVI := Lib.hid hvi
  have HNN := Lib.hid hn
  have HEV := Lib.hid hev
  clear hvi hn hev
  obtain ⟨Ai, ci, rfl, hvr, _⟩ := id HVI.out
  have HVRD := Lib.hid hvr
  clear hvr
  go_enter Try.func3, Try.ntmps3
  go_wp2_with fail
  refine (new_any (nid := nid) (inc := inc) (bs := bs) HVI.out HNN.out).mono ?_
  rintro e w2 ⟨hp, hb⟩
  have HT := Lib.hid hb
  clear hb
  rcases hp with ⟨hok, vb, rfl, hvb⟩ | ⟨_, rfl⟩
  · skip
    have HVB := Lib.hid hvb
    have HO : Hid (vb.oneCell' = true) := hvb.one
    have HOK := Lib.hid hok
    clear hvb hok
    go_wp2_with (refine wpList_alloc_blk rfl rfl zero_client ?_; rintro g w3 hg hB hb; refine Hid.out ?_)
    refine Lib.hid ?_
    have HG : Hid (w.heap.size ≤ g) := by { show _ ≤ _; rw [← hg]; exact HT.out.size }
    have HGN : Hid (w2.heap.size = g) := hg
    have HT := Lib.hid (below_call HT.out HT.out.size hb)
    have HB := Lib.hid hB
    have HW := Lib.hid hb
    go_wp2_with (refine wpList_store_blk rfl rfl rfl rfl HB.out rfl (info_client rfl) (cliL_one HO.out rfl) ?_; rintro w4 hB4 hm; refine Hid.out ?_)
    refine Lib.hid ?_
    have HT := Lib.hid (HT.out.trans (hm.to_below HT.out.size fun b hb e => by have := HG.out; omega))
    have HC : Hid (Cv (fun b => b ≠ g) w4 g (newX nid inc bs)) := ⟨vb, _, hB4, ((HVB.out.weak (K' := fun b => b ≠ g) fun b h _ => by have := HGN.out; show b ≠ g; omega).below HW.out).mod hm fun b h => h, SlB.nil _ _⟩
    clear hg hB hb hB4 hm HW HB HVB HO HGN
    by_cases hl : 300 < es.length
    · have d1 : decide ((300 : Int) < (es.length : Int)) = true := decide_eq_true (by omega)
      have d1' : decide (300 < es.length) = true := decide_eq_true hl
      clear hl
      go_wp2_with fail
      refine (cawake_any _).mono ?_
      rintro e w9 ⟨rfl, hb9⟩
      go_wp2_with fail
      go_ret
      exact ⟨rfl, below_call HT.out HT.out.size hb9⟩
    have d1 : decide ((300 : Int) < (es.length : Int)) = false := decide_eq_false (by omega)
    have d1' : decide (300 < es.length) = false := decide_eq_false hl
    have HL3 := Lib.hid hl
    clear hl
    go_wp2_with (refine wpList_alloc_blk rfl rfl zero_call ?_; rintro h w5 hg hB hb; refine Hid.out ?_)
    refine Lib.hid ?_
    have HGH : Hid (g ≠ h ∧ w.heap.size ≤ g ∧ w.heap.size ≤ h) := by { show _ ∧ _; have := HC.out.lt; have := HT.out.size; have := HG.out; omega }
    have HC := Lib.hid ((HC.out.weak (K' := fun b => b ≠ g ∧ b ≠ h) fun b hb h => ⟨h, by omega⟩).below hb)
    have HL : Hid (Lv (fun b => b ≠ g ∧ b ≠ h) w5 h zCal) := zero_lv hB
    have HT := Lib.hid (below_call HT.out HT.out.size hb)
    have HI := Lib.hid (OneI.new HOK.out)
    clear hg hB hb HG
    clear d1 d1'
    go_wp2_with fail
    go_loopw [11, 12, 13, 15] (fun nowv nv onv iv wr => ∃ (k nw : Nat) (X : Cli) (B : Cal), k ≤ es.length ∧ nw ≤ 31 * k ∧ nowv = .int .u64 (nw : Int) ∧ nv = .int .u64 (X.n : Int) ∧ onv = .bool (decide (X.busy = 1)) ∧ iv = .int .i64 (k : Int) ∧ Cv (fun b => b ≠ g ∧ b ≠ h) wr g X ∧ Lv (fun b => b ≠ g ∧ b ≠ h) wr h B ∧ OneI nid inc bs k X B ∧ Below w.heap.size w wr) (fun _ _ _ iv _ => es.length - (intOf iv).toNat)
    case atStart => exact ⟨0, 0, _, _, by omega, by omega, rfl, rfl, rfl, rfl, HC.out, HL.out, HI.out, HT.out⟩
    case round =>
      skip
      clear HC HL HI HT
      obtain ⟨wo, rfl⟩ : ∃ wo : World, wo = wr := ⟨_, rfl⟩
      obtain ⟨k, nw, X, B, hk, hnw, rfl, rfl, rfl, rfl, hc, hl, hi, hb⟩ := hrel
      have HC := Lib.hid hc
      have HL := Lib.hid hl
      have HI := Lib.hid hi
      have HT := Lib.hid hb
      have HNW : Hid (nw ≤ 9300) := by { show _ ≤ _; have := HL3.out; omega }
      have HK : Hid (k ≤ es.length ∧ nw ≤ 31 * k) := ⟨hk, hnw⟩
      clear hc hl hi hb hnw
      by_cases hlt : k < es.length
      · skip
        obtain ⟨b, oo, rfl, hbl, hrg⟩ := ev_at HEV.out.1 hlt
        have heo := HEV.out.2 _ (List.getElem_mem hlt)
        have hrg' : wo.rangeAt b (oo + k * 20) es[k].cells := fun j u hu => (HT.out.cell (p := ⟨b, oo + k * 20 + j, none⟩) hbl).trans (hrg j u hu)
        have HLT := Lib.hid hlt
        generalize es[k] = ev at hrg' heo
        have HRG := Lib.hid hrg'
        have HEO : Hid (ev.ok (fun b => b < w.heap.size) w) := ⟨heo.1.weak fun b h _ => h, heo.2.weak fun b h _ => h⟩
        obtain ⟨C1, cc1, e1, _⟩ := heo.1
        obtain ⟨C2, cc2, e2, _⟩ := heo.2
        have HO : Hid (ev.vc.oneCell' = true ∧ ev.vr.oneCell' = true) := ⟨heo.1.one, heo.2.one⟩
        clear hrg hrg' heo hbl

        go_wp2_with (refine wpList_load_rg rfl (ty := 38) rfl (vs := ev.cells) rfl HRG.out Try.underlying38 rfl (info_event20 rfl) ?_; refine Hid.out ?_)
        refine Lib.hid ?_
        go_wp2_with (refine wpList_alloc_blk rfl rfl zero_event ?_; rintro xb w5 hg hB hb; refine Hid.out ?_)
        refine Lib.hid ?_
        have HXB : Hid (xb ≠ g ∧ xb ≠ h ∧ w.heap.size ≤ xb) := by { show _ ∧ _; have := HC.out.lt; have := HL.out.lt; have := HT.out.size; omega }
        have HC := Lib.hid ((HC.out.weak (K' := fun b => b ≠ g ∧ b ≠ h ∧ b ≠ xb) fun b hb h => ⟨h.1, h.2, by omega⟩).below hb)
        have HL := Lib.hid ((HL.out.weak (K' := fun b => b ≠ g ∧ b ≠ h ∧ b ≠ xb) fun b hb h => ⟨h.1, h.2, by omega⟩).below hb)
        have HT := Lib.hid (below_call HT.out HT.out.size hb)
        have HX := Lib.hid hB
        clear hg hB hb HRG
        go_wp2_with (refine wpList_store_blk rfl rfl rfl rfl HX.out rfl (info_event rfl) (ev_one HO.out.1 HO.out.2) ?_; rintro w6 hB hm; refine Hid.out ?_)
        refine Lib.hid ?_
        have HC := Lib.hid (HC.out.mod hm (by have := HXB.out; omega) fun b h => h.2.2)
        have HL := Lib.hid (HL.out.mod hm (by have := HXB.out; omega) fun b h => h.2.2)
        have HT := Lib.hid (HT.out.trans (hm.to_below HT.out.size fun b hb e => by have := HXB.out; omega))
        have HX : Hid (Xv w6 xb ev) := hB
        clear hB hm HO
        have x1 := HX.out.vc
        have x2 := HX.out.vr
        rw [e1] at x1
        rw [e2] at x2
        clear e1 e2
        by_cases hl1 : 5000 < ev.call.body.length
        · have d1 : decide ((5000 : Int) < (ev.call.body.length : Int)) = true := decide_eq_true (by omega)
          have d1' : decide (5000 < ev.call.body.length) = true := decide_eq_true hl1
          clear hl1
          go_wp2_with fail
          refine (cawake_any _).mono ?_
          rintro e w9 ⟨rfl, hb9⟩
          go_wp2_with fail
          go_ret
          exact ⟨rfl, below_call HT.out HT.out.size hb9⟩
        have d1 : decide ((5000 : Int) < (ev.call.body.length : Int)) = false := decide_eq_false (by omega)
        have d1' : decide (5000 < ev.call.body.length) = false := decide_eq_false hl1
        have HB1 := Lib.hid hl1
        clear hl1
        by_cases hl2 : 5000 < ev.rep.body.length
        · have d2 : decide ((5000 : Int) < (ev.rep.body.length : Int)) = true := decide_eq_true (by omega)
          have d2' : decide (5000 < ev.rep.body.length) = true := decide_eq_true hl2
          clear hl2
          go_wp2_with fail
          refine (cawake_any _).mono ?_
          rintro e w9 ⟨rfl, hb9⟩
          go_wp2_with fail
          go_ret
          exact ⟨rfl, below_call HT.out HT.out.size hb9⟩
        have d2 : decide ((5000 : Int) < (ev.rep.body.length : Int)) = false := decide_eq_false (by omega)
        have d2' : decide (5000 < ev.rep.body.length) = false := decide_eq_false hl2
        have HB2 := Lib.hid hl2
        clear hl2
        go_wp2_with (refine wpList_alloc_blk rfl rfl zero_reply ?_; rintro rb w7 hg hB hb; refine Hid.out ?_)
        refine Lib.hid ?_
        clear x1 x2 d1 d1' d2 d2'
        have HRB : Hid (rb ≠ g ∧ rb ≠ h ∧ rb ≠ xb ∧ w.heap.size ≤ rb) := by { show _ ∧ _; have := HC.out.lt; have := HL.out.lt; have := Blk.lt HX.out; have := HT.out.size; omega }
        have HC := Lib.hid ((HC.out.weak (K' := fun b => b ≠ g ∧ b ≠ h ∧ b ≠ rb) fun b hb h => ⟨h.1, h.2.1, by omega⟩).below hb)
        have HL := Lib.hid ((HL.out.weak (K' := fun b => b ≠ g ∧ b ≠ h ∧ b ≠ rb) fun b hb h => ⟨h.1, h.2.1, by omega⟩).below hb)
        have HT := Lib.hid (below_call HT.out HT.out.size hb)
        have HX : Hid (Xv w7 xb ev) := Blk.below HX.out hb (Blk.lt HX.out)
        have HR : Hid (Rv (fun b => b ≠ g ∧ b ≠ h ∧ b ≠ rb) w7 rb zRep) := zero_rv hB
        clear hg hB hb
        obtain ⟨ob, hob⟩ : ∃ ob : Bool, decide (X.busy = 1) = ob := ⟨_, rfl⟩
        rw [hob]
        have HOB := Lib.hid hob
        clear hob
        have xd := HX.out.do_
        by_cases hd0 : ev.do_ = 0
        · have HD0 := Lib.hid hd0
          rw [hd0] at xd
          clear hd0
          obtain ⟨vb, vc, hB, hvb, hvc⟩ := HC.out
          have HB := Lib.hid hB
          have HVB := Lib.hid hvb
          have HVC := Lib.hid hvc
          have HSZ : Hid (g < w7.heap.size ∧ h < w7.heap.size ∧ rb < w7.heap.size) := ⟨HC.out.lt, HL.out.lt, HR.out.lt⟩
          clear hB hvb hvc
          go_wp2_with (refine wpList_load_blk rfl (ty := 29) rfl rfl HB.out Try.underlying29 rfl (info_client rfl) ?_; refine Hid.out ?_)
          refine Lib.hid ?_
          go_wp2_with (refine wpList_load_rg rfl (ty := 27) rfl (vs := calL ev.call ev.vc) rfl HX.out.call Try.underlying27 rfl (info_call9 rfl) ?_; refine Hid.out ?_)
          refine Lib.hid ?_
          go_wp2_with fail
          clear xd
          have hT := start_any (X := X) (now := nw) (D := ev.call) HVB.out HVC.out (HEO.out.1.below HT.out) HI.out.good (by have := HI.out.body; omega) (by have := HB1.out; omega) (by have := HI.out.n; have := HL3.out; have := HK.out.1; omega)
          refine hT.mono ?_
          clear hT
          rintro e w8 ⟨hp, hb⟩
          unfold StartPost at hp
          have HT := Lib.hid (below_call HT.out HT.out.size hb)
          have HB := Lib.hid (HB.out.below hb HB.out.lt)
          have HC := Lib.hid (HC.out.below hb)
          have HL := Lib.hid (HL.out.below hb)
          have HX : Hid (Xv w8 xb ev) := Blk.below HX.out hb (Blk.lt HX.out)
          have HR := Lib.hid (HR.out.below hb)
          clear hb
          by_cases hs0 : startE X ev.call = 0
          · as_aux_lemma =>
              rw [if_pos hs0] at hp
              obtain ⟨vb', vc', sv, rfl, hvb, hvc, hsv⟩ := hp
              have hbz := startE_busy hs0
              have hob := HOB.out
              rw [decide_eq_false hbz] at hob
              subst hob
              have HI := Lib.hid (HI.out.start nw hs0 (by have := HL3.out; have := HK.out.1; omega) (by have := HB1.out; omega))
              have HS := Lib.hid (hsv.weak (K' := fun b => b ≠ g ∧ b ≠ h ∧ b ≠ rb) fun b _ h' => by have := HSZ.out; have h' : w7.heap.size ≤ b := h'; show b ≠ g ∧ b ≠ h ∧ b ≠ rb; omega)
              obtain ⟨sb, sc, _, es', _, _, _, _, _, _⟩ := HS.out.cells
              subst es'
              have HVB := Lib.hid (hvb.weak (K' := fun b => b ≠ g ∧ b ≠ h ∧ b ≠ rb) fun b _ h' => by have := HSZ.out; have h' : w7.heap.size ≤ b := h'; show b ≠ g ∧ b ≠ h ∧ b ≠ rb; omega)
              have HVC := Lib.hid (hvc.weak (K' := fun b => b ≠ g ∧ b ≠ h ∧ b ≠ rb) fun b _ h' => by have := HSZ.out; have h' : w7.heap.size ≤ b := h'; show b ≠ g ∧ b ≠ h ∧ b ≠ rb; omega)
              have HO : Hid (vb'.oneCell' = true ∧ vc'.oneCell' = true) := ⟨hvb.one, hvc.one⟩
              have HM0 := Lib.hid (Below.refl w8.heap.size w8)
              clear hvb hvc hsv hs0 hbz
              go_wp2_with (refine wpList_alloc_blk rfl rfl zero_client ?_; rintro n20 w9 hg hB hb; refine Hid.out ?_)
              refine Lib.hid ?_
              have HN : Hid (n20 ≠ g ∧ n20 ≠ h ∧ n20 ≠ rb ∧ n20 ≠ xb ∧ w8.heap.size ≤ n20) := by { show _ ∧ _; have := HC.out.lt; have := HL.out.lt; have := HR.out.lt; have := Blk.lt HX.out; omega }
              have HM0 := Lib.hid (below_call HM0.out HM0.out.size hb)
              have HB20 := Lib.hid hB
              clear hg hB hb
              go_wp2_with (refine wpList_store_blk rfl rfl rfl rfl HB20.out rfl (info_client rfl) (cliL_one HO.out.1 HO.out.2) ?_; rintro w10 hB hm; refine Hid.out ?_)
              refine Lib.hid ?_
              have HM0 := Lib.hid (HM0.out.trans (hm.to_below HM0.out.size fun b hb e => absurd (show b = n20 from e) (by have := HN.out; omega)))
              have HT := Lib.hid (below_call HT.out HT.out.size HM0.out)
              have HB := Lib.hid (HB.out.below HM0.out HB.out.lt)
              have HL := Lib.hid (HL.out.below HM0.out)
              have HX : Hid (Xv w10 xb ev) := Blk.below HX.out HM0.out (Blk.lt HX.out)
              have HR := Lib.hid (HR.out.below HM0.out)
              have HS := Lib.hid (HS.out.below HM0.out)
              have HVB := Lib.hid (HVB.out.below HM0.out)
              have HVC := Lib.hid (HVC.out.below HM0.out)
              have HB20 := Lib.hid hB
              clear hB hm HM0 HC
              go_wp2_with (refine wpList_load_blk rfl (ty := 29) rfl rfl HB20.out Try.underlying29 rfl (info_client rfl) ?_; refine Hid.out ?_)
              refine Lib.hid ?_
              go_wp2_with (refine wpList_store_blk rfl rfl rfl rfl HB.out rfl (info_client rfl) (cliL_one HO.out.1 HO.out.2) ?_; rintro w11 hB hm; refine Hid.out ?_)
              refine Lib.hid ?_
              have HT := Lib.hid (HT.out.trans (hm.to_below HT.out.size fun b hb e => by have := HGH.out; omega))
              have HC : Hid (Cv (fun b => b ≠ g ∧ b ≠ h ∧ b ≠ rb) w11 g (startX X nw ev.call)) := ⟨vb', vc', hB, HVB.out.mod hm fun b h' => h'.1, HVC.out.mod hm fun b h' => h'.1⟩
              have HL := Lib.hid (HL.out.mod hm (by have := HGH.out; omega) fun b h' => h'.1)
              have HX : Hid (Xv w11 xb ev) := Blk.mod HX.out hm (by have := HXB.out; omega)
              have HR := Lib.hid (HR.out.mod hm (by have := HRB.out; omega) fun b h' => h'.1)
              have HS := Lib.hid (HS.out.mod hm fun b h' => h'.1)
              clear hB hm HB20 HB HVB HVC HO HN
              have hadd : IntKind.u64.wrap ((X.n : Int) + 1) = (X.n : Int) + 1 := by rw [IntKind.wrap_u64]; have := HI.out.n; have : (startX X nw ev.call).n = X.n + 1 := rfl; have := HL3.out; have := HK.out.1; omega
              go_wp2_with (refine wpList_load_rg rfl (ty := 27) rfl (vs := calL ev.call ev.vc) rfl HX.out.call Try.underlying27 rfl (info_call9 rfl) ?_; refine Hid.out ?_)
              refine Lib.hid ?_
              clear hadd
              go_wp2_with fail
              refine (rowncall_any (HEO.out.1.below HT.out) (by have := HB1.out; omega)).mono ?_
              rintro e w12 ⟨⟨v', rfl, hv'⟩, hb⟩
              have HSZ : Hid (g < w11.heap.size ∧ h < w11.heap.size ∧ rb < w11.heap.size) := ⟨HC.out.lt, HL.out.lt, HR.out.lt⟩
              have HT := Lib.hid (below_call HT.out HT.out.size hb)
              have HC := Lib.hid (HC.out.below hb)
              have HX : Hid (Xv w12 xb ev) := Blk.below HX.out hb (Blk.lt HX.out)
              have HR := Lib.hid (HR.out.below hb)
              have HS := Lib.hid (HS.out.below hb)
              have HV := Lib.hid (hv'.weak (K' := fun b => b ≠ g ∧ b ≠ h ∧ b ≠ rb) fun b _ h' => by have := HSZ.out; have h' : w11.heap.size ≤ b := h'; show b ≠ g ∧ b ≠ h ∧ b ≠ rb; omega)
              have HO := Lib.hid hv'.one
              obtain ⟨vB, hBB, _⟩ := HL.out.below hb
              have HBB := Lib.hid hBB
              clear hb hv' hBB HL
              go_wp2_with (refine wpList_store_blk rfl rfl rfl rfl HBB.out rfl (info_call rfl) (calL_one HO.out) ?_; rintro w13 hB hm; refine Hid.out ?_)
              refine Lib.hid ?_
              have HM := Lib.hid hm
              have HBB := Lib.hid hB
              have y0 : w13.cell? ⟨h, 0, none⟩ = some (.int .i64 ev.call.cl) := (hB.cell 0).trans rfl
              have y1 : w13.cell? ⟨h, 1, none⟩ = some (.int .u64 (ev.call.inc : Int)) := (hB.cell 1).trans rfl
              have y2 : w13.cell? ⟨h, 2, none⟩ = some (.int .u64 (ev.call.n : Int)) := (hB.cell 2).trans rfl
              have f0 := hB.free 0
              have f1 := hB.free 1
              have f2 := hB.free 2
              have hP := ((hB.put 0 (.int .i64 nid)).put 1 (.int .u64 (inc : Int))).put 2 (.int .u64 ((X.n : Int) + 1))
              have HXE := Lib.hid HI.out.id_
              have HXE2 := Lib.hid HI.out.inc_
              have hP2 : Blk (((w13.setCell ⟨h, 0, none⟩ (.int .i64 nid)).setCell ⟨h, 1, none⟩ (.int .u64 (inc : Int))).setCell ⟨h, 2, none⟩ (.int .u64 ((X.n : Int) + 1))) h 27 (calL (callX X ev.call) v').toArray := by
                have e1 : X.id = nid := HI.out.id_
                have e2 : X.inc = inc := HI.out.inc_
                rw [← e1, ← e2] at hP
                rw [put_callX] at hP
                rw [← e1, ← e2]
                exact hP
              have HP2 := Lib.hid hP2
              have hm3 : Mod (fun b => b = h) w13 (((w13.setCell ⟨h, 0, none⟩ (.int .i64 nid)).setCell ⟨h, 1, none⟩ (.int .u64 (inc : Int))).setCell ⟨h, 2, none⟩ (.int .u64 ((X.n : Int) + 1))) := ((Mod.set (S := fun b => b = h) (Mod.set (S := fun b => b = h) (Mod.set (S := fun b => b = h) (Mod.refl _ w13) (p := ⟨h, 0, none⟩) (fun _ => rfl) _) (p := ⟨h, 1, none⟩) (fun _ => rfl) _) (p := ⟨h, 2, none⟩) (fun _ => rfl) _))
              have HM3 := Lib.hid (HM.out.trans hm3)
              clear hB hm hP hP2 hm3 HXE HXE2
              generalize hW : (((w13.setCell ⟨h, 0, none⟩ (.int .i64 nid)).setCell ⟨h, 1, none⟩ (.int .u64 (inc : Int))).setCell ⟨h, 2, none⟩ (.int .u64 ((X.n : Int) + 1))) = w14 at HP2 HM3
              have HC := Lib.hid (HC.out.mod HM3.out (by have := HGH.out; omega) fun b h' => h'.2.1)
              have HX : Hid (Xv w14 xb ev) := Blk.mod HX.out HM3.out (by have := HXB.out; omega)
              have HR := Lib.hid (HR.out.mod HM3.out (by have := HRB.out; omega) fun b h' => h'.2.1)
              have HS : Hid (SlS (fun b => b ≠ g ∧ b ≠ h ∧ b ≠ rb) w14 (.slice (some ⟨sb, 0, none⟩) 1 sc) (sentX (startX X nw ev.call))) := HS.out.mod HM3.out fun b h' => h'.2.1
              have HT := Lib.hid (HT.out.trans (HM3.out.to_below HT.out.size fun b hb e => by have := HGH.out; omega))
              have HL : Hid (Lv (fun b => b ≠ g ∧ b ≠ h ∧ b ≠ rb) w14 h (callX X ev.call)) := ⟨v', HP2.out, HV.out.mod HM3.out fun b h' => h'.2.1⟩
              have HXN : Hid (((startX X nw ev.call).n : Int) = (X.n : Int) + 1) := by show _ = _; exact Int.natCast_succ X.n
              have HXB2 : Hid ((startX X nw ev.call).busy = 1) := rfl
              obtain ⟨to, hto⟩ : ∃ to, (startX X nw ev.call).bs.getD (startX X nw ev.call).at_ 0 = to := ⟨_, rfl⟩
              have HS : Hid (SlS (fun b => b ≠ g ∧ b ≠ h ∧ b ≠ rb) w14 (.slice (some ⟨sb, 0, none⟩) 1 sc) (some (to, callX X ev.call))) := by { rw [← hto]; exact HS.out }
              have HTO : Hid (to ∈ bs) := by { show _ ∈ _; rw [← hto]; have := sent_mem HI.out.good; rw [HI.out.bs_] at this; rw [HI.out.bs_]; exact this }
              have HMB : Hid (mayC (callX X ev.call) = true) := (HI.out.begun rfl).2.1
              have HWW := Lib.hid hW
              clear hto hW HM HM3 HV HP2 HBB HO
              go_wp2_with fail
              clear y0 y1 y2 f0 f1 f2
              rw [HWW.out]
              clear HWW
              generalize startX X nw ev.call = X1 at *
              generalize callX X ev.call = B1 at *
              obtain ⟨vbZ, vcZ, hBZ, _⟩ := HC.out
              have n2 : w14.cell? ⟨g, 2, none⟩ = some (.int .u64 ((X.n : Int) + 1)) := by rw [← HXN.out]; exact (hBZ.cell 2).trans rfl
              have b4 : w14.cell? ⟨g, 4, none⟩ = some (.int .i64 1) := by rw [← HXB2.out]; exact (hBZ.cell 4).trans rfl
              clear hBZ
              have N2 := Lib.hid n2
              have B4 := Lib.hid b4
              clear n2 b4
              go_wp2_with fail
              go_loopw [23] (fun iv wi => ∃ q : Nat, q ≤ 1 ∧ iv = .int .i64 (q : Int) ∧ Below w14.heap.size w14 wi) (fun iv _ => 1 - (intOf iv).toNat)
              case atStart => exact ⟨0, by omega, rfl, Below.refl _ _⟩
              case round =>
                skip
                obtain ⟨wq, rfl⟩ : ∃ wq : World, wq = wr := ⟨_, rfl⟩
                obtain ⟨q, hq, rfl, hbq⟩ := hrel
                have HBQ := Lib.hid hbq
                clear hbq
                by_cases hqs : q < 1
                · obtain rfl : q = 0 := by omega
                  clear hqs hq
                  go_wp2_with fail
                  go_loopw [24, 25] (fun iv jv wi => ∃ q : Nat, q ≤ bs.length ∧ jv = .int .i64 (q : Int) ∧ iv = .bool (decide (to ∈ bs.take q)) ∧ Below w14.heap.size w14 wi) (fun _ jv _ => bs.length - (intOf jv).toNat)
                  case atStart => exact ⟨0, by omega, rfl, by simp, HBQ.out⟩
                  case round =>
                    skip
                    clear HBQ
                    obtain ⟨p, hp, rfl, rfl, hbq⟩ := hrel
                    have HBQ := Lib.hid hbq
                    clear hbq
                    by_cases hpl : p < bs.length
                    · skip
                      obtain ⟨bb, o2, rfl, hbl, hcl⟩ := Reads.flat (HVRD.out.below HT.out) (by omega) (by decide)
                      have c0 := (HBQ.out.cell (p := ⟨bb, o2 + p, none⟩) hbl).trans (hcl p _ (by rw [List.getElem?_map, List.getElem?_eq_getElem hpl]; rfl))
                      unfold iv at c0
                      have s0 := (HS.out.below HBQ.out).look.1
                      have HD : Hid (Below w14.heap.size w14 wr.drew) := HBQ.out.drew
                      have HPN := Lib.hid hp
                      clear hcl hbl
                      by_cases hin : to ∈ bs.take p
                      · have HN := Lib.hid (take_in hpl hin)
                        rw [decide_eq_true hin]
                        have HPL := Lib.hid hpl
                        generalize bs[p] = x at c0
                        clear hin hp
                        go_wp2_with fail
                        refine PF.pf_begin (by kernel_rfl) ?_
                        refine PF.pf_take0 0 (by kernel_rfl) rfl (fun _ _ _ _ _ h => h) (by kernel_rfl) (fun u => by go_simp; try rfl) ?_
                        try simp only [Act.put, pz0, pz1, pz2]
                        refine PF.pf_take0 1 (by kernel_rfl) rfl (fun _ _ _ _ _ h => h) (by kernel_rfl) (fun u => by go_simp; try rfl) ?_
                        try simp only [Act.put, pz0, pz1, pz2]
                        refine PF.pf_skip0 2 (by kernel_rfl) rfl (fun _ _ _ _ _ h => h) (by kernel_rfl) ?_
                        try simp only [Act.put, pz0, pz1, pz2]
                        refine PF.pf_skip0 3 (by kernel_rfl) rfl (fun _ _ _ _ _ h => h) (by kernel_rfl) ?_
                        try simp only [Act.put, pz0, pz1, pz2]
                        refine PF.pf_skip0 4 (by kernel_rfl) rfl (fun _ _ _ _ _ h => h) (by kernel_rfl) ?_
                        try simp only [Act.put, pz0, pz1, pz2]
                        refine PF.pf_skip0 5 (by kernel_rfl) rfl (fun _ _ _ _ _ h => h) (by kernel_rfl) ?_
                        try simp only [Act.put, pz0, pz1, pz2]
                        refine PF.pf_skip0 6 (by kernel_rfl) rfl (fun _ _ _ _ _ h => h) (by kernel_rfl) ?_
                        try simp only [Act.put, pz0, pz1, pz2]
                        refine PF.pf_skip0 7 (by kernel_rfl) rfl (fun _ _ _ _ _ h => h) (by kernel_rfl) ?_
                        try simp only [Act.put, pz0, pz1, pz2]
                        refine PF.pf_skip0 8 (by kernel_rfl) rfl (fun _ _ _ _ _ h => h) (by kernel_rfl) ?_
                        try simp only [Act.put, pz0, pz1, pz2]
                        refine PF.pf_skip0 9 (by kernel_rfl) rfl (fun _ _ _ _ _ h => h) (by kernel_rfl) ?_
                        try simp only [Act.put, pz0, pz1, pz2]
                        refine PF.pf_skip0 10 (by kernel_rfl) rfl (fun _ _ _ _ _ h => h) (by kernel_rfl) ?_
                        try simp only [Act.put, pz0, pz1, pz2]
                        refine PF.pf_skip0 11 (by kernel_rfl) rfl (fun _ _ _ _ _ h => h) (by kernel_rfl) ?_
                        try simp only [Act.put, pz0, pz1, pz2]
                        refine PF.pf_take0 12 (by kernel_rfl) rfl (fun _ _ _ _ _ h => h) (by kernel_rfl) (fun u => by go_simp; try rfl) ?_
                        try simp only [Act.put, pz0, pz1, pz2]
                        refine PF.pf_take0 13 (by kernel_rfl) rfl (fun _ _ _ _ _ h => h) (by kernel_rfl) (fun u => by go_simp; try rfl) ?_
                        try simp only [Act.put, pz0, pz1, pz2]
                        refine PF.pf_done (by kernel_rfl) ?_
                        go_wp2_with fail
                        go_roundw
                        case rel => exact ⟨p + 1, by have := HPL.out; omega, by go_num, by rw [HN.out], HD.out⟩
                        case measure => have := HPL.out; simp [intOf]; omega
                      by_cases hx : bs[p] = to
                      · skip
                        have HN := Lib.hid (take_step hpl hx)
                        have q0 : (bs[p] == to) = true := beq_iff_eq.2 hx
                        have q1 : decide (bs[p] = to) = true := decide_eq_true hx
                        rw [decide_eq_false hin]
                        have HPL := Lib.hid hpl
                        generalize bs[p] = x at c0 q0 q1
                        clear hin hp hx
                        go_wp2_with fail
                        refine PF.pf_begin (by kernel_rfl) ?_
                        refine PF.pf_take0 0 (by kernel_rfl) rfl (fun _ _ _ _ _ h => h) (by kernel_rfl) (fun u => by go_simp; try rfl) ?_
                        try simp only [Act.put, pz0, pz1, pz2]
                        refine PF.pf_take0 1 (by kernel_rfl) rfl (fun _ _ _ _ _ h => h) (by kernel_rfl) (fun u => by go_simp; try rfl) ?_
                        try simp only [Act.put, pz0, pz1, pz2]
                        refine PF.pf_take0 2 (by kernel_rfl) rfl (fun _ _ _ _ _ h => h) (by kernel_rfl) (fun u => by go_simp; try rfl) ?_
                        try simp only [Act.put, pz0, pz1, pz2]
                        refine PF.pf_take0 3 (by kernel_rfl) rfl (fun _ _ _ _ _ h => h) (by kernel_rfl) (fun u => by go_simp; try rfl) ?_
                        try simp only [Act.put, pz0, pz1, pz2]
                        refine PF.pf_take0 4 (by kernel_rfl) rfl (fun _ _ _ _ _ h => h) (by kernel_rfl) (fun u => by go_simp; try rfl) ?_
                        try simp only [Act.put, pz0, pz1, pz2]
                        refine PF.pf_take1 5 (PF.Same (bb) _) (by kernel_rfl) rfl (fun _ _ _ _ _ h => h) (by kernel_rfl) (PF.Same.refl _ _) (fun u hu => by have hcu := hu.cell; go_simp; try rfl) ?_
                        try simp only [Act.put, pz0, pz1, pz2]
                        refine PF.pf_take0 6 (by kernel_rfl) rfl (fun _ _ _ _ _ h => h) (by kernel_rfl) (fun u => by go_simp; try rfl) ?_
                        try simp only [Act.put, pz0, pz1, pz2]
                        refine PF.pf_take0 7 (by kernel_rfl) rfl (fun _ _ _ _ _ h => h) (by kernel_rfl) (fun u => by go_simp; try rfl) ?_
                        try simp only [Act.put, pz0, pz1, pz2]
                        refine PF.pf_take0 8 (by kernel_rfl) rfl (fun _ _ _ _ _ h => h) (by kernel_rfl) (fun u => by go_simp; try rfl) ?_
                        try simp only [Act.put, pz0, pz1, pz2]
                        refine PF.pf_take0 9 (by kernel_rfl) rfl (fun _ _ _ _ _ h => h) (by kernel_rfl) (fun u => by go_simp; try rfl) ?_
                        try simp only [Act.put, pz0, pz1, pz2]
                        refine PF.pf_take1 10 (PF.Same (sb) _) (by kernel_rfl) rfl (fun _ _ _ _ _ h => h) (by kernel_rfl) (PF.Same.refl _ _) (fun u hu => by have hcu := hu.cell; go_simp; try rfl) ?_
                        try simp only [Act.put, pz0, pz1, pz2]
                        refine PF.pf_take0 11 (by kernel_rfl) rfl (fun _ _ _ _ _ h => h) (by kernel_rfl) (fun u => by go_simp; try rfl) ?_
                        try simp only [Act.put, pz0, pz1, pz2]
                        refine PF.pf_take0 12 (by kernel_rfl) rfl (fun _ _ _ _ _ h => h) (by kernel_rfl) (fun u => by go_simp; try rfl) ?_
                        try simp only [Act.put, pz0, pz1, pz2]
                        refine PF.pf_take0 13 (by kernel_rfl) rfl (fun _ _ _ _ _ h => h) (by kernel_rfl) (fun u => by go_simp; try rfl) ?_
                        try simp only [Act.put, pz0, pz1, pz2]
                        refine PF.pf_done (by kernel_rfl) ?_
                        go_wp2_with fail
                        go_roundw
                        case rel => exact ⟨p + 1, by have := HPL.out; omega, by go_num, by rw [HN.out], HD.out⟩
                        case measure => have := HPL.out; simp [intOf]; omega
                      · skip
                        have HN := Lib.hid (take_out hpl hin hx)
                        have q0 : (bs[p] == to) = false := beq_eq_false_iff_ne.2 hx
                        have q1 : decide (bs[p] = to) = false := decide_eq_false hx
                        rw [decide_eq_false hin]
                        have HPL := Lib.hid hpl
                        generalize bs[p] = x at c0 q0 q1
                        clear hin hp hx
                        go_wp2_with fail
                        refine PF.pf_begin (by kernel_rfl) ?_
                        refine PF.pf_take0 0 (by kernel_rfl) rfl (fun _ _ _ _ _ h => h) (by kernel_rfl) (fun u => by go_simp; try rfl) ?_
                        try simp only [Act.put, pz0, pz1, pz2]
                        refine PF.pf_take0 1 (by kernel_rfl) rfl (fun _ _ _ _ _ h => h) (by kernel_rfl) (fun u => by go_simp; try rfl) ?_
                        try simp only [Act.put, pz0, pz1, pz2]
                        refine PF.pf_take0 2 (by kernel_rfl) rfl (fun _ _ _ _ _ h => h) (by kernel_rfl) (fun u => by go_simp; try rfl) ?_
                        try simp only [Act.put, pz0, pz1, pz2]
                        refine PF.pf_take0 3 (by kernel_rfl) rfl (fun _ _ _ _ _ h => h) (by kernel_rfl) (fun u => by go_simp; try rfl) ?_
                        try simp only [Act.put, pz0, pz1, pz2]
                        refine PF.pf_take0 4 (by kernel_rfl) rfl (fun _ _ _ _ _ h => h) (by kernel_rfl) (fun u => by go_simp; try rfl) ?_
                        try simp only [Act.put, pz0, pz1, pz2]
                        refine PF.pf_take1 5 (PF.Same (bb) _) (by kernel_rfl) rfl (fun _ _ _ _ _ h => h) (by kernel_rfl) (PF.Same.refl _ _) (fun u hu => by have hcu := hu.cell; go_simp; try rfl) ?_
                        try simp only [Act.put, pz0, pz1, pz2]
                        refine PF.pf_take0 6 (by kernel_rfl) rfl (fun _ _ _ _ _ h => h) (by kernel_rfl) (fun u => by go_simp; try rfl) ?_
                        try simp only [Act.put, pz0, pz1, pz2]
                        refine PF.pf_take0 7 (by kernel_rfl) rfl (fun _ _ _ _ _ h => h) (by kernel_rfl) (fun u => by go_simp; try rfl) ?_
                        try simp only [Act.put, pz0, pz1, pz2]
                        refine PF.pf_take0 8 (by kernel_rfl) rfl (fun _ _ _ _ _ h => h) (by kernel_rfl) (fun u => by go_simp; try rfl) ?_
                        try simp only [Act.put, pz0, pz1, pz2]
                        refine PF.pf_take0 9 (by kernel_rfl) rfl (fun _ _ _ _ _ h => h) (by kernel_rfl) (fun u => by go_simp; try rfl) ?_
                        try simp only [Act.put, pz0, pz1, pz2]
                        refine PF.pf_take1 10 (PF.Same (sb) _) (by kernel_rfl) rfl (fun _ _ _ _ _ h => h) (by kernel_rfl) (PF.Same.refl _ _) (fun u hu => by have hcu := hu.cell; go_simp; try rfl) ?_
                        try simp only [Act.put, pz0, pz1, pz2]
                        refine PF.pf_take0 11 (by kernel_rfl) rfl (fun _ _ _ _ _ h => h) (by kernel_rfl) (fun u => by go_simp; try rfl) ?_
                        try simp only [Act.put, pz0, pz1, pz2]
                        refine PF.pf_take0 12 (by kernel_rfl) rfl (fun _ _ _ _ _ h => h) (by kernel_rfl) (fun u => by go_simp; try rfl) ?_
                        try simp only [Act.put, pz0, pz1, pz2]
                        refine PF.pf_take0 13 (by kernel_rfl) rfl (fun _ _ _ _ _ h => h) (by kernel_rfl) (fun u => by go_simp; try rfl) ?_
                        try simp only [Act.put, pz0, pz1, pz2]
                        refine PF.pf_done (by kernel_rfl) ?_
                        go_wp2_with fail
                        go_roundw
                        case rel => exact ⟨p + 1, by have := HPL.out; omega, by go_num, by rw [HN.out], HD.out⟩
                        case measure => have := HPL.out; simp [intOf]; omega
                    obtain rfl : p = bs.length := by omega
                    have hin : decide (to ∈ bs.take bs.length) = true := decide_eq_true (by rw [List.take_length]; exact HTO.out)
                    rw [hin]
                    clear hin hp hpl
                    go_wp2_with fail
                    obtain ⟨vs, hvs, hrs⟩ := (HS.out.below HBQ.out).some_at
                    obtain ⟨vB, hBB, hvB⟩ := HL.out.below HBQ.out
                    have HVS := Lib.hid hvs
                    have HRS := Lib.hid hrs
                    have HBB := Lib.hid hBB
                    have HVBB := Lib.hid hvB
                    clear hvs hrs hBB hvB
                    refine PF.pf_begin (by kernel_rfl) ?_
                    refine PF.pf_take0 0 (by kernel_rfl) rfl (fun _ _ _ _ _ h => h) (by kernel_rfl) (fun u => by go_simp; try rfl) ?_
                    try simp only [Act.put, pz0, pz1, pz2]
                    refine PF.pf_take0 1 (by kernel_rfl) rfl (fun _ _ _ _ _ h => h) (by kernel_rfl) (fun u => by go_simp; try rfl) ?_
                    try simp only [Act.put, pz0, pz1, pz2]
                    refine PF.pf_take0 2 (by kernel_rfl) rfl (fun _ _ _ _ _ h => h) (by kernel_rfl) (fun u => by go_simp; try rfl) ?_
                    try simp only [Act.put, pz0, pz1, pz2]
                    refine PF.pf_take0 3 (by kernel_rfl) rfl (fun _ _ _ _ _ h => h) (by kernel_rfl) (fun u => by go_simp; try rfl) ?_
                    try simp only [Act.put, pz0, pz1, pz2]
                    refine PF.pf_take0 4 (by kernel_rfl) rfl (fun _ _ _ _ _ h => h) (by kernel_rfl) (fun u => by go_simp; try rfl) ?_
                    try simp only [Act.put, pz0, pz1, pz2]
                    refine PF.pf_take0 5 (by kernel_rfl) rfl (fun _ _ _ _ _ h => h) (by kernel_rfl) (fun u => by go_simp; try rfl) ?_
                    try simp only [Act.put, pz0, pz1, pz2]
                    refine PF.pf_take0 6 (by kernel_rfl) rfl (fun _ _ _ _ _ h => h) (by kernel_rfl) (fun u => by go_simp; try rfl) ?_
                    try simp only [Act.put, pz0, pz1, pz2]
                    refine PF.pf_take1 7 (fun u => u.rangeAt sb 0 (.int .i64 to :: calL B1 vs)) (by kernel_rfl) rfl (fun _ _ _ _ _ h => h) (by kernel_rfl) (HRS.out) (fun u hu => by (exact exec_load_rg rfl rfl (show u.rangeAt sb 1 (calL B1 vs) from fun j v hv => by have := hu (j + 1) v hv; rwa [Nat.zero_add, Nat.add_comm] at this) Try.underlying27 rfl (info_call9 rfl))) ?_
                    try simp only [Act.put, pz0, pz1, pz2]
                    refine PF.pf_take1 8 (fun u => Blk u h 27 (calL B1 vB).toArray) (by kernel_rfl) rfl (fun _ _ _ _ _ h => h) (by kernel_rfl) (HBB.out) (fun u hu => by (exact exec_load_blk rfl rfl hu Try.underlying27 rfl (info_call rfl))) ?_
                    try simp only [Act.put, pz0, pz1, pz2]
                    refine PF.pf_exec 9 (by kernel_rfl) rfl (by kernel_rfl) (fun K hK => ?_)
                    go_simp
                    refine (rsamecall_any (K1 := fun b => b ≠ g ∧ b ≠ h ∧ b ≠ rb) (K2 := fun b => b ≠ g ∧ b ≠ h ∧ b ≠ rb) (C := B1) (w := wr.drew) HVS.out HVBB.out).mono ?_
                    rintro e w20 ⟨rfl, hb20⟩
                    have HB20 : Hid (Below wr.heap.size wr w20) := ((Below.refl _ wr).drew).trans hb20
                    clear hb20
                    refine hK _ _ (by repeat (first | exact PF.owes_nil | refine PF.owes_left ?_ | refine PF.owes_no (by decide +kernel) ?_ | refine PF.owes_yes (by first | rfl | assumption | go_simp) ?_)) ?_
                    clear hK K
                    try simp only [Act.put, pz0, pz1, pz2]
                    refine PF.pf_take0 10 (by kernel_rfl) rfl (fun _ _ _ _ _ h => h) (by kernel_rfl) (fun u => by go_simp; try rfl) ?_
                    try simp only [Act.put, pz0, pz1, pz2]
                    refine PF.pf_take0 11 (by kernel_rfl) rfl (fun _ _ _ _ _ h => h) (by kernel_rfl) (fun u => by go_simp; try rfl) ?_
                    try simp only [Act.put, pz0, pz1, pz2]
                    refine PF.pf_take0 12 (by kernel_rfl) rfl (fun _ _ _ _ _ h => h) (by kernel_rfl) (fun u => by go_simp; try rfl) ?_
                    try simp only [Act.put, pz0, pz1, pz2]
                    refine PF.pf_take0 13 (by kernel_rfl) rfl (fun _ _ _ _ _ h => h) (by kernel_rfl) (fun u => by go_simp; try rfl) ?_
                    try simp only [Act.put, pz0, pz1, pz2]
                    refine PF.pf_take0 14 (by kernel_rfl) rfl (fun _ _ _ _ _ h => h) (by kernel_rfl) (fun u => by go_simp; try rfl) ?_
                    try simp only [Act.put, pz0, pz1, pz2]
                    refine PF.pf_take0 15 (by kernel_rfl) rfl (fun _ _ _ _ _ h => h) (by kernel_rfl) (fun u => by go_simp; try rfl) ?_
                    try simp only [Act.put, pz0, pz1, pz2]
                    refine PF.pf_take0 16 (by kernel_rfl) rfl (fun _ _ _ _ _ h => h) (by kernel_rfl) (fun u => by go_simp; try rfl) ?_
                    try simp only [Act.put, pz0, pz1, pz2]
                    refine PF.pf_take1 17 (fun u => u.rangeAt sb 0 (.int .i64 to :: calL B1 vs)) (by kernel_rfl) rfl (fun _ _ _ _ _ h => h) (by kernel_rfl) ((rng_below HRS.out HB20.out)) (fun u hu => by (exact exec_load_rg rfl rfl (show u.rangeAt sb 1 (calL B1 vs) from fun j v hv => by have := hu (j + 1) v hv; rwa [Nat.zero_add, Nat.add_comm] at this) Try.underlying27 rfl (info_call9 rfl))) ?_
                    try simp only [Act.put, pz0, pz1, pz2]
                    refine PF.pf_exec 18 (by kernel_rfl) rfl (by kernel_rfl) (fun K hK => ?_)
                    go_simp
                    refine (may_any (HVS.out.below HB20.out)).mono ?_
                    rintro e w21 ⟨rfl, hb21⟩
                    rw [HMB.out]
                    have HB21 : Hid (Below w14.heap.size w14 w21) := (below_call HBQ.out HBQ.out.size HB20.out).trans (hb21.mono (Nat.le_trans HBQ.out.size HB20.out.size))
                    clear hb21
                    refine hK _ _ (by repeat (first | exact PF.owes_nil | refine PF.owes_left ?_ | refine PF.owes_no (by decide +kernel) ?_ | refine PF.owes_yes (by first | rfl | assumption | go_simp) ?_)) ?_
                    clear hK K
                    try simp only [Act.put, pz0, pz1, pz2]
                    refine PF.pf_take0 19 (by kernel_rfl) rfl (fun _ _ _ _ _ h => h) (by kernel_rfl) (fun u => by go_simp; try rfl) ?_
                    try simp only [Act.put, pz0, pz1, pz2]
                    refine PF.pf_take0 20 (by kernel_rfl) rfl (fun _ _ _ _ _ h => h) (by kernel_rfl) (fun u => by go_simp; try rfl) ?_
                    try simp only [Act.put, pz0, pz1, pz2]
                    refine PF.pf_done (by kernel_rfl) ?_
                    go_wp2_with fail
                    go_roundw
                    case rel => exact ⟨1, by omega, by go_num, HB21.out⟩
                    case measure => simp [intOf]
                obtain rfl : q = 1 := by omega
                clear hqs hq
                have HZ : Hid (Below w.heap.size w wq) := below_call HT.out HT.out.size HBQ.out
                have n2 := (HBQ.out.cell (p := ⟨g, 2, none⟩) HC.out.lt).trans N2.out
                have b4 := (HBQ.out.cell (p := ⟨g, 4, none⟩) HC.out.lt).trans B4.out
                have hkb : k < 300 := by have := HLT.out; have := HL3.out; omega
                go_wp2_with fail
                go_roundw
                case rel => exact ⟨k + 1, nw, X1, B1, by have := HLT.out; omega, by have := HK.out.2;  omega, rfl, by rw [HXN.out], by rw [HXB2.out] <;> rfl, by go_num, (HC.out.below HBQ.out).weak fun b _ h' => ⟨h'.1, h'.2.1⟩, (HL.out.below HBQ.out).weak fun b _ h' => ⟨h'.1, h'.2.1⟩, HI.out, HZ.out⟩
                case measure => have := HLT.out; simp [intOf]; omega
          · as_aux_lemma =>
              rw [if_neg hs0] at hp
              subst hp
              have q0 : (startE X ev.call == 0) = false := beq_eq_false_iff_ne.2 hs0
              have q1 : decide (startE X ev.call = 0) = false := decide_eq_false hs0
              have HM0 := Lib.hid (Below.refl w8.heap.size w8)
              clear hs0
              generalize startE X ev.call = se at q0 q1 ⊢
              go_wp2_with (refine wpList_alloc_blk rfl rfl zero_client ?_; rintro n20 w9 hg hB hb; refine Hid.out ?_)
              refine Lib.hid ?_
              have HN : Hid (w8.heap.size ≤ n20) := by { show _ ≤ _; omega }
              have HM0 := Lib.hid (below_call HM0.out HM0.out.size hb)
              have HB20 := Lib.hid hB
              clear hg hB hb
              go_wp2_with (refine wpList_store_blk rfl rfl rfl rfl HB20.out rfl (info_client rfl) (cliL_one rfl rfl) ?_; rintro w14 hB hm; refine Hid.out ?_)
              refine Lib.hid ?_
              have HM0 := Lib.hid (HM0.out.trans (hm.to_below HM0.out.size fun b hb e => absurd (show b = n20 from e) (by have := HN.out; omega)))
              have HT := Lib.hid (below_call HT.out HT.out.size HM0.out)
              have HC := Lib.hid (HC.out.below HM0.out)
              have HL := Lib.hid (HL.out.below HM0.out)
              have HX : Hid (Xv w14 xb ev) := Blk.below HX.out HM0.out (Blk.lt HX.out)
              have HR := Lib.hid (HR.out.below HM0.out)
              have HI := Lib.hid HI.out.next
              clear hB hm HM0 HB20 HN HB HVB HVC
              rcases HI.out.busy with hbz | hbz
              · have hob := HOB.out
                rw [hbz] at hob
                subst hob
                have HXB2 := Lib.hid hbz
                clear hbz
                obtain ⟨vbZ, vcZ, hBZ, _⟩ := HC.out
                have n2 : w14.cell? ⟨g, 2, none⟩ = some (.int .u64 (X.n : Int)) := by  exact (hBZ.cell 2).trans rfl
                have b4 : w14.cell? ⟨g, 4, none⟩ = some (.int .i64 0) := by rw [← HXB2.out]; exact (hBZ.cell 4).trans rfl
                clear hBZ
                have N2 := Lib.hid n2
                have B4 := Lib.hid b4
                clear n2 b4
                go_wp2_with fail
                go_loopw [23] (fun iv wi => ∃ q : Nat, q ≤ 0 ∧ iv = .int .i64 (q : Int) ∧ Below w14.heap.size w14 wi) (fun iv _ => 1 - (intOf iv).toNat)
                case atStart => exact ⟨0, by omega, rfl, Below.refl _ _⟩
                case round =>
                  skip
                  obtain ⟨wq, rfl⟩ : ∃ wq : World, wq = wr := ⟨_, rfl⟩
                  obtain ⟨q, hq, rfl, hbq⟩ := hrel
                  have HBQ := Lib.hid hbq
                  clear hbq
                  obtain rfl : q = 0 := by omega
                  clear hq
                  have HZ : Hid (Below w.heap.size w wq) := below_call HT.out HT.out.size HBQ.out
                  have n2 := (HBQ.out.cell (p := ⟨g, 2, none⟩) HC.out.lt).trans N2.out
                  have b4 := (HBQ.out.cell (p := ⟨g, 4, none⟩) HC.out.lt).trans B4.out
                  have hkb : k < 300 := by have := HLT.out; have := HL3.out; omega
                  go_wp2_with fail
                  go_roundw
                  case rel => exact ⟨k + 1, nw, X, B, by have := HLT.out; omega, by have := HK.out.2;  omega, rfl, rfl, by rw [HXB2.out] <;> rfl, by go_num, (HC.out.below HBQ.out).weak fun b _ h' => ⟨h'.1, h'.2.1⟩, (HL.out.below HBQ.out).weak fun b _ h' => ⟨h'.1, h'.2.1⟩, HI.out, HZ.out⟩
                  case measure => have := HLT.out; simp [intOf]; omega
              · have hob := HOB.out
                rw [hbz] at hob
                subst hob
                have HXB2 := Lib.hid hbz
                clear hbz
                obtain ⟨vbZ, vcZ, hBZ, _⟩ := HC.out
                have n2 : w14.cell? ⟨g, 2, none⟩ = some (.int .u64 (X.n : Int)) := by  exact (hBZ.cell 2).trans rfl
                have b4 : w14.cell? ⟨g, 4, none⟩ = some (.int .i64 1) := by rw [← HXB2.out]; exact (hBZ.cell 4).trans rfl
                clear hBZ
                have N2 := Lib.hid n2
                have B4 := Lib.hid b4
                clear n2 b4
                go_wp2_with fail
                go_loopw [23] (fun iv wi => ∃ q : Nat, q ≤ 0 ∧ iv = .int .i64 (q : Int) ∧ Below w14.heap.size w14 wi) (fun iv _ => 1 - (intOf iv).toNat)
                case atStart => exact ⟨0, by omega, rfl, Below.refl _ _⟩
                case round =>
                  skip
                  obtain ⟨wq, rfl⟩ : ∃ wq : World, wq = wr := ⟨_, rfl⟩
                  obtain ⟨q, hq, rfl, hbq⟩ := hrel
                  have HBQ := Lib.hid hbq
                  clear hbq
                  obtain rfl : q = 0 := by omega
                  clear hq
                  have HZ : Hid (Below w.heap.size w wq) := below_call HT.out HT.out.size HBQ.out
                  have n2 := (HBQ.out.cell (p := ⟨g, 2, none⟩) HC.out.lt).trans N2.out
                  have b4 := (HBQ.out.cell (p := ⟨g, 4, none⟩) HC.out.lt).trans B4.out
                  have hkb : k < 300 := by have := HLT.out; have := HL3.out; omega
                  go_wp2_with fail
                  go_roundw
                  case rel => exact ⟨k + 1, nw, X, B, by have := HLT.out; omega, by have := HK.out.2;  omega, rfl, rfl, by rw [HXB2.out] <;> rfl, by go_num, (HC.out.below HBQ.out).weak fun b _ h' => ⟨h'.1, h'.2.1⟩, (HL.out.below HBQ.out).weak fun b _ h' => ⟨h'.1, h'.2.1⟩, HI.out, HZ.out⟩
                  case measure => have := HLT.out; simp [intOf]; omega
        by_cases hd1 : ev.do_ = 1
        · rw [hd1] at xd
          clear hd0 hd1
          have HIO := HI
          obtain ⟨vb, vc, hB, hvb, hvc⟩ := HC.out
          have HB := Lib.hid hB
          have HVB := Lib.hid hvb
          have HVC := Lib.hid hvc
          have HSZ : Hid (g < w7.heap.size ∧ h < w7.heap.size ∧ rb < w7.heap.size) := ⟨HC.out.lt, HL.out.lt, HR.out.lt⟩
          clear hB hvb hvc
          go_wp2_with (refine wpList_load_blk rfl (ty := 29) rfl rfl HB.out Try.underlying29 rfl (info_client rfl) ?_; refine Hid.out ?_)
          refine Lib.hid ?_
          go_wp2_with (refine wpList_load_rg rfl (ty := 36) rfl (vs := repL ev.rep ev.vr) rfl HX.out.rep Try.underlying36 rfl (info_reply9 rfl) ?_; refine Hid.out ?_)
          refine Lib.hid ?_
          go_wp2_with fail
          clear xd
          have hT := take_any (X := X) (now := nw) (R := ev.rep) HVB.out HVC.out (HEO.out.2.below HT.out) HI.out.good (by have := HI.out.body; omega) (by have := HB2.out; omega)
          have HGO := Lib.hid (take_goes HI.out.good nw ev.rep)
          have HRR : Hid (∀ r, (takeX X nw ev.rep).rep = some r → r = ev.rep) := fun r h => take_rep h
          have HEN : Hid ((takeX X nw ev.rep).rep.isSome = true → (takeX X nw ev.rep).sent = none) := take_ends
          generalize takeX X nw ev.rep = TT at hT HGO HRR HEN
          refine hT.mono ?_
          clear hT
          rintro e w8 ⟨⟨vb', vc', sv, vr, he, hvb, hvc, hsv, hvr⟩, hb⟩
          have HT := Lib.hid (below_call HT.out HT.out.size hb)
          have HB := Lib.hid (HB.out.below hb HB.out.lt)
          have HC := Lib.hid (HC.out.below hb)
          have HL := Lib.hid (HL.out.below hb)
          have HX : Hid (Xv w8 xb ev) := Blk.below HX.out hb (Blk.lt HX.out)
          have HR := Lib.hid (HR.out.below hb)
          have HI := Lib.hid (HI.out.turn HGO.out)
          have HXN : Hid ((TT.cli.n : Int) = (X.n : Int)) := by { show _ = _; rw [HGO.out.n] }
          have HVB := Lib.hid (hvb.weak (K' := fun b => b ≠ g ∧ b ≠ h ∧ b ≠ rb) fun b _ h' => by have := HSZ.out; have h' : w7.heap.size ≤ b := h'; show b ≠ g ∧ b ≠ h ∧ b ≠ rb; omega)
          have HVC := Lib.hid (hvc.weak (K' := fun b => b ≠ g ∧ b ≠ h ∧ b ≠ rb) fun b _ h' => by have := HSZ.out; have h' : w7.heap.size ≤ b := h'; show b ≠ g ∧ b ≠ h ∧ b ≠ rb; omega)
          have HVR := Lib.hid (hvr.weak (K' := fun b => b ≠ g ∧ b ≠ h ∧ b ≠ rb) fun b _ h' => by have := HSZ.out; have h' : w7.heap.size ≤ b := h'; show b ≠ g ∧ b ≠ h ∧ b ≠ rb; omega)
          have HSV := Lib.hid (hsv.weak (K' := fun b => b ≠ g ∧ b ≠ h ∧ b ≠ rb) fun b _ h' => by have := HSZ.out; have h' : w7.heap.size ≤ b := h'; show b ≠ g ∧ b ≠ h ∧ b ≠ rb; omega)
          have HO : Hid (vb'.oneCell' = true ∧ vc'.oneCell' = true ∧ vr.oneCell' = true) := ⟨hvb.one, hvc.one, hvr.one⟩
          have HM := Lib.hid (Mod.refl (fun b => b = g ∨ b = rb) w8)
          clear hb hvb hvc hsv hvr
          rcases hrep : TT.rep with _ | r
          · as_aux_lemma =>
              have hbz := HGO.out.busy
              rw [hrep] at hbz
              replace hbz : TT.cli.busy = X.busy := hbz
              rcases hsent : TT.sent with _ | ⟨to, D⟩
              · rw [hsent] at HSV
                obtain rfl : sv = .slice none 0 0 := HSV.out
                rw [hrep] at he HVR
                replace he : e = .returned (.tuple #[.agg (cliL TT.cli vb' vc').toArray, .slice none 0 0, .agg (repL zRep vr).toArray, .bool false]) := he
                subst he
                go_wp2_with (refine wpList_store_blk rfl rfl rfl rfl HB.out rfl (info_client rfl) (cliL_one HO.out.1 HO.out.2.1) ?_; rintro w9 hB hm; refine Hid.out ?_)
                refine Lib.hid ?_
                have HM := Lib.hid (HM.out.trans (hm.mono fun b _ e => Or.inl e))
                have HB := Lib.hid hB
                obtain ⟨vR, hBR, _⟩ := HR.out.mod hm (by have := HRB.out; omega) fun b h' => h'.1
                have HBR := Lib.hid hBR
                clear hB hm hBR
                go_wp2_with (refine wpList_store_blk rfl rfl rfl rfl HBR.out rfl (info_reply rfl) (repL_one HO.out.2.2) ?_; rintro w14 hB hm; refine Hid.out ?_)
                refine Lib.hid ?_
                have HM := Lib.hid (HM.out.trans (hm.mono fun b _ e => Or.inr e))
                have HB := Lib.hid (HB.out.mod hm (by have := HRB.out; omega))
                have HBR := Lib.hid hB
                have HT := Lib.hid (HT.out.trans (HM.out.to_below HT.out.size fun b hb e => by have := HGH.out; have := HRB.out; rcases e with e | e <;> omega))
                have HC : Hid (Cv (fun b => b ≠ g ∧ b ≠ h ∧ b ≠ rb) w14 g TT.cli) := ⟨vb', vc', HB.out, HVB.out.mod HM.out fun b h' hs => hs.elim h'.1 h'.2.2, HVC.out.mod HM.out fun b h' hs => hs.elim h'.1 h'.2.2⟩
                have HL := Lib.hid (HL.out.mod HM.out (fun hs => by have := HGH.out; have := HRB.out; rcases hs with hs | hs <;> omega) fun b h' hs => hs.elim h'.1 h'.2.2)
                have HX : Hid (Xv w14 xb ev) := Blk.mod HX.out HM.out (fun hs => by have := HXB.out; have := HRB.out; rcases hs with hs | hs <;> omega)
                have HR : Hid (Rv (fun b => b ≠ g ∧ b ≠ h ∧ b ≠ rb) w14 rb zRep) := ⟨vr, HBR.out, HVR.out.mod HM.out fun b h' hs => hs.elim h'.1 h'.2.2⟩
                have HSV := Lib.hid (HSV.out.mod HM.out fun b h' hs => hs.elim h'.1 h'.2.2)
                clear hB hm HM HB HBR HVB HVC HVR HO
                clear hrep hsent
                rcases HI.out.busy with hb0 | hb0
                · have hob := HOB.out
                  rw [← hbz, hb0] at hob
                  subst hob
                  have HXB2 := Lib.hid hb0
                  clear hb0 hbz
                  obtain ⟨vbZ, vcZ, hBZ, _⟩ := HC.out
                  have n2 : w14.cell? ⟨g, 2, none⟩ = some (.int .u64 (X.n : Int)) := by rw [← HXN.out]; exact (hBZ.cell 2).trans rfl
                  have b4 : w14.cell? ⟨g, 4, none⟩ = some (.int .i64 0) := by rw [← HXB2.out]; exact (hBZ.cell 4).trans rfl
                  clear hBZ
                  have N2 := Lib.hid n2
                  have B4 := Lib.hid b4
                  clear n2 b4
                  go_wp2_with fail
                  go_loopw [23] (fun iv wi => ∃ q : Nat, q ≤ 0 ∧ iv = .int .i64 (q : Int) ∧ Below w14.heap.size w14 wi) (fun iv _ => 1 - (intOf iv).toNat)
                  case atStart => exact ⟨0, by omega, rfl, Below.refl _ _⟩
                  case round =>
                    skip
                    obtain ⟨wq, rfl⟩ : ∃ wq : World, wq = wr := ⟨_, rfl⟩
                    obtain ⟨q, hq, rfl, hbq⟩ := hrel
                    have HBQ := Lib.hid hbq
                    clear hbq
                    obtain rfl : q = 0 := by omega
                    clear hq
                    have HZ : Hid (Below w.heap.size w wq) := below_call HT.out HT.out.size HBQ.out
                    have n2 := (HBQ.out.cell (p := ⟨g, 2, none⟩) HC.out.lt).trans N2.out
                    have b4 := (HBQ.out.cell (p := ⟨g, 4, none⟩) HC.out.lt).trans B4.out
                    have hkb : k < 300 := by have := HLT.out; have := HL3.out; omega
                    go_wp2_with fail
                    go_roundw
                    case rel => exact ⟨k + 1, nw, TT.cli, B, by have := HLT.out; omega, by have := HK.out.2;  omega, rfl, by rw [HXN.out], by rw [HXB2.out] <;> rfl, by go_num, (HC.out.below HBQ.out).weak fun b _ h' => ⟨h'.1, h'.2.1⟩, (HL.out.below HBQ.out).weak fun b _ h' => ⟨h'.1, h'.2.1⟩, HI.out, HZ.out⟩
                    case measure => have := HLT.out; simp [intOf]; omega
                · have hob := HOB.out
                  rw [← hbz, hb0] at hob
                  subst hob
                  have HXB2 := Lib.hid hb0
                  clear hb0 hbz
                  obtain ⟨vbZ, vcZ, hBZ, _⟩ := HC.out
                  have n2 : w14.cell? ⟨g, 2, none⟩ = some (.int .u64 (X.n : Int)) := by rw [← HXN.out]; exact (hBZ.cell 2).trans rfl
                  have b4 : w14.cell? ⟨g, 4, none⟩ = some (.int .i64 1) := by rw [← HXB2.out]; exact (hBZ.cell 4).trans rfl
                  clear hBZ
                  have N2 := Lib.hid n2
                  have B4 := Lib.hid b4
                  clear n2 b4
                  go_wp2_with fail
                  go_loopw [23] (fun iv wi => ∃ q : Nat, q ≤ 0 ∧ iv = .int .i64 (q : Int) ∧ Below w14.heap.size w14 wi) (fun iv _ => 1 - (intOf iv).toNat)
                  case atStart => exact ⟨0, by omega, rfl, Below.refl _ _⟩
                  case round =>
                    skip
                    obtain ⟨wq, rfl⟩ : ∃ wq : World, wq = wr := ⟨_, rfl⟩
                    obtain ⟨q, hq, rfl, hbq⟩ := hrel
                    have HBQ := Lib.hid hbq
                    clear hbq
                    obtain rfl : q = 0 := by omega
                    clear hq
                    have HZ : Hid (Below w.heap.size w wq) := below_call HT.out HT.out.size HBQ.out
                    have n2 := (HBQ.out.cell (p := ⟨g, 2, none⟩) HC.out.lt).trans N2.out
                    have b4 := (HBQ.out.cell (p := ⟨g, 4, none⟩) HC.out.lt).trans B4.out
                    have hkb : k < 300 := by have := HLT.out; have := HL3.out; omega
                    go_wp2_with fail
                    go_roundw
                    case rel => exact ⟨k + 1, nw, TT.cli, B, by have := HLT.out; omega, by have := HK.out.2;  omega, rfl, by rw [HXN.out], by rw [HXB2.out] <;> rfl, by go_num, (HC.out.below HBQ.out).weak fun b _ h' => ⟨h'.1, h'.2.1⟩, (HL.out.below HBQ.out).weak fun b _ h' => ⟨h'.1, h'.2.1⟩, HI.out, HZ.out⟩
                    case measure => have := HLT.out; simp [intOf]; omega
              rw [hsent] at HSV
              obtain ⟨sb, sc, _, es', _, _, _, _, _, _⟩ := HSV.out.cells
              subst es'
              obtain ⟨hX1, hTO, hXC⟩ := HGO.out.sent _ hsent
              have hob := HOB.out
              rw [decide_eq_true hX1] at hob
              subst hob
              have HXB2 : Hid (TT.cli.busy = 1) := hbz.trans hX1
              obtain ⟨hbg1, hbg2, _⟩ := HI.out.begun (hbz.trans hX1)
              have HMB := Lib.hid hbg2
              have HTO : Hid (to ∈ bs) := by { show _ ∈ _; have h1 := HI.out.bs_; rw [HGO.out.bs] at h1; rw [← h1]; exact hTO }
              have hDB : D = B := by { have h1 := HGO.out.call; rw [hbg1] at h1; exact hXC.trans h1.symm }
              subst hDB
              clear hX1 hTO hXC hbg1 hbg2 hbz
              rw [hrep] at he HVR
              replace he : e = .returned (.tuple #[.agg (cliL TT.cli vb' vc').toArray, .slice (some ⟨sb, 0, none⟩) 1 sc, .agg (repL zRep vr).toArray, .bool false]) := he
              subst he
              go_wp2_with (refine wpList_store_blk rfl rfl rfl rfl HB.out rfl (info_client rfl) (cliL_one HO.out.1 HO.out.2.1) ?_; rintro w9 hB hm; refine Hid.out ?_)
              refine Lib.hid ?_
              have HM := Lib.hid (HM.out.trans (hm.mono fun b _ e => Or.inl e))
              have HB := Lib.hid hB
              obtain ⟨vR, hBR, _⟩ := HR.out.mod hm (by have := HRB.out; omega) fun b h' => h'.1
              have HBR := Lib.hid hBR
              clear hB hm hBR
              go_wp2_with (refine wpList_store_blk rfl rfl rfl rfl HBR.out rfl (info_reply rfl) (repL_one HO.out.2.2) ?_; rintro w14 hB hm; refine Hid.out ?_)
              refine Lib.hid ?_
              have HM := Lib.hid (HM.out.trans (hm.mono fun b _ e => Or.inr e))
              have HB := Lib.hid (HB.out.mod hm (by have := HRB.out; omega))
              have HBR := Lib.hid hB
              have HT := Lib.hid (HT.out.trans (HM.out.to_below HT.out.size fun b hb e => by have := HGH.out; have := HRB.out; rcases e with e | e <;> omega))
              have HC : Hid (Cv (fun b => b ≠ g ∧ b ≠ h ∧ b ≠ rb) w14 g TT.cli) := ⟨vb', vc', HB.out, HVB.out.mod HM.out fun b h' hs => hs.elim h'.1 h'.2.2, HVC.out.mod HM.out fun b h' hs => hs.elim h'.1 h'.2.2⟩
              have HL := Lib.hid (HL.out.mod HM.out (fun hs => by have := HGH.out; have := HRB.out; rcases hs with hs | hs <;> omega) fun b h' hs => hs.elim h'.1 h'.2.2)
              have HX : Hid (Xv w14 xb ev) := Blk.mod HX.out HM.out (fun hs => by have := HXB.out; have := HRB.out; rcases hs with hs | hs <;> omega)
              have HR : Hid (Rv (fun b => b ≠ g ∧ b ≠ h ∧ b ≠ rb) w14 rb zRep) := ⟨vr, HBR.out, HVR.out.mod HM.out fun b h' hs => hs.elim h'.1 h'.2.2⟩
              have HSV := Lib.hid (HSV.out.mod HM.out fun b h' hs => hs.elim h'.1 h'.2.2)
              clear hB hm HM HB HBR HVB HVC HVR HO
              have HS := HSV
              clear HSV hrep hsent
              obtain ⟨vbZ, vcZ, hBZ, _⟩ := HC.out
              have n2 : w14.cell? ⟨g, 2, none⟩ = some (.int .u64 (X.n : Int)) := by rw [← HXN.out]; exact (hBZ.cell 2).trans rfl
              have b4 : w14.cell? ⟨g, 4, none⟩ = some (.int .i64 1) := by rw [← HXB2.out]; exact (hBZ.cell 4).trans rfl
              clear hBZ
              have N2 := Lib.hid n2
              have B4 := Lib.hid b4
              clear n2 b4
              go_wp2_with fail
              go_loopw [23] (fun iv wi => ∃ q : Nat, q ≤ 1 ∧ iv = .int .i64 (q : Int) ∧ Below w14.heap.size w14 wi) (fun iv _ => 1 - (intOf iv).toNat)
              case atStart => exact ⟨0, by omega, rfl, Below.refl _ _⟩
              case round =>
                skip
                obtain ⟨wq, rfl⟩ : ∃ wq : World, wq = wr := ⟨_, rfl⟩
                obtain ⟨q, hq, rfl, hbq⟩ := hrel
                have HBQ := Lib.hid hbq
                clear hbq
                by_cases hqs : q < 1
                · obtain rfl : q = 0 := by omega
                  clear hqs hq
                  go_wp2_with fail
                  go_loopw [24, 25] (fun iv jv wi => ∃ q : Nat, q ≤ bs.length ∧ jv = .int .i64 (q : Int) ∧ iv = .bool (decide (to ∈ bs.take q)) ∧ Below w14.heap.size w14 wi) (fun _ jv _ => bs.length - (intOf jv).toNat)
                  case atStart => exact ⟨0, by omega, rfl, by simp, HBQ.out⟩
                  case round =>
                    skip
                    clear HBQ
                    obtain ⟨p, hp, rfl, rfl, hbq⟩ := hrel
                    have HBQ := Lib.hid hbq
                    clear hbq
                    by_cases hpl : p < bs.length
                    · skip
                      obtain ⟨bb, o2, rfl, hbl, hcl⟩ := Reads.flat (HVRD.out.below HT.out) (by omega) (by decide)
                      have c0 := (HBQ.out.cell (p := ⟨bb, o2 + p, none⟩) hbl).trans (hcl p _ (by rw [List.getElem?_map, List.getElem?_eq_getElem hpl]; rfl))
                      unfold iv at c0
                      have s0 := (HS.out.below HBQ.out).look.1
                      have HD : Hid (Below w14.heap.size w14 wr.drew) := HBQ.out.drew
                      have HPN := Lib.hid hp
                      clear hcl hbl
                      by_cases hin : to ∈ bs.take p
                      · have HN := Lib.hid (take_in hpl hin)
                        rw [decide_eq_true hin]
                        have HPL := Lib.hid hpl
                        generalize bs[p] = x at c0
                        clear hin hp
                        go_wp2_with fail
                        refine PF.pf_begin (by kernel_rfl) ?_
                        refine PF.pf_take0 0 (by kernel_rfl) rfl (fun _ _ _ _ _ h => h) (by kernel_rfl) (fun u => by go_simp; try rfl) ?_
                        try simp only [Act.put, pz0, pz1, pz2]
                        refine PF.pf_take0 1 (by kernel_rfl) rfl (fun _ _ _ _ _ h => h) (by kernel_rfl) (fun u => by go_simp; try rfl) ?_
                        try simp only [Act.put, pz0, pz1, pz2]
                        refine PF.pf_skip0 2 (by kernel_rfl) rfl (fun _ _ _ _ _ h => h) (by kernel_rfl) ?_
                        try simp only [Act.put, pz0, pz1, pz2]
                        refine PF.pf_skip0 3 (by kernel_rfl) rfl (fun _ _ _ _ _ h => h) (by kernel_rfl) ?_
                        try simp only [Act.put, pz0, pz1, pz2]
                        refine PF.pf_skip0 4 (by kernel_rfl) rfl (fun _ _ _ _ _ h => h) (by kernel_rfl) ?_
                        try simp only [Act.put, pz0, pz1, pz2]
                        refine PF.pf_skip0 5 (by kernel_rfl) rfl (fun _ _ _ _ _ h => h) (by kernel_rfl) ?_
                        try simp only [Act.put, pz0, pz1, pz2]
                        refine PF.pf_skip0 6 (by kernel_rfl) rfl (fun _ _ _ _ _ h => h) (by kernel_rfl) ?_
                        try simp only [Act.put, pz0, pz1, pz2]
                        refine PF.pf_skip0 7 (by kernel_rfl) rfl (fun _ _ _ _ _ h => h) (by kernel_rfl) ?_
                        try simp only [Act.put, pz0, pz1, pz2]
                        refine PF.pf_skip0 8 (by kernel_rfl) rfl (fun _ _ _ _ _ h => h) (by kernel_rfl) ?_
                        try simp only [Act.put, pz0, pz1, pz2]
                        refine PF.pf_skip0 9 (by kernel_rfl) rfl (fun _ _ _ _ _ h => h) (by kernel_rfl) ?_
                        try simp only [Act.put, pz0, pz1, pz2]
                        refine PF.pf_skip0 10 (by kernel_rfl) rfl (fun _ _ _ _ _ h => h) (by kernel_rfl) ?_
                        try simp only [Act.put, pz0, pz1, pz2]
                        refine PF.pf_skip0 11 (by kernel_rfl) rfl (fun _ _ _ _ _ h => h) (by kernel_rfl) ?_
                        try simp only [Act.put, pz0, pz1, pz2]
                        refine PF.pf_take0 12 (by kernel_rfl) rfl (fun _ _ _ _ _ h => h) (by kernel_rfl) (fun u => by go_simp; try rfl) ?_
                        try simp only [Act.put, pz0, pz1, pz2]
                        refine PF.pf_take0 13 (by kernel_rfl) rfl (fun _ _ _ _ _ h => h) (by kernel_rfl) (fun u => by go_simp; try rfl) ?_
                        try simp only [Act.put, pz0, pz1, pz2]
                        refine PF.pf_done (by kernel_rfl) ?_
                        go_wp2_with fail
                        go_roundw
                        case rel => exact ⟨p + 1, by have := HPL.out; omega, by go_num, by rw [HN.out], HD.out⟩
                        case measure => have := HPL.out; simp [intOf]; omega
                      by_cases hx : bs[p] = to
                      · skip
                        have HN := Lib.hid (take_step hpl hx)
                        have q0 : (bs[p] == to) = true := beq_iff_eq.2 hx
                        have q1 : decide (bs[p] = to) = true := decide_eq_true hx
                        rw [decide_eq_false hin]
                        have HPL := Lib.hid hpl
                        generalize bs[p] = x at c0 q0 q1
                        clear hin hp hx
                        go_wp2_with fail
                        refine PF.pf_begin (by kernel_rfl) ?_
                        refine PF.pf_take0 0 (by kernel_rfl) rfl (fun _ _ _ _ _ h => h) (by kernel_rfl) (fun u => by go_simp; try rfl) ?_
                        try simp only [Act.put, pz0, pz1, pz2]
                        refine PF.pf_take0 1 (by kernel_rfl) rfl (fun _ _ _ _ _ h => h) (by kernel_rfl) (fun u => by go_simp; try rfl) ?_
                        try simp only [Act.put, pz0, pz1, pz2]
                        refine PF.pf_take0 2 (by kernel_rfl) rfl (fun _ _ _ _ _ h => h) (by kernel_rfl) (fun u => by go_simp; try rfl) ?_
                        try simp only [Act.put, pz0, pz1, pz2]
                        refine PF.pf_take0 3 (by kernel_rfl) rfl (fun _ _ _ _ _ h => h) (by kernel_rfl) (fun u => by go_simp; try rfl) ?_
                        try simp only [Act.put, pz0, pz1, pz2]
                        refine PF.pf_take0 4 (by kernel_rfl) rfl (fun _ _ _ _ _ h => h) (by kernel_rfl) (fun u => by go_simp; try rfl) ?_
                        try simp only [Act.put, pz0, pz1, pz2]
                        refine PF.pf_take1 5 (PF.Same (bb) _) (by kernel_rfl) rfl (fun _ _ _ _ _ h => h) (by kernel_rfl) (PF.Same.refl _ _) (fun u hu => by have hcu := hu.cell; go_simp; try rfl) ?_
                        try simp only [Act.put, pz0, pz1, pz2]
                        refine PF.pf_take0 6 (by kernel_rfl) rfl (fun _ _ _ _ _ h => h) (by kernel_rfl) (fun u => by go_simp; try rfl) ?_
                        try simp only [Act.put, pz0, pz1, pz2]
                        refine PF.pf_take0 7 (by kernel_rfl) rfl (fun _ _ _ _ _ h => h) (by kernel_rfl) (fun u => by go_simp; try rfl) ?_
                        try simp only [Act.put, pz0, pz1, pz2]
                        refine PF.pf_take0 8 (by kernel_rfl) rfl (fun _ _ _ _ _ h => h) (by kernel_rfl) (fun u => by go_simp; try rfl) ?_
                        try simp only [Act.put, pz0, pz1, pz2]
                        refine PF.pf_take0 9 (by kernel_rfl) rfl (fun _ _ _ _ _ h => h) (by kernel_rfl) (fun u => by go_simp; try rfl) ?_
                        try simp only [Act.put, pz0, pz1, pz2]
                        refine PF.pf_take1 10 (PF.Same (sb) _) (by kernel_rfl) rfl (fun _ _ _ _ _ h => h) (by kernel_rfl) (PF.Same.refl _ _) (fun u hu => by have hcu := hu.cell; go_simp; try rfl) ?_
                        try simp only [Act.put, pz0, pz1, pz2]
                        refine PF.pf_take0 11 (by kernel_rfl) rfl (fun _ _ _ _ _ h => h) (by kernel_rfl) (fun u => by go_simp; try rfl) ?_
                        try simp only [Act.put, pz0, pz1, pz2]
                        refine PF.pf_take0 12 (by kernel_rfl) rfl (fun _ _ _ _ _ h => h) (by kernel_rfl) (fun u => by go_simp; try rfl) ?_
                        try simp only [Act.put, pz0, pz1, pz2]
                        refine PF.pf_take0 13 (by kernel_rfl) rfl (fun _ _ _ _ _ h => h) (by kernel_rfl) (fun u => by go_simp; try rfl) ?_
                        try simp only [Act.put, pz0, pz1, pz2]
                        refine PF.pf_done (by kernel_rfl) ?_
                        go_wp2_with fail
                        go_roundw
                        case rel => exact ⟨p + 1, by have := HPL.out; omega, by go_num, by rw [HN.out], HD.out⟩
                        case measure => have := HPL.out; simp [intOf]; omega
                      · skip
                        have HN := Lib.hid (take_out hpl hin hx)
                        have q0 : (bs[p] == to) = false := beq_eq_false_iff_ne.2 hx
                        have q1 : decide (bs[p] = to) = false := decide_eq_false hx
                        rw [decide_eq_false hin]
                        have HPL := Lib.hid hpl
                        generalize bs[p] = x at c0 q0 q1
                        clear hin hp hx
                        go_wp2_with fail
                        refine PF.pf_begin (by kernel_rfl) ?_
                        refine PF.pf_take0 0 (by kernel_rfl) rfl (fun _ _ _ _ _ h => h) (by kernel_rfl) (fun u => by go_simp; try rfl) ?_
                        try simp only [Act.put, pz0, pz1, pz2]
                        refine PF.pf_take0 1 (by kernel_rfl) rfl (fun _ _ _ _ _ h => h) (by kernel_rfl) (fun u => by go_simp; try rfl) ?_
                        try simp only [Act.put, pz0, pz1, pz2]
                        refine PF.pf_take0 2 (by kernel_rfl) rfl (fun _ _ _ _ _ h => h) (by kernel_rfl) (fun u => by go_simp; try rfl) ?_
                        try simp only [Act.put, pz0, pz1, pz2]
                        refine PF.pf_take0 3 (by kernel_rfl) rfl (fun _ _ _ _ _ h => h) (by kernel_rfl) (fun u => by go_simp; try rfl) ?_
                        try simp only [Act.put, pz0, pz1, pz2]
                        refine PF.pf_take0 4 (by kernel_rfl) rfl (fun _ _ _ _ _ h => h) (by kernel_rfl) (fun u => by go_simp; try rfl) ?_
                        try simp only [Act.put, pz0, pz1, pz2]
                        refine PF.pf_take1 5 (PF.Same (bb) _) (by kernel_rfl) rfl (fun _ _ _ _ _ h => h) (by kernel_rfl) (PF.Same.refl _ _) (fun u hu => by have hcu := hu.cell; go_simp; try rfl) ?_
                        try simp only [Act.put, pz0, pz1, pz2]
                        refine PF.pf_take0 6 (by kernel_rfl) rfl (fun _ _ _ _ _ h => h) (by kernel_rfl) (fun u => by go_simp; try rfl) ?_
                        try simp only [Act.put, pz0, pz1, pz2]
                        refine PF.pf_take0 7 (by kernel_rfl) rfl (fun _ _ _ _ _ h => h) (by kernel_rfl) (fun u => by go_simp; try rfl) ?_
                        try simp only [Act.put, pz0, pz1, pz2]
                        refine PF.pf_take0 8 (by kernel_rfl) rfl (fun _ _ _ _ _ h => h) (by kernel_rfl) (fun u => by go_simp; try rfl) ?_
                        try simp only [Act.put, pz0, pz1, pz2]
                        refine PF.pf_take0 9 (by kernel_rfl) rfl (fun _ _ _ _ _ h => h) (by kernel_rfl) (fun u => by go_simp; try rfl) ?_
                        try simp only [Act.put, pz0, pz1, pz2]
                        refine PF.pf_take1 10 (PF.Same (sb) _) (by kernel_rfl) rfl (fun _ _ _ _ _ h => h) (by kernel_rfl) (PF.Same.refl _ _) (fun u hu => by have hcu := hu.cell; go_simp; try rfl) ?_
                        try simp only [Act.put, pz0, pz1, pz2]
                        refine PF.pf_take0 11 (by kernel_rfl) rfl (fun _ _ _ _ _ h => h) (by kernel_rfl) (fun u => by go_simp; try rfl) ?_
                        try simp only [Act.put, pz0, pz1, pz2]
                        refine PF.pf_take0 12 (by kernel_rfl) rfl (fun _ _ _ _ _ h => h) (by kernel_rfl) (fun u => by go_simp; try rfl) ?_
                        try simp only [Act.put, pz0, pz1, pz2]
                        refine PF.pf_take0 13 (by kernel_rfl) rfl (fun _ _ _ _ _ h => h) (by kernel_rfl) (fun u => by go_simp; try rfl) ?_
                        try simp only [Act.put, pz0, pz1, pz2]
                        refine PF.pf_done (by kernel_rfl) ?_
                        go_wp2_with fail
                        go_roundw
                        case rel => exact ⟨p + 1, by have := HPL.out; omega, by go_num, by rw [HN.out], HD.out⟩
                        case measure => have := HPL.out; simp [intOf]; omega
                    obtain rfl : p = bs.length := by omega
                    have hin : decide (to ∈ bs.take bs.length) = true := decide_eq_true (by rw [List.take_length]; exact HTO.out)
                    rw [hin]
                    clear hin hp hpl
                    go_wp2_with fail
                    obtain ⟨vs, hvs, hrs⟩ := (HS.out.below HBQ.out).some_at
                    obtain ⟨vB, hBB, hvB⟩ := HL.out.below HBQ.out
                    have HVS := Lib.hid hvs
                    have HRS := Lib.hid hrs
                    have HBB := Lib.hid hBB
                    have HVBB := Lib.hid hvB
                    clear hvs hrs hBB hvB
                    refine PF.pf_begin (by kernel_rfl) ?_
                    refine PF.pf_take0 0 (by kernel_rfl) rfl (fun _ _ _ _ _ h => h) (by kernel_rfl) (fun u => by go_simp; try rfl) ?_
                    try simp only [Act.put, pz0, pz1, pz2]
                    refine PF.pf_take0 1 (by kernel_rfl) rfl (fun _ _ _ _ _ h => h) (by kernel_rfl) (fun u => by go_simp; try rfl) ?_
                    try simp only [Act.put, pz0, pz1, pz2]
                    refine PF.pf_take0 2 (by kernel_rfl) rfl (fun _ _ _ _ _ h => h) (by kernel_rfl) (fun u => by go_simp; try rfl) ?_
                    try simp only [Act.put, pz0, pz1, pz2]
                    refine PF.pf_take0 3 (by kernel_rfl) rfl (fun _ _ _ _ _ h => h) (by kernel_rfl) (fun u => by go_simp; try rfl) ?_
                    try simp only [Act.put, pz0, pz1, pz2]
                    refine PF.pf_take0 4 (by kernel_rfl) rfl (fun _ _ _ _ _ h => h) (by kernel_rfl) (fun u => by go_simp; try rfl) ?_
                    try simp only [Act.put, pz0, pz1, pz2]
                    refine PF.pf_take0 5 (by kernel_rfl) rfl (fun _ _ _ _ _ h => h) (by kernel_rfl) (fun u => by go_simp; try rfl) ?_
                    try simp only [Act.put, pz0, pz1, pz2]
                    refine PF.pf_take0 6 (by kernel_rfl) rfl (fun _ _ _ _ _ h => h) (by kernel_rfl) (fun u => by go_simp; try rfl) ?_
                    try simp only [Act.put, pz0, pz1, pz2]
                    refine PF.pf_take1 7 (fun u => u.rangeAt sb 0 (.int .i64 to :: calL D vs)) (by kernel_rfl) rfl (fun _ _ _ _ _ h => h) (by kernel_rfl) (HRS.out) (fun u hu => by (exact exec_load_rg rfl rfl (show u.rangeAt sb 1 (calL D vs) from fun j v hv => by have := hu (j + 1) v hv; rwa [Nat.zero_add, Nat.add_comm] at this) Try.underlying27 rfl (info_call9 rfl))) ?_
                    try simp only [Act.put, pz0, pz1, pz2]
                    refine PF.pf_take1 8 (fun u => Blk u h 27 (calL D vB).toArray) (by kernel_rfl) rfl (fun _ _ _ _ _ h => h) (by kernel_rfl) (HBB.out) (fun u hu => by (exact exec_load_blk rfl rfl hu Try.underlying27 rfl (info_call rfl))) ?_
                    try simp only [Act.put, pz0, pz1, pz2]
                    refine PF.pf_exec 9 (by kernel_rfl) rfl (by kernel_rfl) (fun K hK => ?_)
                    go_simp
                    refine (rsamecall_any (K1 := fun b => b ≠ g ∧ b ≠ h ∧ b ≠ rb) (K2 := fun b => b ≠ g ∧ b ≠ h ∧ b ≠ rb) (C := D) (w := wr.drew) HVS.out HVBB.out).mono ?_
                    rintro e w20 ⟨rfl, hb20⟩
                    have HB20 : Hid (Below wr.heap.size wr w20) := ((Below.refl _ wr).drew).trans hb20
                    clear hb20
                    refine hK _ _ (by repeat (first | exact PF.owes_nil | refine PF.owes_left ?_ | refine PF.owes_no (by decide +kernel) ?_ | refine PF.owes_yes (by first | rfl | assumption | go_simp) ?_)) ?_
                    clear hK K
                    try simp only [Act.put, pz0, pz1, pz2]
                    refine PF.pf_take0 10 (by kernel_rfl) rfl (fun _ _ _ _ _ h => h) (by kernel_rfl) (fun u => by go_simp; try rfl) ?_
                    try simp only [Act.put, pz0, pz1, pz2]
                    refine PF.pf_take0 11 (by kernel_rfl) rfl (fun _ _ _ _ _ h => h) (by kernel_rfl) (fun u => by go_simp; try rfl) ?_
                    try simp only [Act.put, pz0, pz1, pz2]
                    refine PF.pf_take0 12 (by kernel_rfl) rfl (fun _ _ _ _ _ h => h) (by kernel_rfl) (fun u => by go_simp; try rfl) ?_
                    try simp only [Act.put, pz0, pz1, pz2]
                    refine PF.pf_take0 13 (by kernel_rfl) rfl (fun _ _ _ _ _ h => h) (by kernel_rfl) (fun u => by go_simp; try rfl) ?_
                    try simp only [Act.put, pz0, pz1, pz2]
                    refine PF.pf_take0 14 (by kernel_rfl) rfl (fun _ _ _ _ _ h => h) (by kernel_rfl) (fun u => by go_simp; try rfl) ?_
                    try simp only [Act.put, pz0, pz1, pz2]
                    refine PF.pf_take0 15 (by kernel_rfl) rfl (fun _ _ _ _ _ h => h) (by kernel_rfl) (fun u => by go_simp; try rfl) ?_
                    try simp only [Act.put, pz0, pz1, pz2]
                    refine PF.pf_take0 16 (by kernel_rfl) rfl (fun _ _ _ _ _ h => h) (by kernel_rfl) (fun u => by go_simp; try rfl) ?_
                    try simp only [Act.put, pz0, pz1, pz2]
                    refine PF.pf_take1 17 (fun u => u.rangeAt sb 0 (.int .i64 to :: calL D vs)) (by kernel_rfl) rfl (fun _ _ _ _ _ h => h) (by kernel_rfl) ((rng_below HRS.out HB20.out)) (fun u hu => by (exact exec_load_rg rfl rfl (show u.rangeAt sb 1 (calL D vs) from fun j v hv => by have := hu (j + 1) v hv; rwa [Nat.zero_add, Nat.add_comm] at this) Try.underlying27 rfl (info_call9 rfl))) ?_
                    try simp only [Act.put, pz0, pz1, pz2]
                    refine PF.pf_exec 18 (by kernel_rfl) rfl (by kernel_rfl) (fun K hK => ?_)
                    go_simp
                    refine (may_any (HVS.out.below HB20.out)).mono ?_
                    rintro e w21 ⟨rfl, hb21⟩
                    rw [HMB.out]
                    have HB21 : Hid (Below w14.heap.size w14 w21) := (below_call HBQ.out HBQ.out.size HB20.out).trans (hb21.mono (Nat.le_trans HBQ.out.size HB20.out.size))
                    clear hb21
                    refine hK _ _ (by repeat (first | exact PF.owes_nil | refine PF.owes_left ?_ | refine PF.owes_no (by decide +kernel) ?_ | refine PF.owes_yes (by first | rfl | assumption | go_simp) ?_)) ?_
                    clear hK K
                    try simp only [Act.put, pz0, pz1, pz2]
                    refine PF.pf_take0 19 (by kernel_rfl) rfl (fun _ _ _ _ _ h => h) (by kernel_rfl) (fun u => by go_simp; try rfl) ?_
                    try simp only [Act.put, pz0, pz1, pz2]
                    refine PF.pf_take0 20 (by kernel_rfl) rfl (fun _ _ _ _ _ h => h) (by kernel_rfl) (fun u => by go_simp; try rfl) ?_
                    try simp only [Act.put, pz0, pz1, pz2]
                    refine PF.pf_done (by kernel_rfl) ?_
                    go_wp2_with fail
                    go_roundw
                    case rel => exact ⟨1, by omega, by go_num, HB21.out⟩
                    case measure => simp [intOf]
                obtain rfl : q = 1 := by omega
                clear hqs hq
                have HZ : Hid (Below w.heap.size w wq) := below_call HT.out HT.out.size HBQ.out
                have n2 := (HBQ.out.cell (p := ⟨g, 2, none⟩) HC.out.lt).trans N2.out
                have b4 := (HBQ.out.cell (p := ⟨g, 4, none⟩) HC.out.lt).trans B4.out
                have hkb : k < 300 := by have := HLT.out; have := HL3.out; omega
                go_wp2_with fail
                go_roundw
                case rel => exact ⟨k + 1, nw, TT.cli, D, by have := HLT.out; omega, by have := HK.out.2;  omega, rfl, by rw [HXN.out], by rw [HXB2.out] <;> rfl, by go_num, (HC.out.below HBQ.out).weak fun b _ h' => ⟨h'.1, h'.2.1⟩, (HL.out.below HBQ.out).weak fun b _ h' => ⟨h'.1, h'.2.1⟩, HI.out, HZ.out⟩
                case measure => have := HLT.out; simp [intOf]; omega
          · as_aux_lemma =>
              have hsent := HEN.out (by rw [hrep]; rfl)
              rw [hsent] at HSV
              obtain rfl : sv = .slice none 0 0 := HSV.out
              obtain ⟨hX1, hR1, hR2, hR3⟩ := HGO.out.rep _ hrep
              have hbz := HGO.out.busy
              rw [hrep] at hbz
              have HXB2 : Hid (TT.cli.busy = 0) := hbz
              have hob := HOB.out
              rw [decide_eq_true hX1] at hob
              subst hob
              have HBEG := Lib.hid (HIO.out.begun hX1)
              have HRE : Hid (r.cl = nid ∧ (r.inc : Int) = (inc : Int) ∧ (r.n : Int) = (X.n : Int)) := by
                obtain ⟨h1, _, h2, h3, h4⟩ := HBEG.out
                refine ⟨?_, ?_, ?_⟩
                · rw [hR1, h1, h2]
                · rw [hR2, h1, h3]
                · rw [hR3, h1, h4]
              have HRR2 := Lib.hid (HRR.out r hrep)
              clear hX1 hR1 hR2 hR3 hbz HBEG
              rw [hrep] at he HVR
              replace he : e = .returned (.tuple #[.agg (cliL TT.cli vb' vc').toArray, .slice none 0 0, .agg (repL r vr).toArray, .bool true]) := he
              subst he
              go_wp2_with (refine wpList_store_blk rfl rfl rfl rfl HB.out rfl (info_client rfl) (cliL_one HO.out.1 HO.out.2.1) ?_; rintro w9 hB hm; refine Hid.out ?_)
              refine Lib.hid ?_
              have HM := Lib.hid (HM.out.trans (hm.mono fun b _ e => Or.inl e))
              have HB := Lib.hid hB
              obtain ⟨vR, hBR, _⟩ := HR.out.mod hm (by have := HRB.out; omega) fun b h' => h'.1
              have HBR := Lib.hid hBR
              clear hB hm hBR
              go_wp2_with (refine wpList_store_blk rfl rfl rfl rfl HBR.out rfl (info_reply rfl) (repL_one HO.out.2.2) ?_; rintro w14 hB hm; refine Hid.out ?_)
              refine Lib.hid ?_
              have HM := Lib.hid (HM.out.trans (hm.mono fun b _ e => Or.inr e))
              have HB := Lib.hid (HB.out.mod hm (by have := HRB.out; omega))
              have HBR := Lib.hid hB
              have HT := Lib.hid (HT.out.trans (HM.out.to_below HT.out.size fun b hb e => by have := HGH.out; have := HRB.out; rcases e with e | e <;> omega))
              have HC : Hid (Cv (fun b => b ≠ g ∧ b ≠ h ∧ b ≠ rb) w14 g TT.cli) := ⟨vb', vc', HB.out, HVB.out.mod HM.out fun b h' hs => hs.elim h'.1 h'.2.2, HVC.out.mod HM.out fun b h' hs => hs.elim h'.1 h'.2.2⟩
              have HL := Lib.hid (HL.out.mod HM.out (fun hs => by have := HGH.out; have := HRB.out; rcases hs with hs | hs <;> omega) fun b h' hs => hs.elim h'.1 h'.2.2)
              have HX : Hid (Xv w14 xb ev) := Blk.mod HX.out HM.out (fun hs => by have := HXB.out; have := HRB.out; rcases hs with hs | hs <;> omega)
              have HR : Hid (Rv (fun b => b ≠ g ∧ b ≠ h ∧ b ≠ rb) w14 rb r) := ⟨vr, HBR.out, HVR.out.mod HM.out fun b h' hs => hs.elim h'.1 h'.2.2⟩
              have HSV := Lib.hid (HSV.out.mod HM.out fun b h' hs => hs.elim h'.1 h'.2.2)
              clear hB hm HM HB HBR HVB HVC HVR HO
              clear hrep hsent
              obtain rfl : r = ev.rep := HRR2.out
              obtain ⟨vR, hBR, hvR⟩ := HR.out
              have HBR := Lib.hid hBR
              have HVR := Lib.hid hvR
              clear hBR hvR
              go_wp2_with (first
                | (refine wpList_load_blkG (by kernel_rfl) (ty := 36) rfl rfl HBR.out Try.underlying36 rfl (info_reply rfl) ?_; refine Hid.out ?_))
              refine Lib.hid ?_
              go_wp2_with (refine wpList_load_rgG (by kernel_rfl) (ty := 36) rfl (vs := repL ev.rep ev.vr) rfl HX.out.rep Try.underlying36 rfl (info_reply9 rfl) ?_; refine Hid.out ?_)
              refine Lib.hid ?_
              go_wp2_with fail
              refine (rsamereply_any HVR.out (HEO.out.2.below HT.out)).mono ?_
              rintro e w15 ⟨rfl, hb⟩
              have HT := Lib.hid (below_call HT.out HT.out.size hb)
              have HC := Lib.hid (HC.out.below hb)
              have HL := Lib.hid (HL.out.below hb)
              have HX : Hid (Xv w15 xb ev) := Blk.below HX.out hb (Blk.lt HX.out)
              have HR := Lib.hid (HR.out.below hb)
              clear hb HBR HVR
              obtain ⟨vbZ, vcZ, hBZ, _⟩ := HC.out
              have n2 : w15.cell? ⟨g, 2, none⟩ = some (.int .u64 (X.n : Int)) := by rw [← HXN.out]; exact (hBZ.cell 2).trans rfl
              have b4 : w15.cell? ⟨g, 4, none⟩ = some (.int .i64 0) := by rw [← HXB2.out]; exact (hBZ.cell 4).trans rfl
              clear hBZ
              obtain ⟨vrZ, hRZ, _⟩ := HR.out
              have r0 : w15.cell? ⟨rb, 0, none⟩ = some (.int .i64 nid) := by rw [← HRE.out.1]; exact (hRZ.cell 0).trans rfl
              have r1 : w15.cell? ⟨rb, 1, none⟩ = some (.int .u64 (inc : Int)) := by rw [← HRE.out.2.1]; exact (hRZ.cell 1).trans rfl
              have r2 : w15.cell? ⟨rb, 2, none⟩ = some (.int .u64 (X.n : Int)) := by rw [← HRE.out.2.2]; exact (hRZ.cell 2).trans rfl
              clear hRZ
              have N2 := Lib.hid n2
              have B4 := Lib.hid b4
              clear n2 b4
              go_wp2_with fail
              clear r0 r1 r2
              go_loopw [23] (fun iv wi => ∃ q : Nat, q ≤ 0 ∧ iv = .int .i64 (q : Int) ∧ Below w15.heap.size w15 wi) (fun iv _ => 1 - (intOf iv).toNat)
              case atStart => exact ⟨0, by omega, rfl, Below.refl _ _⟩
              case round =>
                skip
                obtain ⟨wq, rfl⟩ : ∃ wq : World, wq = wr := ⟨_, rfl⟩
                obtain ⟨q, hq, rfl, hbq⟩ := hrel
                have HBQ := Lib.hid hbq
                clear hbq
                obtain rfl : q = 0 := by omega
                clear hq
                have HZ : Hid (Below w.heap.size w wq) := below_call HT.out HT.out.size HBQ.out
                have n2 := (HBQ.out.cell (p := ⟨g, 2, none⟩) HC.out.lt).trans N2.out
                have b4 := (HBQ.out.cell (p := ⟨g, 4, none⟩) HC.out.lt).trans B4.out
                have hkb : k < 300 := by have := HLT.out; have := HL3.out; omega
                go_wp2_with fail
                go_roundw
                case rel => exact ⟨k + 1, nw, TT.cli, B, by have := HLT.out; omega, by have := HK.out.2;  omega, rfl, by rw [HXN.out], by rw [HXB2.out] <;> rfl, by go_num, (HC.out.below HBQ.out).weak fun b _ h' => ⟨h'.1, h'.2.1⟩, (HL.out.below HBQ.out).weak fun b _ h' => ⟨h'.1, h'.2.1⟩, HI.out, HZ.out⟩
                case measure => have := HLT.out; simp [intOf]; omega
        have z0 : (ev.do_ == 0) = false := beq_eq_false_iff_ne.2 hd0
        have z0' : decide (ev.do_ = 0) = false := decide_eq_false hd0
        have z1 : (ev.do_ == 1) = false := beq_eq_false_iff_ne.2 hd1
        have z1' : decide (ev.do_ = 1) = false := decide_eq_false hd1
        clear hd0 hd1
        have HIO := HI
        obtain ⟨by31, hby⟩ : ∃ b : Nat, bits .and .i64 ev.by_ 31 = (b : Int) ∧ b ≤ 31 := ⟨(ev.by_ % 32).toNat, by rw [i64_and31]; omega, by omega⟩
        have xy := HX.out.by_
        have c1 : IntKind.u64.wrap (by31 : Int) = (by31 : Int) := by rw [IntKind.wrap_u64]; omega
        have c2 : IntKind.u64.wrap ((nw : Int) + (by31 : Int)) = ((nw + by31 : Nat) : Int) := by rw [IntKind.wrap_u64]; have := HNW.out; omega
        have HBY := Lib.hid hby.2
        have hby' := hby.1
        clear hby
        obtain ⟨vb, vc, hB, hvb, hvc⟩ := HC.out
        have HB := Lib.hid hB
        have HVB := Lib.hid hvb
        have HVC := Lib.hid hvc
        have HSZ : Hid (g < w7.heap.size ∧ h < w7.heap.size ∧ rb < w7.heap.size) := ⟨HC.out.lt, HL.out.lt, HR.out.lt⟩
        clear hB hvb hvc
        go_wp2_with (refine wpList_load_blk rfl (ty := 29) rfl rfl HB.out Try.underlying29 rfl (info_client rfl) ?_; refine Hid.out ?_)
        refine Lib.hid ?_
        go_wp2_with fail
        clear xd xy c1 c2 hby'
        have hT := tick_any (X := X) (now := nw + by31) HVB.out HVC.out HI.out.good (by have := HI.out.body; omega) (by have := HNW.out; have := HBY.out; omega)
        have HGO := Lib.hid (tick_goes HI.out.good (nw + by31))
        have HRR : Hid (∀ r, (tickX X (nw + by31)).rep = some r → r.res = 3) := fun r h => tick_rep h
        have HEN : Hid ((tickX X (nw + by31)).rep.isSome = true → (tickX X (nw + by31)).sent = none) := tick_ends
        generalize tickX X (nw + by31) = TT at hT HGO HRR HEN
        refine hT.mono ?_
        clear hT
        rintro e w8 ⟨⟨vb', vc', sv, vr, he, hvb, hvc, hsv, hvr⟩, hb⟩
        have HT := Lib.hid (below_call HT.out HT.out.size hb)
        have HB := Lib.hid (HB.out.below hb HB.out.lt)
        have HC := Lib.hid (HC.out.below hb)
        have HL := Lib.hid (HL.out.below hb)
        have HX : Hid (Xv w8 xb ev) := Blk.below HX.out hb (Blk.lt HX.out)
        have HR := Lib.hid (HR.out.below hb)
        have HI := Lib.hid (HI.out.turn HGO.out)
        have HXN : Hid ((TT.cli.n : Int) = (X.n : Int)) := by { show _ = _; rw [HGO.out.n] }
        have HVB := Lib.hid (hvb.weak (K' := fun b => b ≠ g ∧ b ≠ h ∧ b ≠ rb) fun b _ h' => by have := HSZ.out; have h' : w7.heap.size ≤ b := h'; show b ≠ g ∧ b ≠ h ∧ b ≠ rb; omega)
        have HVC := Lib.hid (hvc.weak (K' := fun b => b ≠ g ∧ b ≠ h ∧ b ≠ rb) fun b _ h' => by have := HSZ.out; have h' : w7.heap.size ≤ b := h'; show b ≠ g ∧ b ≠ h ∧ b ≠ rb; omega)
        have HVR := Lib.hid (hvr.weak (K' := fun b => b ≠ g ∧ b ≠ h ∧ b ≠ rb) fun b _ h' => by have := HSZ.out; have h' : w7.heap.size ≤ b := h'; show b ≠ g ∧ b ≠ h ∧ b ≠ rb; omega)
        have HSV := Lib.hid (hsv.weak (K' := fun b => b ≠ g ∧ b ≠ h ∧ b ≠ rb) fun b _ h' => by have := HSZ.out; have h' : w7.heap.size ≤ b := h'; show b ≠ g ∧ b ≠ h ∧ b ≠ rb; omega)
        have HO : Hid (vb'.oneCell' = true ∧ vc'.oneCell' = true ∧ vr.oneCell' = true) := ⟨hvb.one, hvc.one, hvr.one⟩
        have HM := Lib.hid (Mod.refl (fun b => b = g ∨ b = rb) w8)
        clear hb hvb hvc hsv hvr
        rcases hrep : TT.rep with _ | r
        · as_aux_lemma =>
            have hbz := HGO.out.busy
            rw [hrep] at hbz
            replace hbz : TT.cli.busy = X.busy := hbz
            rcases hsent : TT.sent with _ | ⟨to, D⟩
            · rw [hsent] at HSV
              obtain rfl : sv = .slice none 0 0 := HSV.out
              rw [hrep] at he HVR
              replace he : e = .returned (.tuple #[.agg (cliL TT.cli vb' vc').toArray, .slice none 0 0, .agg (repL zRep vr).toArray, .bool false]) := he
              subst he
              go_wp2_with (refine wpList_store_blk rfl rfl rfl rfl HB.out rfl (info_client rfl) (cliL_one HO.out.1 HO.out.2.1) ?_; rintro w9 hB hm; refine Hid.out ?_)
              refine Lib.hid ?_
              have HM := Lib.hid (HM.out.trans (hm.mono fun b _ e => Or.inl e))
              have HB := Lib.hid hB
              obtain ⟨vR, hBR, _⟩ := HR.out.mod hm (by have := HRB.out; omega) fun b h' => h'.1
              have HBR := Lib.hid hBR
              clear hB hm hBR
              go_wp2_with (refine wpList_store_blk rfl rfl rfl rfl HBR.out rfl (info_reply rfl) (repL_one HO.out.2.2) ?_; rintro w14 hB hm; refine Hid.out ?_)
              refine Lib.hid ?_
              have HM := Lib.hid (HM.out.trans (hm.mono fun b _ e => Or.inr e))
              have HB := Lib.hid (HB.out.mod hm (by have := HRB.out; omega))
              have HBR := Lib.hid hB
              have HT := Lib.hid (HT.out.trans (HM.out.to_below HT.out.size fun b hb e => by have := HGH.out; have := HRB.out; rcases e with e | e <;> omega))
              have HC : Hid (Cv (fun b => b ≠ g ∧ b ≠ h ∧ b ≠ rb) w14 g TT.cli) := ⟨vb', vc', HB.out, HVB.out.mod HM.out fun b h' hs => hs.elim h'.1 h'.2.2, HVC.out.mod HM.out fun b h' hs => hs.elim h'.1 h'.2.2⟩
              have HL := Lib.hid (HL.out.mod HM.out (fun hs => by have := HGH.out; have := HRB.out; rcases hs with hs | hs <;> omega) fun b h' hs => hs.elim h'.1 h'.2.2)
              have HX : Hid (Xv w14 xb ev) := Blk.mod HX.out HM.out (fun hs => by have := HXB.out; have := HRB.out; rcases hs with hs | hs <;> omega)
              have HR : Hid (Rv (fun b => b ≠ g ∧ b ≠ h ∧ b ≠ rb) w14 rb zRep) := ⟨vr, HBR.out, HVR.out.mod HM.out fun b h' hs => hs.elim h'.1 h'.2.2⟩
              have HSV := Lib.hid (HSV.out.mod HM.out fun b h' hs => hs.elim h'.1 h'.2.2)
              clear hB hm HM HB HBR HVB HVC HVR HO
              clear hrep hsent
              rcases HI.out.busy with hb0 | hb0
              · have hob := HOB.out
                rw [← hbz, hb0] at hob
                subst hob
                have HXB2 := Lib.hid hb0
                clear hb0 hbz
                obtain ⟨vbZ, vcZ, hBZ, _⟩ := HC.out
                have n2 : w14.cell? ⟨g, 2, none⟩ = some (.int .u64 (X.n : Int)) := by rw [← HXN.out]; exact (hBZ.cell 2).trans rfl
                have b4 : w14.cell? ⟨g, 4, none⟩ = some (.int .i64 0) := by rw [← HXB2.out]; exact (hBZ.cell 4).trans rfl
                clear hBZ
                have N2 := Lib.hid n2
                have B4 := Lib.hid b4
                clear n2 b4
                go_wp2_with fail
                go_loopw [23] (fun iv wi => ∃ q : Nat, q ≤ 0 ∧ iv = .int .i64 (q : Int) ∧ Below w14.heap.size w14 wi) (fun iv _ => 1 - (intOf iv).toNat)
                case atStart => exact ⟨0, by omega, rfl, Below.refl _ _⟩
                case round =>
                  skip
                  obtain ⟨wq, rfl⟩ : ∃ wq : World, wq = wr := ⟨_, rfl⟩
                  obtain ⟨q, hq, rfl, hbq⟩ := hrel
                  have HBQ := Lib.hid hbq
                  clear hbq
                  obtain rfl : q = 0 := by omega
                  clear hq
                  have HZ : Hid (Below w.heap.size w wq) := below_call HT.out HT.out.size HBQ.out
                  have n2 := (HBQ.out.cell (p := ⟨g, 2, none⟩) HC.out.lt).trans N2.out
                  have b4 := (HBQ.out.cell (p := ⟨g, 4, none⟩) HC.out.lt).trans B4.out
                  have hkb : k < 300 := by have := HLT.out; have := HL3.out; omega
                  go_wp2_with fail
                  go_roundw
                  case rel => exact ⟨k + 1, nw + by31, TT.cli, B, by have := HLT.out; omega, by have := HK.out.2; have := HBY.out; omega, rfl, by rw [HXN.out], by rw [HXB2.out] <;> rfl, by go_num, (HC.out.below HBQ.out).weak fun b _ h' => ⟨h'.1, h'.2.1⟩, (HL.out.below HBQ.out).weak fun b _ h' => ⟨h'.1, h'.2.1⟩, HI.out, HZ.out⟩
                  case measure => have := HLT.out; simp [intOf]; omega
              · have hob := HOB.out
                rw [← hbz, hb0] at hob
                subst hob
                have HXB2 := Lib.hid hb0
                clear hb0 hbz
                obtain ⟨vbZ, vcZ, hBZ, _⟩ := HC.out
                have n2 : w14.cell? ⟨g, 2, none⟩ = some (.int .u64 (X.n : Int)) := by rw [← HXN.out]; exact (hBZ.cell 2).trans rfl
                have b4 : w14.cell? ⟨g, 4, none⟩ = some (.int .i64 1) := by rw [← HXB2.out]; exact (hBZ.cell 4).trans rfl
                clear hBZ
                have N2 := Lib.hid n2
                have B4 := Lib.hid b4
                clear n2 b4
                go_wp2_with fail
                go_loopw [23] (fun iv wi => ∃ q : Nat, q ≤ 0 ∧ iv = .int .i64 (q : Int) ∧ Below w14.heap.size w14 wi) (fun iv _ => 1 - (intOf iv).toNat)
                case atStart => exact ⟨0, by omega, rfl, Below.refl _ _⟩
                case round =>
                  skip
                  obtain ⟨wq, rfl⟩ : ∃ wq : World, wq = wr := ⟨_, rfl⟩
                  obtain ⟨q, hq, rfl, hbq⟩ := hrel
                  have HBQ := Lib.hid hbq
                  clear hbq
                  obtain rfl : q = 0 := by omega
                  clear hq
                  have HZ : Hid (Below w.heap.size w wq) := below_call HT.out HT.out.size HBQ.out
                  have n2 := (HBQ.out.cell (p := ⟨g, 2, none⟩) HC.out.lt).trans N2.out
                  have b4 := (HBQ.out.cell (p := ⟨g, 4, none⟩) HC.out.lt).trans B4.out
                  have hkb : k < 300 := by have := HLT.out; have := HL3.out; omega
                  go_wp2_with fail
                  go_roundw
                  case rel => exact ⟨k + 1, nw + by31, TT.cli, B, by have := HLT.out; omega, by have := HK.out.2; have := HBY.out; omega, rfl, by rw [HXN.out], by rw [HXB2.out] <;> rfl, by go_num, (HC.out.below HBQ.out).weak fun b _ h' => ⟨h'.1, h'.2.1⟩, (HL.out.below HBQ.out).weak fun b _ h' => ⟨h'.1, h'.2.1⟩, HI.out, HZ.out⟩
                  case measure => have := HLT.out; simp [intOf]; omega
            rw [hsent] at HSV
            obtain ⟨sb, sc, _, es', _, _, _, _, _, _⟩ := HSV.out.cells
            subst es'
            obtain ⟨hX1, hTO, hXC⟩ := HGO.out.sent _ hsent
            have hob := HOB.out
            rw [decide_eq_true hX1] at hob
            subst hob
            have HXB2 : Hid (TT.cli.busy = 1) := hbz.trans hX1
            obtain ⟨hbg1, hbg2, _⟩ := HI.out.begun (hbz.trans hX1)
            have HMB := Lib.hid hbg2
            have HTO : Hid (to ∈ bs) := by { show _ ∈ _; have h1 := HI.out.bs_; rw [HGO.out.bs] at h1; rw [← h1]; exact hTO }
            have hDB : D = B := by { have h1 := HGO.out.call; rw [hbg1] at h1; exact hXC.trans h1.symm }
            subst hDB
            clear hX1 hTO hXC hbg1 hbg2 hbz
            rw [hrep] at he HVR
            replace he : e = .returned (.tuple #[.agg (cliL TT.cli vb' vc').toArray, .slice (some ⟨sb, 0, none⟩) 1 sc, .agg (repL zRep vr).toArray, .bool false]) := he
            subst he
            go_wp2_with (refine wpList_store_blk rfl rfl rfl rfl HB.out rfl (info_client rfl) (cliL_one HO.out.1 HO.out.2.1) ?_; rintro w9 hB hm; refine Hid.out ?_)
            refine Lib.hid ?_
            have HM := Lib.hid (HM.out.trans (hm.mono fun b _ e => Or.inl e))
            have HB := Lib.hid hB
            obtain ⟨vR, hBR, _⟩ := HR.out.mod hm (by have := HRB.out; omega) fun b h' => h'.1
            have HBR := Lib.hid hBR
            clear hB hm hBR
            go_wp2_with (refine wpList_store_blk rfl rfl rfl rfl HBR.out rfl (info_reply rfl) (repL_one HO.out.2.2) ?_; rintro w14 hB hm; refine Hid.out ?_)
            refine Lib.hid ?_
            have HM := Lib.hid (HM.out.trans (hm.mono fun b _ e => Or.inr e))
            have HB := Lib.hid (HB.out.mod hm (by have := HRB.out; omega))
            have HBR := Lib.hid hB
            have HT := Lib.hid (HT.out.trans (HM.out.to_below HT.out.size fun b hb e => by have := HGH.out; have := HRB.out; rcases e with e | e <;> omega))
            have HC : Hid (Cv (fun b => b ≠ g ∧ b ≠ h ∧ b ≠ rb) w14 g TT.cli) := ⟨vb', vc', HB.out, HVB.out.mod HM.out fun b h' hs => hs.elim h'.1 h'.2.2, HVC.out.mod HM.out fun b h' hs => hs.elim h'.1 h'.2.2⟩
            have HL := Lib.hid (HL.out.mod HM.out (fun hs => by have := HGH.out; have := HRB.out; rcases hs with hs | hs <;> omega) fun b h' hs => hs.elim h'.1 h'.2.2)
            have HX : Hid (Xv w14 xb ev) := Blk.mod HX.out HM.out (fun hs => by have := HXB.out; have := HRB.out; rcases hs with hs | hs <;> omega)
            have HR : Hid (Rv (fun b => b ≠ g ∧ b ≠ h ∧ b ≠ rb) w14 rb zRep) := ⟨vr, HBR.out, HVR.out.mod HM.out fun b h' hs => hs.elim h'.1 h'.2.2⟩
            have HSV := Lib.hid (HSV.out.mod HM.out fun b h' hs => hs.elim h'.1 h'.2.2)
            clear hB hm HM HB HBR HVB HVC HVR HO
            have HS := HSV
            clear HSV hrep hsent
            obtain ⟨vbZ, vcZ, hBZ, _⟩ := HC.out
            have n2 : w14.cell? ⟨g, 2, none⟩ = some (.int .u64 (X.n : Int)) := by rw [← HXN.out]; exact (hBZ.cell 2).trans rfl
            have b4 : w14.cell? ⟨g, 4, none⟩ = some (.int .i64 1) := by rw [← HXB2.out]; exact (hBZ.cell 4).trans rfl
            clear hBZ
            have N2 := Lib.hid n2
            have B4 := Lib.hid b4
            clear n2 b4
            go_wp2_with fail
            go_loopw [23] (fun iv wi => ∃ q : Nat, q ≤ 1 ∧ iv = .int .i64 (q : Int) ∧ Below w14.heap.size w14 wi) (fun iv _ => 1 - (intOf iv).toNat)
            case atStart => exact ⟨0, by omega, rfl, Below.refl _ _⟩
            case round =>
              skip
              obtain ⟨wq, rfl⟩ : ∃ wq : World, wq = wr := ⟨_, rfl⟩
              obtain ⟨q, hq, rfl, hbq⟩ := hrel
              have HBQ := Lib.hid hbq
              clear hbq
              by_cases hqs : q < 1
              · obtain rfl : q = 0 := by omega
                clear hqs hq
                go_wp2_with fail
                go_loopw [24, 25] (fun iv jv wi => ∃ q : Nat, q ≤ bs.length ∧ jv = .int .i64 (q : Int) ∧ iv = .bool (decide (to ∈ bs.take q)) ∧ Below w14.heap.size w14 wi) (fun _ jv _ => bs.length - (intOf jv).toNat)
                case atStart => exact ⟨0, by omega, rfl, by simp, HBQ.out⟩
                case round =>
                  skip
                  clear HBQ
                  obtain ⟨p, hp, rfl, rfl, hbq⟩ := hrel
                  have HBQ := Lib.hid hbq
                  clear hbq
                  by_cases hpl : p < bs.length
                  · skip
                    obtain ⟨bb, o2, rfl, hbl, hcl⟩ := Reads.flat (HVRD.out.below HT.out) (by omega) (by decide)
                    have c0 := (HBQ.out.cell (p := ⟨bb, o2 + p, none⟩) hbl).trans (hcl p _ (by rw [List.getElem?_map, List.getElem?_eq_getElem hpl]; rfl))
                    unfold iv at c0
                    have s0 := (HS.out.below HBQ.out).look.1
                    have HD : Hid (Below w14.heap.size w14 wr.drew) := HBQ.out.drew
                    have HPN := Lib.hid hp
                    clear hcl hbl
                    by_cases hin : to ∈ bs.take p
                    · have HN := Lib.hid (take_in hpl hin)
                      rw [decide_eq_true hin]
                      have HPL := Lib.hid hpl
                      generalize bs[p] = x at c0
                      clear hin hp
                      go_wp2_with fail
                      refine PF.pf_begin (by kernel_rfl) ?_
                      refine PF.pf_take0 0 (by kernel_rfl) rfl (fun _ _ _ _ _ h => h) (by kernel_rfl) (fun u => by go_simp; try rfl) ?_
                      try simp only [Act.put, pz0, pz1, pz2]
                      refine PF.pf_take0 1 (by kernel_rfl) rfl (fun _ _ _ _ _ h => h) (by kernel_rfl) (fun u => by go_simp; try rfl) ?_
                      try simp only [Act.put, pz0, pz1, pz2]
                      refine PF.pf_skip0 2 (by kernel_rfl) rfl (fun _ _ _ _ _ h => h) (by kernel_rfl) ?_
                      try simp only [Act.put, pz0, pz1, pz2]
                      refine PF.pf_skip0 3 (by kernel_rfl) rfl (fun _ _ _ _ _ h => h) (by kernel_rfl) ?_
                      try simp only [Act.put, pz0, pz1, pz2]
                      refine PF.pf_skip0 4 (by kernel_rfl) rfl (fun _ _ _ _ _ h => h) (by kernel_rfl) ?_
                      try simp only [Act.put, pz0, pz1, pz2]
                      refine PF.pf_skip0 5 (by kernel_rfl) rfl (fun _ _ _ _ _ h => h) (by kernel_rfl) ?_
                      try simp only [Act.put, pz0, pz1, pz2]
                      refine PF.pf_skip0 6 (by kernel_rfl) rfl (fun _ _ _ _ _ h => h) (by kernel_rfl) ?_
                      try simp only [Act.put, pz0, pz1, pz2]
                      refine PF.pf_skip0 7 (by kernel_rfl) rfl (fun _ _ _ _ _ h => h) (by kernel_rfl) ?_
                      try simp only [Act.put, pz0, pz1, pz2]
                      refine PF.pf_skip0 8 (by kernel_rfl) rfl (fun _ _ _ _ _ h => h) (by kernel_rfl) ?_
                      try simp only [Act.put, pz0, pz1, pz2]
                      refine PF.pf_skip0 9 (by kernel_rfl) rfl (fun _ _ _ _ _ h => h) (by kernel_rfl) ?_
                      try simp only [Act.put, pz0, pz1, pz2]
                      refine PF.pf_skip0 10 (by kernel_rfl) rfl (fun _ _ _ _ _ h => h) (by kernel_rfl) ?_
                      try simp only [Act.put, pz0, pz1, pz2]
                      refine PF.pf_skip0 11 (by kernel_rfl) rfl (fun _ _ _ _ _ h => h) (by kernel_rfl) ?_
                      try simp only [Act.put, pz0, pz1, pz2]
                      refine PF.pf_take0 12 (by kernel_rfl) rfl (fun _ _ _ _ _ h => h) (by kernel_rfl) (fun u => by go_simp; try rfl) ?_
                      try simp only [Act.put, pz0, pz1, pz2]
                      refine PF.pf_take0 13 (by kernel_rfl) rfl (fun _ _ _ _ _ h => h) (by kernel_rfl) (fun u => by go_simp; try rfl) ?_
                      try simp only [Act.put, pz0, pz1, pz2]
                      refine PF.pf_done (by kernel_rfl) ?_
                      go_wp2_with fail
                      go_roundw
                      case rel => exact ⟨p + 1, by have := HPL.out; omega, by go_num, by rw [HN.out], HD.out⟩
                      case measure => have := HPL.out; simp [intOf]; omega
                    by_cases hx : bs[p] = to
                    · skip
                      have HN := Lib.hid (take_step hpl hx)
                      have q0 : (bs[p] == to) = true := beq_iff_eq.2 hx
                      have q1 : decide (bs[p] = to) = true := decide_eq_true hx
                      rw [decide_eq_false hin]
                      have HPL := Lib.hid hpl
                      generalize bs[p] = x at c0 q0 q1
                      clear hin hp hx
                      go_wp2_with fail
                      refine PF.pf_begin (by kernel_rfl) ?_
                      refine PF.pf_take0 0 (by kernel_rfl) rfl (fun _ _ _ _ _ h => h) (by kernel_rfl) (fun u => by go_simp; try rfl) ?_
                      try simp only [Act.put, pz0, pz1, pz2]
                      refine PF.pf_take0 1 (by kernel_rfl) rfl (fun _ _ _ _ _ h => h) (by kernel_rfl) (fun u => by go_simp; try rfl) ?_
                      try simp only [Act.put, pz0, pz1, pz2]
                      refine PF.pf_take0 2 (by kernel_rfl) rfl (fun _ _ _ _ _ h => h) (by kernel_rfl) (fun u => by go_simp; try rfl) ?_
                      try simp only [Act.put, pz0, pz1, pz2]
                      refine PF.pf_take0 3 (by kernel_rfl) rfl (fun _ _ _ _ _ h => h) (by kernel_rfl) (fun u => by go_simp; try rfl) ?_
                      try simp only [Act.put, pz0, pz1, pz2]
                      refine PF.pf_take0 4 (by kernel_rfl) rfl (fun _ _ _ _ _ h => h) (by kernel_rfl) (fun u => by go_simp; try rfl) ?_
                      try simp only [Act.put, pz0, pz1, pz2]
                      refine PF.pf_take1 5 (PF.Same (bb) _) (by kernel_rfl) rfl (fun _ _ _ _ _ h => h) (by kernel_rfl) (PF.Same.refl _ _) (fun u hu => by have hcu := hu.cell; go_simp; try rfl) ?_
                      try simp only [Act.put, pz0, pz1, pz2]
                      refine PF.pf_take0 6 (by kernel_rfl) rfl (fun _ _ _ _ _ h => h) (by kernel_rfl) (fun u => by go_simp; try rfl) ?_
                      try simp only [Act.put, pz0, pz1, pz2]
                      refine PF.pf_take0 7 (by kernel_rfl) rfl (fun _ _ _ _ _ h => h) (by kernel_rfl) (fun u => by go_simp; try rfl) ?_
                      try simp only [Act.put, pz0, pz1, pz2]
                      refine PF.pf_take0 8 (by kernel_rfl) rfl (fun _ _ _ _ _ h => h) (by kernel_rfl) (fun u => by go_simp; try rfl) ?_
                      try simp only [Act.put, pz0, pz1, pz2]
                      refine PF.pf_take0 9 (by kernel_rfl) rfl (fun _ _ _ _ _ h => h) (by kernel_rfl) (fun u => by go_simp; try rfl) ?_
                      try simp only [Act.put, pz0, pz1, pz2]
                      refine PF.pf_take1 10 (PF.Same (sb) _) (by kernel_rfl) rfl (fun _ _ _ _ _ h => h) (by kernel_rfl) (PF.Same.refl _ _) (fun u hu => by have hcu := hu.cell; go_simp; try rfl) ?_
                      try simp only [Act.put, pz0, pz1, pz2]
                      refine PF.pf_take0 11 (by kernel_rfl) rfl (fun _ _ _ _ _ h => h) (by kernel_rfl) (fun u => by go_simp; try rfl) ?_
                      try simp only [Act.put, pz0, pz1, pz2]
                      refine PF.pf_take0 12 (by kernel_rfl) rfl (fun _ _ _ _ _ h => h) (by kernel_rfl) (fun u => by go_simp; try rfl) ?_
                      try simp only [Act.put, pz0, pz1, pz2]
                      refine PF.pf_take0 13 (by kernel_rfl) rfl (fun _ _ _ _ _ h => h) (by kernel_rfl) (fun u => by go_simp; try rfl) ?_
                      try simp only [Act.put, pz0, pz1, pz2]
                      refine PF.pf_done (by kernel_rfl) ?_
                      go_wp2_with fail
                      go_roundw
                      case rel => exact ⟨p + 1, by have := HPL.out; omega, by go_num, by rw [HN.out], HD.out⟩
                      case measure => have := HPL.out; simp [intOf]; omega
                    · skip
                      have HN := Lib.hid (take_out hpl hin hx)
                      have q0 : (bs[p] == to) = false := beq_eq_false_iff_ne.2 hx
                      have q1 : decide (bs[p] = to) = false := decide_eq_false hx
                      rw [decide_eq_false hin]
                      have HPL := Lib.hid hpl
                      generalize bs[p] = x at c0 q0 q1
                      clear hin hp hx
                      go_wp2_with fail
                      refine PF.pf_begin (by kernel_rfl) ?_
                      refine PF.pf_take0 0 (by kernel_rfl) rfl (fun _ _ _ _ _ h => h) (by kernel_rfl) (fun u => by go_simp; try rfl) ?_
                      try simp only [Act.put, pz0, pz1, pz2]
                      refine PF.pf_take0 1 (by kernel_rfl) rfl (fun _ _ _ _ _ h => h) (by kernel_rfl) (fun u => by go_simp; try rfl) ?_
                      try simp only [Act.put, pz0, pz1, pz2]
                      refine PF.pf_take0 2 (by kernel_rfl) rfl (fun _ _ _ _ _ h => h) (by kernel_rfl) (fun u => by go_simp; try rfl) ?_
                      try simp only [Act.put, pz0, pz1, pz2]
                      refine PF.pf_take0 3 (by kernel_rfl) rfl (fun _ _ _ _ _ h => h) (by kernel_rfl) (fun u => by go_simp; try rfl) ?_
                      try simp only [Act.put, pz0, pz1, pz2]
                      refine PF.pf_take0 4 (by kernel_rfl) rfl (fun _ _ _ _ _ h => h) (by kernel_rfl) (fun u => by go_simp; try rfl) ?_
                      try simp only [Act.put, pz0, pz1, pz2]
                      refine PF.pf_take1 5 (PF.Same (bb) _) (by kernel_rfl) rfl (fun _ _ _ _ _ h => h) (by kernel_rfl) (PF.Same.refl _ _) (fun u hu => by have hcu := hu.cell; go_simp; try rfl) ?_
                      try simp only [Act.put, pz0, pz1, pz2]
                      refine PF.pf_take0 6 (by kernel_rfl) rfl (fun _ _ _ _ _ h => h) (by kernel_rfl) (fun u => by go_simp; try rfl) ?_
                      try simp only [Act.put, pz0, pz1, pz2]
                      refine PF.pf_take0 7 (by kernel_rfl) rfl (fun _ _ _ _ _ h => h) (by kernel_rfl) (fun u => by go_simp; try rfl) ?_
                      try simp only [Act.put, pz0, pz1, pz2]
                      refine PF.pf_take0 8 (by kernel_rfl) rfl (fun _ _ _ _ _ h => h) (by kernel_rfl) (fun u => by go_simp; try rfl) ?_
                      try simp only [Act.put, pz0, pz1, pz2]
                      refine PF.pf_take0 9 (by kernel_rfl) rfl (fun _ _ _ _ _ h => h) (by kernel_rfl) (fun u => by go_simp; try rfl) ?_
                      try simp only [Act.put, pz0, pz1, pz2]
                      refine PF.pf_take1 10 (PF.Same (sb) _) (by kernel_rfl) rfl (fun _ _ _ _ _ h => h) (by kernel_rfl) (PF.Same.refl _ _) (fun u hu => by have hcu := hu.cell; go_simp; try rfl) ?_
                      try simp only [Act.put, pz0, pz1, pz2]
                      refine PF.pf_take0 11 (by kernel_rfl) rfl (fun _ _ _ _ _ h => h) (by kernel_rfl) (fun u => by go_simp; try rfl) ?_
                      try simp only [Act.put, pz0, pz1, pz2]
                      refine PF.pf_take0 12 (by kernel_rfl) rfl (fun _ _ _ _ _ h => h) (by kernel_rfl) (fun u => by go_simp; try rfl) ?_
                      try simp only [Act.put, pz0, pz1, pz2]
                      refine PF.pf_take0 13 (by kernel_rfl) rfl (fun _ _ _ _ _ h => h) (by kernel_rfl) (fun u => by go_simp; try rfl) ?_
                      try simp only [Act.put, pz0, pz1, pz2]
                      refine PF.pf_done (by kernel_rfl) ?_
                      go_wp2_with fail
                      go_roundw
                      case rel => exact ⟨p + 1, by have := HPL.out; omega, by go_num, by rw [HN.out], HD.out⟩
                      case measure => have := HPL.out; simp [intOf]; omega
                  obtain rfl : p = bs.length := by omega
                  have hin : decide (to ∈ bs.take bs.length) = true := decide_eq_true (by rw [List.take_length]; exact HTO.out)
                  rw [hin]
                  clear hin hp hpl
                  go_wp2_with fail
                  obtain ⟨vs, hvs, hrs⟩ := (HS.out.below HBQ.out).some_at
                  obtain ⟨vB, hBB, hvB⟩ := HL.out.below HBQ.out
                  have HVS := Lib.hid hvs
                  have HRS := Lib.hid hrs
                  have HBB := Lib.hid hBB
                  have HVBB := Lib.hid hvB
                  clear hvs hrs hBB hvB
                  refine PF.pf_begin (by kernel_rfl) ?_
                  refine PF.pf_take0 0 (by kernel_rfl) rfl (fun _ _ _ _ _ h => h) (by kernel_rfl) (fun u => by go_simp; try rfl) ?_
                  try simp only [Act.put, pz0, pz1, pz2]
                  refine PF.pf_take0 1 (by kernel_rfl) rfl (fun _ _ _ _ _ h => h) (by kernel_rfl) (fun u => by go_simp; try rfl) ?_
                  try simp only [Act.put, pz0, pz1, pz2]
                  refine PF.pf_take0 2 (by kernel_rfl) rfl (fun _ _ _ _ _ h => h) (by kernel_rfl) (fun u => by go_simp; try rfl) ?_
                  try simp only [Act.put, pz0, pz1, pz2]
                  refine PF.pf_take0 3 (by kernel_rfl) rfl (fun _ _ _ _ _ h => h) (by kernel_rfl) (fun u => by go_simp; try rfl) ?_
                  try simp only [Act.put, pz0, pz1, pz2]
                  refine PF.pf_take0 4 (by kernel_rfl) rfl (fun _ _ _ _ _ h => h) (by kernel_rfl) (fun u => by go_simp; try rfl) ?_
                  try simp only [Act.put, pz0, pz1, pz2]
                  refine PF.pf_take0 5 (by kernel_rfl) rfl (fun _ _ _ _ _ h => h) (by kernel_rfl) (fun u => by go_simp; try rfl) ?_
                  try simp only [Act.put, pz0, pz1, pz2]
                  refine PF.pf_take0 6 (by kernel_rfl) rfl (fun _ _ _ _ _ h => h) (by kernel_rfl) (fun u => by go_simp; try rfl) ?_
                  try simp only [Act.put, pz0, pz1, pz2]
                  refine PF.pf_take1 7 (fun u => u.rangeAt sb 0 (.int .i64 to :: calL D vs)) (by kernel_rfl) rfl (fun _ _ _ _ _ h => h) (by kernel_rfl) (HRS.out) (fun u hu => by (exact exec_load_rg rfl rfl (show u.rangeAt sb 1 (calL D vs) from fun j v hv => by have := hu (j + 1) v hv; rwa [Nat.zero_add, Nat.add_comm] at this) Try.underlying27 rfl (info_call9 rfl))) ?_
                  try simp only [Act.put, pz0, pz1, pz2]
                  refine PF.pf_take1 8 (fun u => Blk u h 27 (calL D vB).toArray) (by kernel_rfl) rfl (fun _ _ _ _ _ h => h) (by kernel_rfl) (HBB.out) (fun u hu => by (exact exec_load_blk rfl rfl hu Try.underlying27 rfl (info_call rfl))) ?_
                  try simp only [Act.put, pz0, pz1, pz2]
                  refine PF.pf_exec 9 (by kernel_rfl) rfl (by kernel_rfl) (fun K hK => ?_)
                  go_simp
                  refine (rsamecall_any (K1 := fun b => b ≠ g ∧ b ≠ h ∧ b ≠ rb) (K2 := fun b => b ≠ g ∧ b ≠ h ∧ b ≠ rb) (C := D) (w := wr.drew) HVS.out HVBB.out).mono ?_
                  rintro e w20 ⟨rfl, hb20⟩
                  have HB20 : Hid (Below wr.heap.size wr w20) := ((Below.refl _ wr).drew).trans hb20
                  clear hb20
                  refine hK _ _ (by repeat (first | exact PF.owes_nil | refine PF.owes_left ?_ | refine PF.owes_no (by decide +kernel) ?_ | refine PF.owes_yes (by first | rfl | assumption | go_simp) ?_)) ?_
                  clear hK K
                  try simp only [Act.put, pz0, pz1, pz2]
                  refine PF.pf_take0 10 (by kernel_rfl) rfl (fun _ _ _ _ _ h => h) (by kernel_rfl) (fun u => by go_simp; try rfl) ?_
                  try simp only [Act.put, pz0, pz1, pz2]
                  refine PF.pf_take0 11 (by kernel_rfl) rfl (fun _ _ _ _ _ h => h) (by kernel_rfl) (fun u => by go_simp; try rfl) ?_
                  try simp only [Act.put, pz0, pz1, pz2]
                  refine PF.pf_take0 12 (by kernel_rfl) rfl (fun _ _ _ _ _ h => h) (by kernel_rfl) (fun u => by go_simp; try rfl) ?_
                  try simp only [Act.put, pz0, pz1, pz2]
                  refine PF.pf_take0 13 (by kernel_rfl) rfl (fun _ _ _ _ _ h => h) (by kernel_rfl) (fun u => by go_simp; try rfl) ?_
                  try simp only [Act.put, pz0, pz1, pz2]
                  refine PF.pf_take0 14 (by kernel_rfl) rfl (fun _ _ _ _ _ h => h) (by kernel_rfl) (fun u => by go_simp; try rfl) ?_
                  try simp only [Act.put, pz0, pz1, pz2]
                  refine PF.pf_take0 15 (by kernel_rfl) rfl (fun _ _ _ _ _ h => h) (by kernel_rfl) (fun u => by go_simp; try rfl) ?_
                  try simp only [Act.put, pz0, pz1, pz2]
                  refine PF.pf_take0 16 (by kernel_rfl) rfl (fun _ _ _ _ _ h => h) (by kernel_rfl) (fun u => by go_simp; try rfl) ?_
                  try simp only [Act.put, pz0, pz1, pz2]
                  refine PF.pf_take1 17 (fun u => u.rangeAt sb 0 (.int .i64 to :: calL D vs)) (by kernel_rfl) rfl (fun _ _ _ _ _ h => h) (by kernel_rfl) ((rng_below HRS.out HB20.out)) (fun u hu => by (exact exec_load_rg rfl rfl (show u.rangeAt sb 1 (calL D vs) from fun j v hv => by have := hu (j + 1) v hv; rwa [Nat.zero_add, Nat.add_comm] at this) Try.underlying27 rfl (info_call9 rfl))) ?_
                  try simp only [Act.put, pz0, pz1, pz2]
                  refine PF.pf_exec 18 (by kernel_rfl) rfl (by kernel_rfl) (fun K hK => ?_)
                  go_simp
                  refine (may_any (HVS.out.below HB20.out)).mono ?_
                  rintro e w21 ⟨rfl, hb21⟩
                  rw [HMB.out]
                  have HB21 : Hid (Below w14.heap.size w14 w21) := (below_call HBQ.out HBQ.out.size HB20.out).trans (hb21.mono (Nat.le_trans HBQ.out.size HB20.out.size))
                  clear hb21
                  refine hK _ _ (by repeat (first | exact PF.owes_nil | refine PF.owes_left ?_ | refine PF.owes_no (by decide +kernel) ?_ | refine PF.owes_yes (by first | rfl | assumption | go_simp) ?_)) ?_
                  clear hK K
                  try simp only [Act.put, pz0, pz1, pz2]
                  refine PF.pf_take0 19 (by kernel_rfl) rfl (fun _ _ _ _ _ h => h) (by kernel_rfl) (fun u => by go_simp; try rfl) ?_
                  try simp only [Act.put, pz0, pz1, pz2]
                  refine PF.pf_take0 20 (by kernel_rfl) rfl (fun _ _ _ _ _ h => h) (by kernel_rfl) (fun u => by go_simp; try rfl) ?_
                  try simp only [Act.put, pz0, pz1, pz2]
                  refine PF.pf_done (by kernel_rfl) ?_
                  go_wp2_with fail
                  go_roundw
                  case rel => exact ⟨1, by omega, by go_num, HB21.out⟩
                  case measure => simp [intOf]
              obtain rfl : q = 1 := by omega
              clear hqs hq
              have HZ : Hid (Below w.heap.size w wq) := below_call HT.out HT.out.size HBQ.out
              have n2 := (HBQ.out.cell (p := ⟨g, 2, none⟩) HC.out.lt).trans N2.out
              have b4 := (HBQ.out.cell (p := ⟨g, 4, none⟩) HC.out.lt).trans B4.out
              have hkb : k < 300 := by have := HLT.out; have := HL3.out; omega
              go_wp2_with fail
              go_roundw
              case rel => exact ⟨k + 1, nw + by31, TT.cli, D, by have := HLT.out; omega, by have := HK.out.2; have := HBY.out; omega, rfl, by rw [HXN.out], by rw [HXB2.out] <;> rfl, by go_num, (HC.out.below HBQ.out).weak fun b _ h' => ⟨h'.1, h'.2.1⟩, (HL.out.below HBQ.out).weak fun b _ h' => ⟨h'.1, h'.2.1⟩, HI.out, HZ.out⟩
              case measure => have := HLT.out; simp [intOf]; omega
        · as_aux_lemma =>
            have hsent := HEN.out (by rw [hrep]; rfl)
            rw [hsent] at HSV
            obtain rfl : sv = .slice none 0 0 := HSV.out
            obtain ⟨hX1, hR1, hR2, hR3⟩ := HGO.out.rep _ hrep
            have hbz := HGO.out.busy
            rw [hrep] at hbz
            have HXB2 : Hid (TT.cli.busy = 0) := hbz
            have hob := HOB.out
            rw [decide_eq_true hX1] at hob
            subst hob
            have HBEG := Lib.hid (HIO.out.begun hX1)
            have HRE : Hid (r.cl = nid ∧ (r.inc : Int) = (inc : Int) ∧ (r.n : Int) = (X.n : Int)) := by
              obtain ⟨h1, _, h2, h3, h4⟩ := HBEG.out
              refine ⟨?_, ?_, ?_⟩
              · rw [hR1, h1, h2]
              · rw [hR2, h1, h3]
              · rw [hR3, h1, h4]
            have HRR2 := Lib.hid (HRR.out r hrep)
            clear hX1 hR1 hR2 hR3 hbz HBEG
            rw [hrep] at he HVR
            replace he : e = .returned (.tuple #[.agg (cliL TT.cli vb' vc').toArray, .slice none 0 0, .agg (repL r vr).toArray, .bool true]) := he
            subst he
            go_wp2_with (refine wpList_store_blk rfl rfl rfl rfl HB.out rfl (info_client rfl) (cliL_one HO.out.1 HO.out.2.1) ?_; rintro w9 hB hm; refine Hid.out ?_)
            refine Lib.hid ?_
            have HM := Lib.hid (HM.out.trans (hm.mono fun b _ e => Or.inl e))
            have HB := Lib.hid hB
            obtain ⟨vR, hBR, _⟩ := HR.out.mod hm (by have := HRB.out; omega) fun b h' => h'.1
            have HBR := Lib.hid hBR
            clear hB hm hBR
            go_wp2_with (refine wpList_store_blk rfl rfl rfl rfl HBR.out rfl (info_reply rfl) (repL_one HO.out.2.2) ?_; rintro w14 hB hm; refine Hid.out ?_)
            refine Lib.hid ?_
            have HM := Lib.hid (HM.out.trans (hm.mono fun b _ e => Or.inr e))
            have HB := Lib.hid (HB.out.mod hm (by have := HRB.out; omega))
            have HBR := Lib.hid hB
            have HT := Lib.hid (HT.out.trans (HM.out.to_below HT.out.size fun b hb e => by have := HGH.out; have := HRB.out; rcases e with e | e <;> omega))
            have HC : Hid (Cv (fun b => b ≠ g ∧ b ≠ h ∧ b ≠ rb) w14 g TT.cli) := ⟨vb', vc', HB.out, HVB.out.mod HM.out fun b h' hs => hs.elim h'.1 h'.2.2, HVC.out.mod HM.out fun b h' hs => hs.elim h'.1 h'.2.2⟩
            have HL := Lib.hid (HL.out.mod HM.out (fun hs => by have := HGH.out; have := HRB.out; rcases hs with hs | hs <;> omega) fun b h' hs => hs.elim h'.1 h'.2.2)
            have HX : Hid (Xv w14 xb ev) := Blk.mod HX.out HM.out (fun hs => by have := HXB.out; have := HRB.out; rcases hs with hs | hs <;> omega)
            have HR : Hid (Rv (fun b => b ≠ g ∧ b ≠ h ∧ b ≠ rb) w14 rb r) := ⟨vr, HBR.out, HVR.out.mod HM.out fun b h' hs => hs.elim h'.1 h'.2.2⟩
            have HSV := Lib.hid (HSV.out.mod HM.out fun b h' hs => hs.elim h'.1 h'.2.2)
            clear hB hm HM HB HBR HVB HVC HVR HO
            clear hrep hsent
            obtain ⟨vR, hBR, _⟩ := HR.out
            have r3 : w14.cell? ⟨rb, 3, none⟩ = some (.int .i64 3) := by rw [← HRR2.out]; exact (hBR.cell 3).trans rfl
            clear hBR
            obtain ⟨vbZ, vcZ, hBZ, _⟩ := HC.out
            have n2 : w14.cell? ⟨g, 2, none⟩ = some (.int .u64 (X.n : Int)) := by rw [← HXN.out]; exact (hBZ.cell 2).trans rfl
            have b4 : w14.cell? ⟨g, 4, none⟩ = some (.int .i64 0) := by rw [← HXB2.out]; exact (hBZ.cell 4).trans rfl
            clear hBZ
            obtain ⟨vrZ, hRZ, _⟩ := HR.out
            have r0 : w14.cell? ⟨rb, 0, none⟩ = some (.int .i64 nid) := by rw [← HRE.out.1]; exact (hRZ.cell 0).trans rfl
            have r1 : w14.cell? ⟨rb, 1, none⟩ = some (.int .u64 (inc : Int)) := by rw [← HRE.out.2.1]; exact (hRZ.cell 1).trans rfl
            have r2 : w14.cell? ⟨rb, 2, none⟩ = some (.int .u64 (X.n : Int)) := by rw [← HRE.out.2.2]; exact (hRZ.cell 2).trans rfl
            clear hRZ
            have N2 := Lib.hid n2
            have B4 := Lib.hid b4
            clear n2 b4
            go_wp2_with fail
            clear r0 r1 r2
            go_loopw [23] (fun iv wi => ∃ q : Nat, q ≤ 0 ∧ iv = .int .i64 (q : Int) ∧ Below w14.heap.size w14 wi) (fun iv _ => 1 - (intOf iv).toNat)
            case atStart => exact ⟨0, by omega, rfl, Below.refl _ _⟩
            case round =>
              skip
              obtain ⟨wq, rfl⟩ : ∃ wq : World, wq = wr := ⟨_, rfl⟩
              obtain ⟨q, hq, rfl, hbq⟩ := hrel
              have HBQ := Lib.hid hbq
              clear hbq
              obtain rfl : q = 0 := by omega
              clear hq
              have HZ : Hid (Below w.heap.size w wq) := below_call HT.out HT.out.size HBQ.out
              have n2 := (HBQ.out.cell (p := ⟨g, 2, none⟩) HC.out.lt).trans N2.out
              have b4 := (HBQ.out.cell (p := ⟨g, 4, none⟩) HC.out.lt).trans B4.out
              have hkb : k < 300 := by have := HLT.out; have := HL3.out; omega
              go_wp2_with fail
              go_roundw
              case rel => exact ⟨k + 1, nw + by31, TT.cli, B, by have := HLT.out; omega, by have := HK.out.2; have := HBY.out; omega, rfl, by rw [HXN.out], by rw [HXB2.out] <;> rfl, by go_num, (HC.out.below HBQ.out).weak fun b _ h' => ⟨h'.1, h'.2.1⟩, (HL.out.below HBQ.out).weak fun b _ h' => ⟨h'.1, h'.2.1⟩, HI.out, HZ.out⟩
              case measure => have := HLT.out; simp [intOf]; omega
      obtain rfl : k = es.length := by omega
      clear hlt hk
      go_wp2_with fail
      refine (cawake_any _).mono ?_
      rintro e w9 ⟨rfl, hb9⟩
      go_wp2_with fail
      go_ret
      exact ⟨rfl, below_call HT.out HT.out.size hb9⟩
  · skip
    clear HVRD
    go_wp2_with (refine wpList_alloc_blk rfl rfl zero_client ?_; rintro g w3 hg hB hb; refine Hid.out ?_)
    refine Lib.hid ?_
    have HG : Hid (w.heap.size ≤ g) := by { show _ ≤ _; rw [← hg]; exact HT.out.size }
    have HGN : Hid (w2.heap.size = g) := hg
    have HT := Lib.hid (below_call HT.out HT.out.size hb)
    have HB := Lib.hid hB
    have HW := Lib.hid hb
    go_wp2_with (refine wpList_store_blk rfl rfl rfl rfl HB.out rfl (info_client rfl) (cliL_one rfl rfl) ?_; rintro w4 hB4 hm; refine Hid.out ?_)
    refine Lib.hid ?_
    have HT := Lib.hid (HT.out.trans (hm.to_below HT.out.size fun b hb e => by have := HG.out; omega))
    go_wp2_with fail
    refine (cawake_any _).mono ?_
    rintro e w9 ⟨rfl, hb9⟩
    go_wp2_with fail
    go_ret
    exact ⟨rfl, below_call HT.out HT.out.size hb9⟩
end Go.Proofs.Ytpbaofabflgpkaa
