/- Joined texts: JuW, JuN. -/
import Derived.Test.YtpjmolnkmlpfeaaGreatDoorJT
import Derived.Test.YtpjmolnkmlpfeaaGreatDoorJuM
import Derived.Test.YtpjmolnkmlpfeaaGreatDoorRegion
import Derived.RangeFuncNested
import Derived.RangeFuncLeaves
import Derived.OwnWalkIn
import Derived.TacticsInMore
import Derived.LoopIn
import Derived.BigRegionIn
import Derived.Test.YtpjmolnkmlpfeaaGreatDoorJuD
import Derived.Test.YtpjmolnkmlpfeaaGreatDoorJuE
/- Walks of operations, carried into a round of a range over a function. -/
set_option linter.unusedVariables false
set_option linter.unusedSimpArgs false
namespace Go.Proofs.YtpjmolnkmlpfeaaGreatDoor
set_option maxRecDepth 100000
open Go.RowKit

/-- No defer statement. -/
def noDefer (o : Oper) : Bool := match o.op with | .defer _ => false | _ => true
theorem noDefer_ne {o : Oper} (h : noDefer o = true) (c : Call) : o.op ≠ .defer c := fun e => by unfold noDefer at h; rw [e] at h; cases h
/-- The fence that shuts nobody out, and its rounds. -/
def Wd (F : Fence) : Prop := F = Fence.wide ∨ ∃ l, F = Fence.wide.inRound l
theorem Wd.wide : Wd Fence.wide := .inl rfl
theorem Wd.round (l : Nat) : Wd (Fence.wide.inRound l) := .inr ⟨l, rfl⟩
theorem Wd.fn {F : Fence} (h : Wd F) (f : FuncId) : F.fn f := by rcases h with rfl | ⟨l, rfl⟩ <;> trivial
theorem Wd.depth {F : Fence} (h : Wd F) : F.depth = none := by rcases h with rfl | ⟨l, rfl⟩ <;> rfl
theorem Wd.calls {F : Fence} (h : Wd F) {n : Nat} {P : Program} {f : FuncId} {args : Array Value} {w : World} {R : Ending → World → Prop} (hc : Calls P f args w R) : CallsIn F n P f args w R := by
 rcases h with rfl | ⟨l, rfl⟩
 ·exact callsIn_wide.2 hc
 ·exact CallsIn.inRound l (callsIn_wide.2 hc)
section
variable {P : Program} {ops : Array Oper} {Q : Exit → Act → World → Prop} {a : Act} {w : World} {l n : Nat}
theorem oper_in {F : Fence} (hF : Wd F) {o : Oper} {K : Act → World → Prop} (hnd : noDefer o = true) (h : o.wp P a w K Q) : o.wpIn F n P a w K Q := by
 unfold Oper.wp at h
 refine ⟨fun _ _ => hF.fn _, ?_⟩
 rw [Oper.semAt_eq _ _ _ (noDefer_ne hnd)]
 generalize (execOp a.eval o).run P w = r at h ⊢
 cases r with
 | ok x w' =>
  cases x with
  | value v => exact h
  | skip => exact h
  | defer d => exact h
  | enter f args => exact ⟨(fun h => by rw [hF.depth] at h; cases h), hF.calls h⟩
  | row row args =>
   refine ⟨(fun h => by rw [hF.depth] at h; cases h), fun c cs _ => ?_⟩
   obtain ⟨v, w2, r, s⟩ := h c cs
   rcases hF with rfl | ⟨l, rfl⟩
   ·exact ⟨v, w2, r, stepsIn_wide.2 s⟩
   ·exact ⟨v, w2, r, stepsIn_wide.2 s⟩
  | round => exact h.elim
  | _ => exact h.elim
 | halt x w' => cases x <;> first | exact h | exact h.elim
theorem list_round (hQ : ¬ LetsOut Q) : ∀ {rest : List Oper} {a : Act} {w : World}, rest.all noDefer = true → wpList P ops Q rest a w → wpListIn (Fence.wide.inRound l) n P ops Q rest a w
 | [], _, _, _, h => h
 | o :: rest, a, w, hnd, h => by
  simp only [List.all_cons, Bool.and_eq_true] at hnd
  rw [wpList] at h
  rw [wpListIn]
  split at h
  ·rename_i hw
   rw [if_pos hw]
   refine oper_in (.round l) hnd.1 ?_
   rcases h with h | h
   ·exact Oper.wp_mono (fun a w h => list_round hQ hnd.2 h) h
   ·exact absurd h.2 hQ
  ·rename_i hw
   rw [if_neg hw]
   exact ⟨fun _ _ => trivial, list_round hQ hnd.2 h⟩
/-- A region in a round. -/
theorem region_round {id : Nat} {ls : List Oper} (hQ : ¬ LetsOut Q) (hnd : ls.all noDefer = true) (h : wpList P ls.toArray Q ls a w) : (Code.region id ls.toArray false).wpIn (Fence.wide.inRound l) n P Q a w :=
 wpIn_region_lit (list_round hQ hnd h)
theorem any_round {md : Region.Mode} (hQ : ¬ LetsOut Q) (hnd : ∀ (i : Nat) (o : Oper), ops[i]? = some o → noDefer o = true) : ∀ (f : Nat) (L : Array Bool) (a : Act) (w : World), wpAny P md ops Q f L a w → wpAnyIn (Fence.wide.inRound l) n P md ops Q f L a w
 | 0, _, _, _, h => h
 | f + 1, L, a, w, h => ⟨h.1, fun i hi => by
   have h1 := h.2 i hi
   unfold wpOp at h1
   unfold wpOpIn
   cases ho : ops[i]? with
   | none => rw [ho] at h1; exact any_round hQ hnd f _ _ _ h1
   | some o =>
    rw [ho] at h1
    simp only at h1 ⊢
    split at h1
    ·rename_i hw
     rw [if_pos hw]
     refine oper_in (.round l) (hnd i o ho) ?_
     rcases h1 with h1 | h1
     ·exact Oper.wp_mono (fun a w h => any_round hQ hnd f _ _ _ h) h1
     ·exact absurd h1.2 hQ
    ·rename_i hw
     rw [if_neg hw]
     exact ⟨fun _ _ => trivial, any_round hQ hnd f _ _ _ h1⟩⟩
theorem pf_beginR {id : Nat} {ls : List Oper} (hm : P.follows .mixedOrders = true) (hQ : ¬ LetsOut Q) (hnd : ls.all noDefer = true)
  (h : PF.wpS P ls Q ls.length [] (Array.replicate ls.length false) a w.drew) : (Code.region id ls.toArray true).wpIn (Fence.wide.inRound l) n P Q a w := by
 refine wpIn_region_any hm (any_round hQ (fun i o ho => ?_) _ _ _ _ ?_)
 ·rw [List.getElem?_toArray] at ho
  exact List.all_eq_true.1 hnd o (List.mem_of_getElem? ho)
 ·have h2 := PF.wpAny_of_T _ _ _ _ _ (h fun x hx => by cases hx)
  simpa using h2
variable {rest : List Oper} {op : Oper} {F : Fence}
theorem listIn_alloc (hF : Wd F) (hgd : op.guard = none) {ty : TypeId} (ho : op.op = .alloc ty) {Z : Array Value} (hz : ∀ w, (zeroValue ty).run P w = .ok (.agg Z) w)
  (h : ∀ g w', w.heap.size = g → Blk w' g ty Z → Below w.heap.size w w' → wpListIn F n P ops Q rest (a.put op.dst (.pointer (some ⟨g, 0, none⟩))) w') : wpListIn F n P ops Q (op :: rest) a w :=
 wpListIn_plain hgd fun _ hK => oper_in hF (by unfold noDefer; rw [ho]) (wp_alloc_blk ho hz fun g w' e hb hl => hK _ _ (h g w' e hb hl))
theorem listIn_store (hF : Wd F) (hgd : op.guard = none) {ty : TypeId} {x y : Operand} (ho : op.op = .store ty x y) {g : Nat} {t : TypeId} {c0 cs : Array Value} (hx : a.eval x = .pointer (some ⟨g, 0, none⟩)) (hy : a.eval y = .agg cs)
  (hB : Blk w g t c0) (hs : c0.size = cs.size) (hi : (P.info? ty).map (·.size) = some cs.size) (h1 : ∀ v ∈ cs.toList, v.oneCell' = true)
  (h : ∀ w', Blk w' g t cs → Mod (fun b => b = g) w w' → wpListIn F n P ops Q rest (a.put op.dst undef) w') : wpListIn F n P ops Q (op :: rest) a w :=
 wpListIn_plain hgd fun _ hK => oper_in hF (by unfold noDefer; rw [ho]) (wp_store_rgB (vs := cs.toList) ho hx (by rw [hy]) hB (by rw [hs]; simp) (by simpa using hi) h1 fun w' hb hm => hK _ _ (h w' (by rw [putL_all hs] at hb; exact hb) hm))
end
set_option maxHeartbeats 400000 in
theorem next_any {w : World} {o9 : Array Value} {m3 : Array Value} (h1 : o9.size = 19) (h2 : m3.size = 3) : Calls Tryz.prog 66 #[.agg o9, .agg m3] w fun e w' =>
  e = .returned (.func (.func 77) #[] #[.pointer (some ⟨w.heap.size, 0, none⟩), .pointer (some ⟨w.heap.size + 1, 0, none⟩)]) ∧ w' = (w.alloc (.cells o9 95)).alloc (.cells m3 45) := by
 go_enter Tryz.func66, Tryz.ntmps66
 go_wp2_with fail
 go_ret
 exact ⟨rfl, rfl⟩
/-- What a call of a history makes of a model. -/
def nxM (o : Opr) (M : Mdl) : List Mdl := if o.known then (doesM M o.call o.rep).toList else mightM M o.call
def opL (o : Opr) (v vr : Value) : List Value := calL o.call v ++ repL o.rep vr ++ [.bool o.known]
end Go.Proofs.YtpjmolnkmlpfeaaGreatDoor

/- A course's word. -/
namespace Go.Proofs.YtpjmolnkmlpfeaaGreatDoor
set_option maxRecDepth 100000
open Go.RowKit

theorem wrt_below {w w0 wr : World} {b B : Nat} {l : List UInt8} (h0 : Below B w w0) (hB : B ≤ w0.heap.size) (hb : B ≤ b) (h : Wrt b none l w0 wr) : Below B w wr := by
 obtain ⟨_, _, _, hm⟩ := h
 exact h0.trans (hm.to_below hB fun k hk e => by
  rcases e with e | e
  ·omega
  ·cases e)
theorem wrt_go {w0 w w' : World} {b : Nat} {row1 : Option Nat} {l' : List UInt8} (k1 : row1 = none ∨ ∃ g, w0.heap.size ≤ g ∧ row1 = some g) (m1 : Mod (fun k => k = b ∨ some k = none) w0 w) (h : Wrt b row1 l' w w') : Wrt b none l' w0 w' := Wrt.step k1 m1 h
theorem info_course4 : (Tryz.prog.info? 99).map (·.size) = some 4 := by kernel_rfl
theorem flat_take {α : Type} (f : α → List UInt8) {l : List α} {k : Nat} (hk : k < l.length) : (l.take (k + 1)).flatMap f = (l.take k).flatMap f ++ f l[k] := by
 rw [List.take_succ_eq_append_getElem hk, List.flatMap_append]
 simp
set_option maxHeartbeats 16000000 in
theorem word_any {K : Nat → Prop} {w : World} {vl vc vd : Value} {c : Crs} (h : CrF K w vl vc vd c) (hc : OkC c) :
  Calls Tryz.prog 62 #[.agg (crL c vl vc vd).toArray] w fun e w' => e = .returned (.string ⟨(wordC c).toArray⟩) ∧ Below w.heap.size w w' := by
 obtain ⟨⟨⟨A, ca, E, rfl, hE, hr, hall, _⟩, ⟨A2, c2, rfl, hr2, _⟩⟩, ⟨A3, c3, rfl, hr3, _⟩⟩ := h
 have hl : c.m.log.length = E.length := by rw [← hE, List.length_map]
 have hn1 : E.length ≤ 100000 := by rw [← hl]; exact hc.m.log
 have hn3 : (nats c.done).length ≤ 100000 := by unfold nats; rw [List.length_map]; exact hc.doneN
 have hcur := hc.cur3
 have HC := Lib.hid hc
 have HL := Lib.hid hl
 have HE := Lib.hid hE
 have HR := Lib.hid hr
 have HR2 := Lib.hid hr2
 have HR3 := Lib.hid hr3
 have HALL := Lib.hid hall
 rw [hcur] at HR2
 have HD : Hid (nats c.done = c.done.map (fun k : Nat => (k : Int))) := rfl
 have HDL : Hid ((nats c.done).length = c.done.length) := by show _ = _; unfold nats; rw [List.length_map]
 obtain ⟨nd, hnd⟩ : ∃ nd, nd = (nats c.done).length := ⟨_, rfl⟩
 rw [← hnd] at hn3 HR3 HDL
 obtain ⟨W1, hW1⟩ : ∃ W1, W1 = w.alloc (.cells (crL c (.slice A E.length ca) (.slice A2 3 c2) (.slice A3 nd c3)).toArray 99) := ⟨_, rfl⟩
 have hX1 : Blk W1 w.heap.size 99 (crL c (.slice A E.length ca) (.slice A2 3 c2) (.slice A3 nd c3)).toArray := by rw [hW1]; exact Blk.new _ _ _
 have hT1 : Below w.heap.size w W1 := by rw [hW1]; exact below_new _ _
 have hs1 : W1.heap.size = w.heap.size + 1 := by rw [hW1]; exact alloc_size _ _
 have HW1 := Lib.hid hW1
 have HX1 := Lib.hid hX1
 have HT1 := Lib.hid hT1
 rw [hcur, ← hnd]
 clear hc hl hE hr hr2 hr3 hall hcur hnd hW1 hX1 hT1
 go_enter Tryz.func62, Tryz.ntmps62
 go_wp2_with fail
 rw [← HW1.out]
 refine (newwriter_any W1).mono ?_
 rintro e w2 ⟨rfl, hw2, e2⟩
 have hb2 : Below W1.heap.size W1 w2 := by rw [e2]; exact below_new _ _
 have hz2 : w2.heap.size = W1.heap.size + 1 := by rw [e2]; exact alloc_size _ _
 rw [hs1] at hw2 hz2 hb2
 rw [hs1]
 have HX2 := Lib.hid (HX1.out.below hb2 (by omega))
 have HT2 := Lib.hid (HT1.out.trans (hb2.mono (by omega)))
 have HZ2 := Lib.hid hz2
 have q0 := (HX2.out.cell 0).trans (rfl : _ = some (Value.slice A E.length ca))
 have q1 := (HX2.out.cell 1).trans (rfl : _ = some (Value.int .u64 (c.m.trim : Int)))
 have hwn : IntKind.u64.wrap (E.length : Int) = (E.length : Int) := by rw [IntKind.wrap_u64]; omega
 have hxx : ∀ x ∈ [E.length, c.m.trim], x < 18446744073709551616 := by
  intro x hx
  simp only [List.mem_cons, List.not_mem_nil, or_false] at hx
  rcases hx with rfl | rfl
  ·omega
  ·exact HC.out.m.trim
 have HC1 := Lib.hid (wput_new (w.heap.size + 1) none [] [E.length, c.m.trim] hxx #[.int .u64 (E.length : Int), .int .u64 (c.m.trim : Int)] rfl 2 2 rfl w2 hw2 (by simp))
 have HW2 := Lib.hid hw2
 clear e2 hb2 hz2 hxx hs1 hw2 HX1 HT1
 go_wp2_with fail
 refine HC1.out.mono ?_
 rintro e w3 ⟨rfl, hw3⟩
 have HW3 := Lib.hid hw3
 have hbw : Hid (Below w.heap.size w w3) := wrt_below HT2.out (by have := HZ2.out; omega) (by omega) hw3
 have hbx : Blk w3 w.heap.size 99 (crL c (.slice A E.length ca) (.slice A2 3 c2) (.slice A3 nd c3)).toArray := by
  obtain ⟨_, _, _, hm⟩ := hw3
  exact HX2.out.mod hm fun e => by
   rcases e with e | e
   ·omega
   ·cases e
 have q0' := (hbx.cell 0).trans (rfl : _ = some (Value.slice A E.length ca))
 clear hw3 q0 q1 hbx HC1
 go_wp2_with fail
 clear q0'
 go_loopw [24] (fun i wr => ∃ k : Nat, k ≤ E.length ∧ i = .int .i64 k ∧ Wrt (w.heap.size + 1) none ([E.length, c.m.trim].flatMap short ++ (c.m.log.take k).flatMap entW) w2 wr) (fun i _ => E.length - (intOf i).toNat)
 case atStart => exact ⟨0, by omega, rfl, by rw [List.take_zero, List.flatMap_nil, List.append_nil]; exact HW3.out⟩
 case round =>
  obtain ⟨k, hk, rfl, hw⟩ := hrel
  have HB : Hid (Below w.heap.size w wr) := wrt_below HT2.out (by have := HZ2.out; omega) (by omega) hw
  have HX : Hid (Blk wr w.heap.size 99 (crL c (.slice A E.length ca) (.slice A2 3 c2) (.slice A3 nd c3)).toArray) := by
   obtain ⟨_, _, _, hm⟩ := hw
   exact HX2.out.mod hm fun e => by
    rcases e with e | e
    ·omega
    ·cases e
  obtain ⟨row1, h1, k1, m1⟩ := id hw
  have HW := Lib.hid hw
  clear hw
  by_cases hlt : k < E.length
  ·obtain ⟨b, o, rfl, hbl, c0, c1, c2'⟩ := en_cells (HR.out.below (HB.out.mono (Nat.le_refl _))) hlt
   have hgt := map_getD HE.out hlt
   have hmem : E[k].1 ∈ c.m.log := by rw [← HE.out]; exact List.mem_map.2 ⟨_, List.getElem_mem hlt, rfl⟩
   have hok := HC.out.m.ent _ hmem
   have hsb := HALL.out _ (List.getElem_mem hlt)
   have hkl : k < c.m.log.length := by rw [HL.out]; exact hlt
   have hft := flat_take entW hkl
   have hlg : c.m.log[k] = E[k].1 := by rw [List.getD_eq_getElem?_getD, List.getElem?_eq_getElem hkl] at hgt; exact hgt
   rw [hlg] at hft
   obtain ⟨Dk, dk, eD, hDb, _⟩ := id hsb
   rw [eD] at c2'
   have HFT := Lib.hid hft
   have HOK := Lib.hid hok
   have HDB := Lib.hid hDb
   generalize hx : E[k].1 = x at c0 c1 c2' HFT HOK HDB
   clear hx hgt hmem hok hsb hkl hft hlg eD hDb
   have hp0 := HOK.out.prod0
   have hp1 := HOK.out.prod1
   obtain ⟨pn, hpn⟩ : ∃ pn : Nat, pn = x.prod.toNat := ⟨_, rfl⟩
   have hwp : IntKind.u64.wrap x.prod = (pn : Int) := by rw [IntKind.wrap_u64]; omega
   have hlL : ([E.length, c.m.trim].flatMap short ++ (c.m.log.take k).flatMap entW).length ≤ 20 + 1000030 * 100000 := by
    have h1 := shorts_len (l := [E.length, c.m.trim]) (by
     intro z hz
     simp only [List.mem_cons, List.not_mem_nil, or_false] at hz
     rcases hz with rfl | rfl
     ·omega
     ·exact HC.out.m.trim)
    have h2 := ents_len (l := c.m.log.take k) fun e he => HC.out.m.ent e (List.mem_of_mem_take he)
    have h3 : (c.m.log.take k).length ≤ 100000 := by rw [List.length_take]; omega
    rw [List.length_append]
    simp only [List.length_cons, List.length_nil] at h1
    omega
   have HLL := Lib.hid hlL
   have hbox : Blk (wr.alloc (.cells #[.int .i64 x.prod, .int .u64 (x.seq : Int), .slice Dk x.body.length dk] 73)) wr.heap.size 73 #[.int .i64 x.prod, .int .u64 (x.seq : Int), .slice Dk x.body.length dk] := Blk.new _ _ _
   have e0 := (hbox.cell 0).trans (rfl : _ = some (Value.int .i64 x.prod))
   have e1 := (hbox.cell 1).trans (rfl : _ = some (Value.int .u64 (x.seq : Int)))
   have hb1 := below_new wr (.cells #[.int .i64 x.prod, .int .u64 (x.seq : Int), .slice Dk x.body.length dk] 73)
   have hcall := wput_new (w.heap.size + 1) row1 _ [pn, x.seq] (by
    intro z hz
    simp only [List.mem_cons, List.not_mem_nil, or_false] at hz
    rcases hz with rfl | rfl
    ·omega
    ·exact HOK.out.seq) #[.int .u64 (pn : Int), .int .u64 (x.seq : Int)] rfl 2 2 rfl _ (h1.below hb1) (by simp only [List.length_cons, List.length_nil]; omega)
   rw [alloc_size] at hcall
   have HCALL := Lib.hid hcall
   have HBX := Lib.hid hbox
   have HB1 := Lib.hid hb1
   have HRL := Lib.hid h1.row_lt
   have HPN := Lib.hid hpn
   have HK1 := Lib.hid k1
   have HM1 := Lib.hid m1
   have HWB : Hid (w.heap.size + 1 < wr.heap.size) := h1.lt
   clear hcall hbox hb1 hlL h1 k1 m1 hp0 hp1 hpn
   go_wp2_with fail
   refine HCALL.out.mono ?_
   rintro e w4 ⟨rfl, hw4⟩
   have hb4 : Blk w4 wr.heap.size 73 #[.int .i64 x.prod, .int .u64 (x.seq : Int), .slice Dk x.body.length dk] := by
    obtain ⟨_, _, _, hm⟩ := hw4
    refine HBX.out.mod hm fun e => ?_
    rcases e with e | e
    ·have := HWB.out; omega
    ·have := HRL.out _ e.symm; omega
   have hw4' := wrt_go HK1.out HM1.out (Wrt.ahead HB1.out HRL.out hw4)
   have HB4 : Hid (Below w.heap.size w w4) := wrt_below HT2.out (by have := HZ2.out; omega) (by omega) hw4'
   have e2' := (hb4.cell 2).trans (rfl : _ = some (Value.slice Dk x.body.length dk))
   have hcv := conv_str (P := Tryz.prog) (c := dk) Tryz.underlying23 Tryz.underlying5 Tryz.underlying9 (HDB.out.below (HB4.out.mono (Nat.le_refl _))) rfl
   obtain ⟨row4, h4, k4, m4⟩ := hw4'
   have hlen4 : (([E.length, c.m.trim].flatMap short ++ (c.m.log.take k).flatMap entW) ++ [pn, x.seq].flatMap short).length ≤ 40 + 1000030 * 100000 := by
    have h1 := HLL.out
    have h2 := shorts_len (l := [pn, x.seq]) (by
     intro z hz
     simp only [List.mem_cons, List.not_mem_nil, or_false] at hz
     rcases hz with rfl | rfl
     ·have := HPN.out; have := HOK.out.prod1; omega
     ·exact HOK.out.seq)
    rw [List.length_append]
    simp only [List.length_cons, List.length_nil] at h2
    omega
   have HT4 := Lib.hid (wtext_any (w.heap.size + 1) row4 _ x.body w4 h4 (by have := HOK.out.body; omega))
   have HK4 := Lib.hid k4
   have HM4 := Lib.hid m4
   clear hw4 hb4 h4 k4 m4 hlen4 e0 e1
   go_wp2_with fail
   refine HT4.out.mono ?_
   rintro e w5 ⟨rfl, hw5⟩
   have HW5 := Lib.hid (wrt_go HK4.out HM4.out hw5)
   clear hw5
   go_wp2_with fail
   go_roundw
   case rel =>
    refine ⟨k + 1, by omega, by go_num, ?_⟩
    rw [HFT.out]
    have := HW5.out
    rw [HPN.out] at this
    rw [show entW x = [x.prod.toNat, x.seq].flatMap short ++ (short x.body.length ++ x.body) from rfl]
    simpa only [List.append_assoc] using this
   case measure => simp [intOf]; omega
  ·obtain rfl : k = E.length := by omega
   rw [← HL.out, List.take_length] at HW
   rw [HL.out] at HW
   have hA2 : ∀ ad, A2 = some ad → ad.block ≠ w.heap.size + 1 ∧ some ad.block ≠ row1 := fun ad ea => by
    have h2 := reads_lt HR2.out (by decide) ea
    refine ⟨by omega, fun e => ?_⟩
    rcases k1 with h | ⟨g, hg, h⟩
    ·rw [h] at e; cases e
    ·rw [h] at e
     injection e with e
     have := HZ2.out
     omega
   have hcw := HC.out
   have hlL : ([E.length, c.m.trim].flatMap short ++ c.m.log.flatMap entW).length ≤ 20 + 1000030 * 100000 := by
    have h1 := shorts_len (l := [E.length, c.m.trim]) (by
     intro z hz
     simp only [List.mem_cons, List.not_mem_nil, or_false] at hz
     rcases hz with rfl | rfl
     ·omega
     ·exact HC.out.m.trim)
    have h2 := ents_len hcw.m.ent
    have h3 := hcw.m.log
    rw [List.length_append]
    simp only [List.length_cons, List.length_nil] at h1
    omega
   have hrow : Wr wr (w.heap.size + 1) row1 ([E.length, c.m.trim].flatMap short ++ c.m.log.flatMap entW) := by
    rw [← HL.out, List.take_length, HL.out] at h1
    exact h1
   have HCALL := Lib.hid (wput_any (w.heap.size + 1) row1 _ c.m.cur hcw.m.cur A2 c2 3 hcw.cur3.symm wr hrow (HR2.out.below (HB.out.mono (Nat.le_refl _))) hA2 (by rw [hcw.cur3]; omega))
   have p2 := (HX.out.cell 2).trans (rfl : _ = some (Value.slice A2 3 c2))
   have HK1 := Lib.hid k1
   have HM1 := Lib.hid m1
   have HLL := Lib.hid hlL
   clear h1 k1 m1 hA2 hcw hlL hrow
   go_wp2_with fail
   refine HCALL.out.mono ?_
   rintro e w4 ⟨rfl, hw4⟩
   have hw4' := wrt_go HK1.out HM1.out hw4
   have HW4 := Lib.hid hw4'
   have hX4 : Blk w4 w.heap.size 99 (crL c (.slice A E.length ca) (.slice A2 3 c2) (.slice A3 nd c3)).toArray := by
    obtain ⟨_, _, _, hm⟩ := hw4'
    exact HX2.out.mod hm fun e => by
     rcases e with e | e
     ·omega
     ·cases e
   have p3 := (hX4.cell 3).trans (rfl : _ = some (Value.slice A3 nd c3))
   clear hw4 hw4' hX4 p2
   go_wp2_with fail
   clear p3
   go_loopw [50] (fun i wr => ∃ k : Nat, k ≤ nd ∧ i = .int .i64 k ∧ Wrt (w.heap.size + 1) none ([E.length, c.m.trim].flatMap short ++ c.m.log.flatMap entW ++ c.m.cur.flatMap short ++ (c.done.take k).flatMap short) w2 wr) (fun i _ => nd - (intOf i).toNat)
   case atStart => exact ⟨0, by omega, rfl, by rw [List.take_zero, List.flatMap_nil, List.append_nil]; exact HW4.out⟩
   case round =>
    obtain ⟨j, hj, rfl, hw⟩ := hrel
    obtain ⟨row2, h2, k2, m2⟩ := id hw
    have HBQ : Hid (Below w.heap.size w wr) := wrt_below HT2.out (by have := HZ2.out; omega) (by omega) hw
    have HWQ := Lib.hid hw
    have hlD : ([E.length, c.m.trim].flatMap short ++ c.m.log.flatMap entW ++ c.m.cur.flatMap short ++ (c.done.take j).flatMap short).length ≤ 60 + 1000030 * 100000 + 10 * 100000 := by
     have h1 := HLL.out
     have h3 := shorts_len (l := c.m.cur) HC.out.m.cur
     have h4 := shorts_len (l := c.done.take j) fun e he => by have := HC.out.done e (List.mem_of_mem_take he); omega
     have h5 := HC.out.cur3
     have h6 : (c.done.take j).length ≤ 100000 := by have := HC.out.doneN; rw [List.length_take]; omega
     simp only [List.length_append] at h1 ⊢
     omega
    clear hw
    by_cases hlj : j < nd
    ·have hjd : j < c.done.length := by have := HDL.out; omega
     obtain ⟨b3, o3, rfl, _, hcc⟩ := Reads.flat HR3.out (by omega) (by decide)
     have c0 := hcc j (iv (c.done[j] : Nat)) (by
      rw [HD.out, List.map_map, List.getElem?_map, List.getElem?_eq_getElem hjd]
      rfl)
     have hbl3 := reads_lt HR3.out (by omega) rfl
     have c0' := (HBQ.out.cell (p := ⟨b3, o3 + j, none⟩) hbl3).trans c0
     have hdk := HC.out.done _ (List.getElem_mem hjd)
     have hft := flat_take short hjd
     have HFT := Lib.hid hft
     have hwk : IntKind.u64.wrap ((c.done[j] : Nat) : Int) = ((c.done[j] : Nat) : Int) := by rw [IntKind.wrap_u64]; omega
     have HCALL := Lib.hid (wuint_any (w.heap.size + 1) row2 _ (c.done[j]) (by omega) wr h2 (by omega))
     unfold iv at c0'
     generalize c.done[j] = dj at c0' HFT hwk HCALL
     have HK2 := Lib.hid k2
     have HM2 := Lib.hid m2
     clear hcc c0 hbl3 hdk hft h2 k2 m2 hlD
     go_wp2_with fail
     refine HCALL.out.mono ?_
     rintro e w6 ⟨rfl, hw6⟩
     have HW6 := Lib.hid (wrt_go HK2.out HM2.out hw6)
     clear hw6
     go_wp2_with fail
     go_roundw
     case rel =>
      refine ⟨j + 1, by omega, by go_num, ?_⟩
      rw [HFT.out]
      have := HW6.out
      simpa only [List.append_assoc] using this
     case measure => simp [intOf]; omega
    ·obtain rfl : j = nd := by omega
     rw [HDL.out, List.take_length] at h2
     have hwc : Wr wr (w.heap.size + 1) row2 (wordC c) := by
      unfold wordC
      rw [HL.out]
      exact h2
     have HCALL := Lib.hid (wbytes_any (w.heap.size + 1) row2 (wordC c) wr hwc (by have := wordC_len HC.out; omega))
     clear h2 k2 m2 hlD hwc
     go_wp2_with fail
     refine HCALL.out.mono ?_
     rintro e w6 ⟨⟨A6, c6, rfl, ho6⟩, hb6⟩
     have hcv := conv_str (P := Tryz.prog) (c := c6) Tryz.underlying23 Tryz.underlying5 Tryz.underlying9 (own_bytes ho6) rfl
     have HB6 := Tt HBQ hb6
     clear ho6 hb6
     go_wp2_with fail
     go_ret
     exact ⟨rfl, HB6.out⟩
end Go.Proofs.YtpjmolnkmlpfeaaGreatDoor
