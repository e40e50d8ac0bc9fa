/- Joined texts: JdI, JdJ. -/
import Derived.Test.YtpjmolnkmlpfeaaGreatDoorJBA
import Derived.Test.YtpjmolnkmlpfeaaGreatDoorJuM
import Derived.Test.YtpjmolnkmlpfeaaGreatDoorJdH4
/- A row of models that grows: plain; the steps of it. -/
set_option linter.unusedVariables false
set_option linter.unusedSimpArgs false
namespace Go.Proofs.YtpjmolnkmlpfeaaGreatDoor
set_option maxRecDepth 100000
open Go.RowKit

theorem freshR {X : Mdl} {C : Cal} {sq : Nat} {lh : Bool} (h1 : lastS X C.cl X.log.length = sq) (h3 : lastH X C.cl X.log.length = lh) : freshM X C = (!lh || decide (sq < C.seq)) := by
 unfold freshM lastOf
 unfold lastS at h1
 unfold lastH at h3
 cases hk : lastK X.log C.cl X.log.length with
 | none =>
  rw [hk] at h3
  rw [show lh = false from h3.symm]
  rfl
 | some k =>
  rw [hk] at h1 h3
  simp only at h1 h3
  rw [show lh = true from h3.symm]
  show decide ((X.log.getD k zEnt).seq < C.seq) = _
  rw [h1]
  simp
/-- Models in a row of one's own; they lie elsewhere. -/
def OwR (B : Nat) (w : World) (v : Value) (Ms : List Mdl) : Prop := ∃ E : List MdE, w.ownsRow B 45 3 v E.length (E.flatMap mdE) ∧ E.map (·.1) = Ms ∧ ∀ p ∈ E, MdF (fun b => B ≤ b ∧ v.ownBlock ≠ some b) w p.2.1 p.2.2 p.1
theorem OwR.nil (B : Nat) (w : World) : OwR B w (.slice none 0 0) [] := ⟨[], World.ownsRow_nil _ _ _ _, rfl, fun p hp => by cases hp⟩
theorem OwR.slm {B : Nat} {w : World} {v : Value} {Ms : List Mdl} (h : OwR B w v Ms) : SlM (fun b => B ≤ b) w v Ms := by
 obtain ⟨E, h1, h2, h3⟩ := h
 obtain ⟨A, c, rfl, h4, h5⟩ := own_slice h1
 exact ⟨A, c, E, rfl, h2, Reads.of_own h1, fun p hp => (h3 p hp).weak fun b _ h => h.1, h4, by simpa [maxLen] using h5, fun _ ad ea => own_ge h1 _ (by rw [ea]; rfl)⟩
theorem OwR.below {B : Nat} {w w' : World} {v : Value} {Ms : List Mdl} (h : OwR B w v Ms) (hb : Below w.heap.size w w') : OwR B w' v Ms := by
 obtain ⟨E, h1, h2, h3⟩ := h
 exact ⟨E, own_call h1 hb, h2, fun p hp => (h3 p hp).below hb⟩
theorem OwR.low {B B' : Nat} {w : World} {v : Value} {Ms : List Mdl} (h : OwR B w v Ms) (hB : B' ≤ B) : OwR B' w v Ms := by
 obtain ⟨E, h1, h2, h3⟩ := h
 exact ⟨E, base_le h1 hB, h2, fun p hp => (h3 p hp).weak fun b _ h => ⟨Nat.le_trans hB h.1, h.2⟩⟩
theorem OwR.lt {B : Nat} {w : World} {v : Value} {Ms : List Mdl} (h : OwR B w v Ms) : ∀ b, v.ownBlock = some b → B ≤ b ∧ b < w.heap.size := by
 obtain ⟨E, h1, _⟩ := h
 exact h1.lt
theorem OwR.more {B : Nat} {w w1 : World} {v v' : Value} {E : List MdE} {Ms : List Mdl} {M : Mdl} {vl vc : Value} (h2 : E.map (·.1) = Ms) (h3 : ∀ p ∈ E, MdF (fun b => B ≤ b ∧ v.ownBlock ≠ some b) w p.2.1 p.2.2 p.1) (hx : MdF (fun b => B ≤ b ∧ v.ownBlock ≠ some b) w vl vc M)
  (ho : w1.ownsRow B 45 3 v' (E.length + 1) (E.flatMap mdE ++ mdL M vl vc)) (hg : w.grownBy w1 v.ownBlock) (hv : v'.ownBlock = v.ownBlock ∨ v'.ownBlock = some w.heap.size) : OwR B w1 v' (Ms ++ [M]) := by
 have hm := mod_grownO hg
 have hk : ∀ {vl vc : Value} {M : Mdl}, MdF (fun b => B ≤ b ∧ v.ownBlock ≠ some b) w vl vc M → MdF (fun b => B ≤ b ∧ v'.ownBlock ≠ some b) w1 vl vc M := fun h => by
  refine (h.weak (K' := fun b => B ≤ b ∧ v.ownBlock ≠ some b ∧ b < w.heap.size) fun b hb h => ⟨h.1, h.2, hb⟩).mod hm (fun b hb e => hb.2.1 e) |>.weak fun b _ h => ⟨h.1, fun e => ?_⟩
  rcases hv with h' | h'
  ·rw [h'] at e; exact h.2.1 e
  ·rw [h'] at e; injection e with e; have := h.2.2; omega
 refine ⟨E ++ [(M, vl, vc)], ?_, by rw [List.map_append, h2]; rfl, fun p hp => ?_⟩
 ·rw [List.length_append, List.flatMap_append]
  simpa [mdE] using ho
 ·rcases List.mem_append.1 hp with h | h
  ·exact hk (h3 p h)
  ·rw [List.mem_singleton.1 h]; exact hk hx
section
variable {op : Oper} {a : Act} {w : World} {K : Act → World → Prop} {Q : Exit → Act → World → Prop}
theorem bs1_md (M : Mdl) (vl vc : Value) (w : World) : (Instr.buildSlice 57 1 #[(0, .agg (mdL M vl vc).toArray)]).run Tryz.prog w = .ok (.slice (some ⟨w.heap.size, 0, none⟩) 1 1) (w.alloc (.cells (mdL M vl vc).toArray 45)) := by kernel_rfl
theorem wp_mkM1 {M : Mdl} {vl vc : Value} {p : Operand} (ho : op.op = .buildSlice 57 1 #[(0, p)]) (hx : a.eval p = .agg (mdL M vl vc).toArray) (h : ∀ g w', Reads w' 3 (some ⟨g, 0, none⟩) 1 (mdL M vl vc) → Below w.heap.size w w' → K (a.put op.dst (.slice (some ⟨g, 0, none⟩) 1 1)) w') : op.wp Tryz.prog a w K Q := by
 unfold Oper.wp execOp
 simp only [ho, Sem.run_bind, List.map_toArray, List.map_cons, List.map_nil, hx, bs1_md, Result.andThen_ok, Sem.run_pure]
 exact h _ _ (reads_blockN w 45 (mdL M vl vc) 3 rfl) (below_new _ _)
theorem wp_appM {s x : Operand} (ho : op.op = .call { callee := .builtin .append, args := #[s, x], argTypes := #[57, 57] }) {B : Nat} {v : Value} {Ms : List Mdl} {M : Mdl} {vl vc : Value} {A : Option Addr} {d : Nat} (hown : OwR B w v Ms) (hs : a.eval s = v) (h2 : Reads w 3 A 1 (mdL M vl vc)) (hx : a.eval x = .slice A 1 d)
  (hm : MdF (fun b => B ≤ b ∧ v.ownBlock ≠ some b) w vl vc M) (hn : Ms.length ≤ 100000) (hB : B ≤ w.heap.size)
  (h : ∀ v' w', OwR B w' v' (Ms ++ [M]) → w.grownBy w' v.ownBlock → K (a.put op.dst v') w') : op.wp Tryz.prog a w K Q := by
 obtain ⟨E, h1, he, h3⟩ := hown
 have hl : E.length = Ms.length := by rw [← he, List.length_map]
 have hone : ∀ u ∈ mdL M vl vc, u.oneCell' = true := mdL_oneL hm.1.one hm.2.one
 exact app_wp model_ty ho h1 hs h2 hx hone (by omega) hB fun v' w' ho' hg' hq' => h v' w' (OwR.more he h3 hm ho' hg' hq') hg'
variable {ops : Array Oper} {rest : List Oper}
theorem wpList_mkM1 (hgd : op.guard = none) {M : Mdl} {vl vc : Value} {p : Operand} (ho : op.op = .buildSlice 57 1 #[(0, p)]) (hx : a.eval p = .agg (mdL M vl vc).toArray) (h : ∀ g w', Reads w' 3 (some ⟨g, 0, none⟩) 1 (mdL M vl vc) → Below w.heap.size w w' → wpList Tryz.prog ops Q rest (a.put op.dst (.slice (some ⟨g, 0, none⟩) 1 1)) w') : wpList Tryz.prog ops Q (op :: rest) a w :=
 wpList_plain hgd fun _ hK => wp_mkM1 ho hx fun g w' h1 h2 => hK _ _ (h g w' h1 h2)
theorem wpList_appM (hgd : op.guard = none) {s x : Operand} (ho : op.op = .call { callee := .builtin .append, args := #[s, x], argTypes := #[57, 57] }) {B : Nat} {v : Value} {Ms : List Mdl} {M : Mdl} {vl vc : Value} {A : Option Addr} {d : Nat} (hown : OwR B w v Ms) (hs : a.eval s = v) (h2 : Reads w 3 A 1 (mdL M vl vc)) (hx : a.eval x = .slice A 1 d)
  (hm : MdF (fun b => B ≤ b ∧ v.ownBlock ≠ some b) w vl vc M) (hn : Ms.length ≤ 100000) (hB : B ≤ w.heap.size)
  (h : ∀ v' w', OwR B w' v' (Ms ++ [M]) → w.grownBy w' v.ownBlock → wpList Tryz.prog ops Q rest (a.put op.dst v') w') : wpList Tryz.prog ops Q (op :: rest) a w :=
 wpList_plain hgd fun _ hK => wp_appM ho hown hs h2 hx hm hn hB fun v' w' h1 h2 => hK _ _ (h v' w' h1 h2)
end
theorem mrange_more {X : Mdl} {t n : Nat} (h : t < n) : (List.range (n - t)).map (fun i => { X with trim := t + i + 1 }) = (List.range (n - 1 - t)).map (fun i => { X with trim := t + i + 1 }) ++ [{ X with trim := n }] := by
 rw [show n - t = (n - 1 - t) + 1 by omega, List.range_succ, List.map_append]
 have e : t + (n - 1 - t) + 1 = n := by omega
 simp only [List.map_cons, List.map_nil, e]
end Go.Proofs.YtpjmolnkmlpfeaaGreatDoor

/- The document's Might. -/
namespace Go.Proofs.YtpjmolnkmlpfeaaGreatDoor
set_option maxRecDepth 100000
open Go.RowKit

theorem below_nil {w w' : World} (hg : w.grownBy w' (Value.slice none 0 0).ownBlock) : Below w.heap.size w w' := (mod_grownO hg).to_below (Nat.le_refl _) fun b _ e => by cases e
theorem curS_own3 {M : Mdl} {s : Int} : curS M s = curS (ownM M) s := by
 by_cases h : 1 ≤ s ∧ s ≤ 3
 ·rcases (by omega : s = 1 ∨ s = 2 ∨ s = 3) with rfl | rfl | rfl <;> rfl
 ·unfold curS
  rw [if_neg h, if_neg h]
set_option maxHeartbeats 32000000 in
theorem rmight_any {K K1 : Nat → Prop} {w : World} {vl0 vc0 v : Value} {M : Mdl} {C : Cal} (h : MdF K w vl0 vc0 M) (hv : SlB K1 w v C.body) (hn : M.log.length ≤ 90000) (hbl : ∀ e ∈ M.log, e.body.length ≤ 1000000) (hnb : C.body.length ≤ 100000) :
  Calls Tryz.prog 27 #[.agg (mdL M vl0 vc0).toArray, .agg (calL C v).toArray] w fun e w' => (∃ v', e = .returned v' ∧ SlM (fun b => w.heap.size ≤ b) w' v' (mightM M C)) ∧ Below w.heap.size w w' := by
 have ho2 := h.2.one
 obtain ⟨⟨A, c, E, rfl, hE, _⟩, _⟩ := id h
 obtain ⟨Db, cb, eb, _⟩ := id hv
 subst eb
 have hlE : M.log.length = E.length := by rw [← hE, List.length_map]
 obtain ⟨W0, hW0⟩ : ∃ W0, W0 = (w.alloc (.cells (mdL M (.slice A E.length c) vc0).toArray 45)).alloc (.cells (calL C (.slice Db C.body.length cb)).toArray 25) := ⟨_, rfl⟩
 have hX1 : Blk W0 w.heap.size 45 (mdL M (.slice A E.length c) vc0).toArray := by rw [hW0]; exact (Blk.new _ _ _).alloc _
 have hX2 : Blk W0 (w.heap.size + 1) 25 (calL C (.slice Db C.body.length cb)).toArray := by
  have := Blk.new (w.alloc (.cells (mdL M (.slice A E.length c) vc0).toArray 45)) 25 (calL C (.slice Db C.body.length cb)).toArray
  rw [alloc_size] at this
  rw [hW0]
  exact this
 have hT : Below w.heap.size w W0 := by rw [hW0]; exact ((Below.refl _ _).alloc (Nat.le_refl _) _).alloc (by simp) _
 have HX1 := Lib.hid hX1
 have HX2 := Lib.hid hX2
 have HTa := Lib.hid hT
 have HM0 := Lib.hid h
 have HV := Lib.hid hv
 have HHH : Hid (M.log.length ≤ 90000 ∧ (∀ e ∈ M.log, e.body.length ≤ 1000000) ∧ C.body.length ≤ 100000) := ⟨hn, hbl, hnb⟩
 have HLE := Lib.hid hlE
 have HW0 := Lib.hid hW0
 have hw : IntKind.u64.wrap (E.length : Int) = (E.length : Int) := by rw [IntKind.wrap_u64]; omega
 clear hX1 hX2 hT h hv hn hbl hnb hW0 hE hlE
 go_enter Tryz.func27, Tryz.ntmps27
 have k0 := (HX2.out.cell 0).trans (rfl : _ = some (Value.int .i64 C.cl))
 rw [HW0.out] at k0
 go_wp2_with (refine wpList_load_blk rfl (ty := 45) rfl (g := w.heap.size) rfl (by rw [← HW0.out]; exact HX1.out) Tryz.underlying45 rfl (info_model rfl) ?_; refine Hid.out ?_)
 refine Lib.hid ?_
 go_wp2_with fail
 rw [← HW0.out]
 refine (rlast_any (M := M) (HM0.out.1.below HTa.out) ho2 C.cl (Nat.le_trans HHH.out.1 (by decide))).mono ?_
 rintro e w3 ⟨rfl, hb3⟩
 generalize hsq : lastS M C.cl M.log.length = sq
 generalize hla : lastA M C.cl M.log.length = la
 generalize hlh : lastH M C.cl M.log.length = lh
 have HFR : Hid (freshM (ownM M) C = (!lh || decide (sq < C.seq))) := freshR (X := ownM M) hsq hlh
 have HT := Tt HTa hb3
 have HB1 := Bb HX1 hb3
 have HB2 := Bb HX2 hb3
 have HL2 : Hid (w.heap.size + 1 < w3.heap.size) := HB2.out.lt
 clear hsq hla hlh hb3 k0 HX1 HX2 HTa HW0
 have k5 := (HB2.out.cell 5).trans (rfl : _ = some (Value.int .i64 C.sub))
 have k3 := (HB2.out.cell 3).trans (rfl : _ = some (Value.int .i64 C.kind))
 have k6 := (HB2.out.cell 6).trans (rfl : _ = some (Value.int .u64 (C.seq : Int)))
 have k7 := (HB2.out.cell 7).trans (rfl : _ = some (Value.int .u64 (C.at_ : Int)))
 have k8 := (HB2.out.cell 8).trans (rfl : _ = some (Value.slice Db C.body.length cb))
 have m0 := (HB1.out.cell 0).trans (rfl : _ = some (Value.slice A E.length c))
 have m1 := (HB1.out.cell 1).trans (rfl : _ = some (Value.int .u64 (M.trim : Int)))
 have HD : Hid (mightM M C = mightO (ownM M) C) := rfl
 have hk : C.kind = 1 ∨ C.kind = 3 ∨ C.kind = 4 ∨ C.kind = 5 ∨ (C.kind ≠ 1 ∧ C.kind ≠ 3 ∧ C.kind ≠ 4 ∧ C.kind ≠ 5) := by omega
 rcases hk with hk | hk | hk | hk | ⟨n1, n3, n4, n5⟩
 ·skip
  have p1 : (C.kind == 1) = true := beq_iff_eq.2 hk
  have p3 : (C.kind == 3) = false := beq_eq_false_iff_ne.2 (by omega)
  have p4 : (C.kind == 4) = false := beq_eq_false_iff_ne.2 (by omega)
  have p5 : (C.kind == 5) = false := beq_eq_false_iff_ne.2 (by omega)
  have HP : Hid (mightM M C = if longC C = false ∧ (!lh || decide (sq < C.seq)) = true then [withM (ownM M) C] else []) := by show _ = _; rw [HD.out]; unfold mightO; rw [if_pos hk, HFR.out]
  clear hk m0 m1
  rcases sub_cases C with ⟨s1, s2, hso⟩ | ⟨s1, s2, hso⟩ | ⟨s1, hso⟩
  all_goals (
   clear hso
   by_cases hl : C.body.length ≤ 64
   rotate_left
   ·skip
    have g0 : decide (C.body.length ≤ 64) = false := decide_eq_false hl
    have g1 : decide ((C.body.length : Int) ≤ (64 : Int)) = false := decide_eq_false (by omega)
    have HQ : Hid (mightM M C = []) := by show _ = _; rw [HP.out, if_neg (fun h => hl (by have := of_decide_eq_false h.1; omega))]
    clear hl
    as_aux_lemma =>
     go_wp2_with fail
     go_ret
     refine ⟨⟨_, rfl, ?_⟩, HT.out⟩
     rw [HQ.out]
     exact (OwR.nil _ _).slm
   have g0 : decide (C.body.length ≤ 64) = true := decide_eq_true hl
   have g1 : decide ((C.body.length : Int) ≤ (64 : Int)) = true := decide_eq_true (by omega)
   have hlc : longC C = false := decide_eq_false (by omega)
   cases lh with
   | false =>
    have HQ : Hid (mightM M C = [] ++ [withM (ownM M) C]) := by show _ = _; rw [HP.out, if_pos ⟨hlc, rfl⟩]; rfl
    clear hl hlc
    go_wp2_with fail
    refine PF.b (by kernel_rfl) (fun _ _ _ _ _ h => h) ?_
    have HT := Lib.hid HT.out.drew
    have HB1 := Lib.hid HB1.out.drew
    have HB2 := Lib.hid HB2.out.drew
    have HU : Hid (Below w3.drew.heap.size w3.drew w3.drew) := Below.refl _ _
    refine PF.t 0 (by kernel_rfl) rfl (by intro u; go_simp; try rfl) ?_
    try simp only [pz]
    refine PF.u 1 ((fun u => Blk u w.heap.size 45 (mdL M (.slice A E.length c) vc0).toArray)) (by kernel_rfl) rfl (HB1.out) (fun u hu => exec_load_blk rfl rfl hu Tryz.underlying45 rfl (info_model rfl)) ?_
    try simp only [pz]
    refine PF.u 3 ((fun u => Blk u (w.heap.size + 1) 25 (calL C (.slice Db C.body.length cb)).toArray)) (by kernel_rfl) rfl (HB2.out) (fun u hu => exec_load_blk rfl rfl hu Tryz.underlying25 rfl (info_call rfl)) ?_
    try simp only [pz]
    refine PF.e 2 (by kernel_rfl) rfl fun K hK => ?_
    go_simp
    refine (rown_any (HM0.out.below HT.out) (Nat.le_trans HHH.out.1 (by decide)) HHH.out.2.1).mono ?_
    rintro e w4 ⟨⟨v4, rfl, vl, g, rfl, hsl, hbg, hg3, hgB⟩, hb⟩
    have hov := hsl.one
    have HN := Lib.hid ((ROwn.mdf hsl hbg hg3 hgB).weak (K' := fun b => w.heap.size ≤ b) fun b _ h => Nat.le_trans HT.out.size h)
    clear hsl hbg hg3 hgB
    have HU := Tt HU hb
    have HT := Tt HT hb
    have HB1 := Bb HB1 hb
    have HB2 := Bb HB2 hb
    clear hb
    refine hK (by repeat (first | exact PF.n | refine PF.l ?_ | refine PF.o (by decide +kernel) ?_ | refine PF.y (by first | with_reducible exact HB1.out | with_reducible exact HB2.out | exact HU.out.block _ HL2.out | exact HU.out.block _ (Nat.lt_of_succ_lt HL2.out)) ?_)) ?_
    clear hK K
    try simp only [pz]
    refine PF.e 4 (by kernel_rfl) rfl fun K hK => ?_
    go_simp
    refine (rput_any (M := ownM M) HN.out (HV.out.below HT.out) (Nat.le_trans HHH.out.1 (by decide)) HHH.out.2.2).mono ?_
    rintro e w5 ⟨⟨vl', rfl, hsl'⟩, hb⟩
    have hov' := hsl'.one
    have HNX : Hid (MdF (fun b => w.heap.size ≤ b) w5 vl' (.slice (some ⟨g, 0, none⟩) 3 3) (withM (ownM M) C)) := ⟨hsl'.weak fun b _ h => h.elim id fun h => Nat.le_trans HT.out.size h, (HN.out.below hb).2⟩
    clear hsl'
    have HU := Tt HU hb
    have HT := Tt HT hb
    have HB1 := Bb HB1 hb
    have HB2 := Bb HB2 hb
    clear hb
    refine hK (by repeat (first | exact PF.n | refine PF.l ?_ | refine PF.o (by decide +kernel) ?_ | refine PF.y (by first | with_reducible exact HB1.out | with_reducible exact HB2.out | exact HU.out.block _ HL2.out | exact HU.out.block _ (Nat.lt_of_succ_lt HL2.out)) ?_)) ?_
    clear hK K
    try simp only [pz]
    refine PF.e 5 (by kernel_rfl) rfl fun K hK => ?_
    refine wp_mkM1 (M := withM (ownM M) C) (vl := vl') (vc := .slice (some ⟨g, 0, none⟩) 3 3) rfl rfl ?_
    intro g6 w6 hr hb
    have HR := Lib.hid hr
    have HNX := Lib.hid (HNX.out.below hb)
    have HU := Tt HU hb
    have HT := Tt HT hb
    have HB1 := Bb HB1 hb
    have HB2 := Bb HB2 hb
    clear hr hb
    refine hK (by repeat (first | exact PF.n | refine PF.l ?_ | refine PF.o (by decide +kernel) ?_ | refine PF.y (by first | with_reducible exact HB1.out | with_reducible exact HB2.out | exact HU.out.block _ HL2.out | exact HU.out.block _ (Nat.lt_of_succ_lt HL2.out)) ?_)) ?_
    clear hK K
    try simp only [pz]
    refine PF.e 6 (by kernel_rfl) rfl fun K hK => ?_
    refine wp_appM rfl (OwR.nil w.heap.size _) rfl HR.out rfl (HNX.out.weak fun b _ h => ⟨h, fun e => by cases e⟩) (by decide) HT.out.size ?_
    intro v7 w7 ho hg
    have HO := Lib.hid ho
    have hbl := below_nil hg
    clear ho hg
    have HU := Tt HU hbl
    have HT := Tt HT hbl
    have HB1 := Bb HB1 hbl
    have HB2 := Bb HB2 hbl
    clear hbl
    refine hK (by repeat (first | exact PF.n | refine PF.l ?_ | refine PF.o (by decide +kernel) ?_ | refine PF.y (by first | with_reducible exact HB1.out | with_reducible exact HB2.out | exact HU.out.block _ HL2.out | exact HU.out.block _ (Nat.lt_of_succ_lt HL2.out)) ?_)) ?_
    clear hK K
    try simp only [pz]
    refine PF.t 7 (by kernel_rfl) rfl (by intro u; go_simp; try rfl) ?_
    try simp only [pz]
    refine PF.d (by kernel_rfl) ?_
    go_wp2_with fail
    go_ret
    refine ⟨⟨_, rfl, ?_⟩, HT.out⟩
    rw [HQ.out]
    exact HO.out.slm
   | true =>
    by_cases hs : sq < C.seq
    ·skip
     have s0 : decide (sq < C.seq) = true := decide_eq_true hs
     have s9 : decide ((sq : Int) < (C.seq : Int)) = true := decide_eq_true (by omega)
     have HQ : Hid (mightM M C = [] ++ [withM (ownM M) C]) := by show _ = _; rw [HP.out, if_pos ⟨hlc, by rw [s0]; rfl⟩]; rfl
     clear hl hlc hs
     go_wp2_with fail
     refine PF.b (by kernel_rfl) (fun _ _ _ _ _ h => h) ?_
     have HT := Lib.hid HT.out.drew
     have HB1 := Lib.hid HB1.out.drew
     have HB2 := Lib.hid HB2.out.drew
     have HU : Hid (Below w3.drew.heap.size w3.drew w3.drew) := Below.refl _ _
     refine PF.t 0 (by kernel_rfl) rfl (by intro u; go_simp; try rfl) ?_
     try simp only [pz]
     refine PF.u 1 ((fun u => Blk u w.heap.size 45 (mdL M (.slice A E.length c) vc0).toArray)) (by kernel_rfl) rfl (HB1.out) (fun u hu => exec_load_blk rfl rfl hu Tryz.underlying45 rfl (info_model rfl)) ?_
     try simp only [pz]
     refine PF.u 3 ((fun u => Blk u (w.heap.size + 1) 25 (calL C (.slice Db C.body.length cb)).toArray)) (by kernel_rfl) rfl (HB2.out) (fun u hu => exec_load_blk rfl rfl hu Tryz.underlying25 rfl (info_call rfl)) ?_
     try simp only [pz]
     refine PF.e 2 (by kernel_rfl) rfl fun K hK => ?_
     go_simp
     refine (rown_any (HM0.out.below HT.out) (Nat.le_trans HHH.out.1 (by decide)) HHH.out.2.1).mono ?_
     rintro e w4 ⟨⟨v4, rfl, vl, g, rfl, hsl, hbg, hg3, hgB⟩, hb⟩
     have hov := hsl.one
     have HN := Lib.hid ((ROwn.mdf hsl hbg hg3 hgB).weak (K' := fun b => w.heap.size ≤ b) fun b _ h => Nat.le_trans HT.out.size h)
     clear hsl hbg hg3 hgB
     have HU := Tt HU hb
     have HT := Tt HT hb
     have HB1 := Bb HB1 hb
     have HB2 := Bb HB2 hb
     clear hb
     refine hK (by repeat (first | exact PF.n | refine PF.l ?_ | refine PF.o (by decide +kernel) ?_ | refine PF.y (by first | with_reducible exact HB1.out | with_reducible exact HB2.out | exact HU.out.block _ HL2.out | exact HU.out.block _ (Nat.lt_of_succ_lt HL2.out)) ?_)) ?_
     clear hK K
     try simp only [pz]
     refine PF.e 4 (by kernel_rfl) rfl fun K hK => ?_
     go_simp
     refine (rput_any (M := ownM M) HN.out (HV.out.below HT.out) (Nat.le_trans HHH.out.1 (by decide)) HHH.out.2.2).mono ?_
     rintro e w5 ⟨⟨vl', rfl, hsl'⟩, hb⟩
     have hov' := hsl'.one
     have HNX : Hid (MdF (fun b => w.heap.size ≤ b) w5 vl' (.slice (some ⟨g, 0, none⟩) 3 3) (withM (ownM M) C)) := ⟨hsl'.weak fun b _ h => h.elim id fun h => Nat.le_trans HT.out.size h, (HN.out.below hb).2⟩
     clear hsl'
     have HU := Tt HU hb
     have HT := Tt HT hb
     have HB1 := Bb HB1 hb
     have HB2 := Bb HB2 hb
     clear hb
     refine hK (by repeat (first | exact PF.n | refine PF.l ?_ | refine PF.o (by decide +kernel) ?_ | refine PF.y (by first | with_reducible exact HB1.out | with_reducible exact HB2.out | exact HU.out.block _ HL2.out | exact HU.out.block _ (Nat.lt_of_succ_lt HL2.out)) ?_)) ?_
     clear hK K
     try simp only [pz]
     refine PF.e 5 (by kernel_rfl) rfl fun K hK => ?_
     refine wp_mkM1 (M := withM (ownM M) C) (vl := vl') (vc := .slice (some ⟨g, 0, none⟩) 3 3) rfl rfl ?_
     intro g6 w6 hr hb
     have HR := Lib.hid hr
     have HNX := Lib.hid (HNX.out.below hb)
     have HU := Tt HU hb
     have HT := Tt HT hb
     have HB1 := Bb HB1 hb
     have HB2 := Bb HB2 hb
     clear hr hb
     refine hK (by repeat (first | exact PF.n | refine PF.l ?_ | refine PF.o (by decide +kernel) ?_ | refine PF.y (by first | with_reducible exact HB1.out | with_reducible exact HB2.out | exact HU.out.block _ HL2.out | exact HU.out.block _ (Nat.lt_of_succ_lt HL2.out)) ?_)) ?_
     clear hK K
     try simp only [pz]
     refine PF.e 6 (by kernel_rfl) rfl fun K hK => ?_
     refine wp_appM rfl (OwR.nil w.heap.size _) rfl HR.out rfl (HNX.out.weak fun b _ h => ⟨h, fun e => by cases e⟩) (by decide) HT.out.size ?_
     intro v7 w7 ho hg
     have HO := Lib.hid ho
     have hbl := below_nil hg
     clear ho hg
     have HU := Tt HU hbl
     have HT := Tt HT hbl
     have HB1 := Bb HB1 hbl
     have HB2 := Bb HB2 hbl
     clear hbl
     refine hK (by repeat (first | exact PF.n | refine PF.l ?_ | refine PF.o (by decide +kernel) ?_ | refine PF.y (by first | with_reducible exact HB1.out | with_reducible exact HB2.out | exact HU.out.block _ HL2.out | exact HU.out.block _ (Nat.lt_of_succ_lt HL2.out)) ?_)) ?_
     clear hK K
     try simp only [pz]
     refine PF.t 7 (by kernel_rfl) rfl (by intro u; go_simp; try rfl) ?_
     try simp only [pz]
     refine PF.d (by kernel_rfl) ?_
     go_wp2_with fail
     go_ret
     refine ⟨⟨_, rfl, ?_⟩, HT.out⟩
     rw [HQ.out]
     exact HO.out.slm
    ·skip
     have s0 : decide (sq < C.seq) = false := decide_eq_false hs
     have s9 : decide ((sq : Int) < (C.seq : Int)) = false := decide_eq_false (by omega)
     have HQ : Hid (mightM M C = []) := by show _ = _; rw [HP.out, if_neg (fun h => by rw [s0] at h; cases h.2)]
     clear hl hlc hs
     as_aux_lemma =>
      go_wp2_with fail
      go_ret
      refine ⟨⟨_, rfl, ?_⟩, HT.out⟩
      rw [HQ.out]
      exact (OwR.nil _ _).slm
   )
 ·skip
  have p1 : (C.kind == 1) = false := beq_eq_false_iff_ne.2 (by omega)
  have p3 : (C.kind == 3) = true := beq_iff_eq.2 hk
  have p4 : (C.kind == 4) = false := beq_eq_false_iff_ne.2 (by omega)
  have p5 : (C.kind == 5) = false := beq_eq_false_iff_ne.2 (by omega)
  have HP : Hid (mightM M C = (List.range (min C.at_ E.length - M.trim)).map fun i => { ownM M with trim := M.trim + i + 1 }) := by show _ = _; rw [HD.out]; unfold mightO; rw [if_neg (by omega), if_pos hk, show (ownM M).log.length = E.length from HLE.out]; rfl
  clear hk m1
  have HEL : Hid (E.length ≤ 90000) := by show _ ≤ _; rw [← HLE.out]; exact HHH.out.1
  rcases sub_cases C with ⟨s1, s2, hso⟩ | ⟨s1, s2, hso⟩ | ⟨s1, hso⟩
  all_goals (
   clear hso
   go_wp2_with fail
   clear k3 k5 k6 k7 k8 m0 s1
   go_loopw [5, 10] (fun ov tv wr => ∃ n : Nat, 1 ≤ n ∧ n ≤ E.length + 1 ∧ tv = .int .u64 (n : Int) ∧ Below w3.heap.size w3 wr ∧ OwR w3.heap.size wr ov ((List.range (min (n - 1) C.at_ - M.trim)).map fun i => { ownM M with trim := M.trim + i + 1 })) (fun _ i _ => E.length + 1 - (intOf i).toNat)
   case atStart => exact ⟨1, Nat.le_refl _, by omega, rfl, Below.refl _ _, by rw [show min (1 - 1) C.at_ - M.trim = 0 by omega]; exact OwR.nil _ _⟩
   case round =>
    obtain ⟨n, hn1, hn2, rfl, hb, hos⟩ := hrel
    have HB1r := Bb HB1 hb
    have HB2r := Bb HB2 hb
    have HTR := Tt HT hb
    have HBR := Lib.hid hb
    have HOS := Lib.hid hos
    have HN1 : Hid (1 ≤ n ∧ n ≤ E.length + 1) := ⟨hn1, hn2⟩
    have k7 := (HB2r.out.cell 7).trans (rfl : _ = some (Value.int .u64 (C.at_ : Int)))
    have m0 := (HB1r.out.cell 0).trans (rfl : _ = some (Value.slice A E.length c))
    have m1 := (HB1r.out.cell 1).trans (rfl : _ = some (Value.int .u64 (M.trim : Int)))
    have hw1 : IntKind.u64.wrap ((n : Int) + 1) = ((n + 1 : Nat) : Int) := by have := HEL.out; rw [IntKind.wrap_u64]; omega
    clear hb hos hn1 hn2
    by_cases hlt : n ≤ E.length
    rotate_left
    ·skip
     have g0 : decide (n ≤ E.length) = false := decide_eq_false hlt
     have g1 : decide ((n : Int) ≤ (E.length : Int)) = false := decide_eq_false (by omega)
     have HNE : Hid (n = E.length + 1) := by have := HN1.out; show _ = _; omega
     clear hlt
     go_wp2_with fail
     go_ret
     refine ⟨⟨_, rfl, ?_⟩, HTR.out⟩
     have h := HOS.out
     rw [HNE.out, Nat.add_sub_cancel, Nat.min_comm] at h
     rw [HP.out]
     exact (h.low HT.out.size).slm
    have g0 : decide (n ≤ E.length) = true := decide_eq_true hlt
    have g1 : decide ((n : Int) ≤ (E.length : Int)) = true := decide_eq_true (by omega)
    have HLT := Lib.hid hlt
    clear hlt
    by_cases ht : M.trim < n
    rotate_left
    ·skip
     have t0 : decide (M.trim < n) = false := decide_eq_false ht
     have t1 : decide ((M.trim : Int) < (n : Int)) = false := decide_eq_false (by omega)
     have HTN := Lib.hid ht
     clear ht
     go_wp2_with fail
     go_roundw
     case rel =>
      have h1 := HN1.out; have h2 := HLT.out; have h3 := HTN.out
      refine ⟨n + 1, by omega, by omega, rfl, HBR.out, ?_⟩
      rw [show min (n + 1 - 1) C.at_ - M.trim = min (n - 1) C.at_ - M.trim by omega]
      exact HOS.out
     case measure => simp [intOf]; have := HN1.out; have := HLT.out; omega
    have t0 : decide (M.trim < n) = true := decide_eq_true ht
    have t1 : decide ((M.trim : Int) < (n : Int)) = true := decide_eq_true (by omega)
    have HTN := Lib.hid ht
    clear ht
    by_cases hu : n ≤ C.at_
    rotate_left
    ·skip
     have u0 : decide (n ≤ C.at_) = false := decide_eq_false hu
     have u1 : decide ((n : Int) ≤ (C.at_ : Int)) = false := decide_eq_false (by omega)
     have HUN := Lib.hid hu
     clear hu
     go_wp2_with fail
     go_roundw
     case rel =>
      have h1 := HN1.out; have h2 := HLT.out; have h3 := HUN.out
      refine ⟨n + 1, by omega, by omega, rfl, HBR.out, ?_⟩
      rw [show min (n + 1 - 1) C.at_ - M.trim = min (n - 1) C.at_ - M.trim by omega]
      exact HOS.out
     case measure => simp [intOf]; have := HN1.out; have := HLT.out; omega
    have u0 : decide (n ≤ C.at_) = true := decide_eq_true hu
    have u1 : decide ((n : Int) ≤ (C.at_ : Int)) = true := decide_eq_true (by omega)
    have HUN := Lib.hid hu
    clear hu
    go_wp2_with (refine wpList_load_blk rfl (ty := 45) rfl (g := w.heap.size) rfl HB1r.out Tryz.underlying45 rfl (info_model rfl) ?_; refine Hid.out ?_)
    refine Lib.hid ?_
    go_wp2_with fail
    refine (rown_any (HM0.out.below HTR.out) (Nat.le_trans HHH.out.1 (by decide)) HHH.out.2.1).mono ?_
    rintro e w4 ⟨⟨v4, rfl, vl, g, rfl, hsl, hbg, hg3, hgB⟩, hb⟩
    have hov := hsl.one
    have HN := Lib.hid (ROwn.mdf hsl hbg hg3 hgB)
    have HB4 := Lib.hid hb
    clear hsl hbg hg3 hgB hb
    go_wp2_with (refine wpList_alloc_blk rfl (ty := 45) rfl zero_model ?_; rintro g8 w8 hgz hB8 hb8; refine Hid.out ?_)
    refine Lib.hid ?_
    have HGZ := Lib.hid hgz
    have HG8 := Lib.hid hB8
    have HB8 := Lib.hid hb8
    clear hgz hB8 hb8
    go_wp2_with (refine wpList_store_blk rfl (ty := 45) rfl (g := g8) (cs := (mdL (ownM M) vl (.slice (some ⟨g, 0, none⟩) 3 3)).toArray) rfl rfl HG8.out rfl (info_model rfl) (mdL_oneJ hov rfl) ?_; rintro w9 hB9 hm9; refine Hid.out ?_)
    refine Lib.hid ?_
    have HG9 := Lib.hid hB9
    have HM9 := Lib.hid hm9
    have e1 := (hB9.cell 1).trans (rfl : _ = some (Value.int .u64 (M.trim : Int)))
    have f1 := hB9.free 1
    have HG10 : Hid (Blk (w9.setCell ⟨g8, 1, none⟩ (.int .u64 (n : Int))) g8 45 (mdL { ownM M with trim := n } vl (.slice (some ⟨g, 0, none⟩) 3 3)).toArray) := hB9.put 1 _
    have hm10 : Mod (fun b => b = g8) w9 (w9.setCell ⟨g8, 1, none⟩ (.int .u64 (n : Int))) := Mod.set (S := fun b => b = g8) (Mod.refl _ _) (p := ⟨g8, 1, none⟩) (fun _ => rfl) _
    have hm8 : Mod (fun b => b = g8) w8 (w9.setCell ⟨g8, 1, none⟩ (.int .u64 (n : Int))) := HM9.out.trans hm10
    have HB10 : Hid (Below wr.heap.size wr (w9.setCell ⟨g8, 1, none⟩ (.int .u64 (n : Int)))) := (HB4.out.trans (HB8.out.mono HB4.out.size)).trans (hm8.to_below (Nat.le_trans HB4.out.size HB8.out.size) fun b hb e => by have := HGZ.out; have := HB4.out.size; omega)
    have HN10 : Hid (MdF (fun b => wr.heap.size ≤ b) (w9.setCell ⟨g8, 1, none⟩ (.int .u64 (n : Int))) vl (.slice (some ⟨g, 0, none⟩) 3 3) { ownM M with trim := n }) := (show MdF (fun b => wr.heap.size ≤ b) w4 vl (.slice (some ⟨g, 0, none⟩) 3 3) { ownM M with trim := n } from HN.out).weak (K' := fun b => wr.heap.size ≤ b ∧ b < w4.heap.size) (fun b hb h => ⟨h, hb⟩) |>.below HB8.out |>.mod hm8 (fun b hb e => by have := HGZ.out; have := hb.2; omega) |>.weak fun b _ h => h.1
    clear hB9 hm9 hm10 hm8 HG8
    go_wp2_with (refine wpList_load_blk rfl (ty := 45) rfl (g := g8) rfl HG10.out Tryz.underlying45 rfl (info_model rfl) ?_; refine wpList_mkM1 (M := { ownM M with trim := n }) (vl := vl) (vc := .slice (some ⟨g, 0, none⟩) 3 3) rfl rfl rfl ?_; intro g11 w11 hr11 hb11; refine wpList_appM rfl rfl (HOS.out.below ((HB10.out.trans (hb11.mono HB10.out.size)))) rfl hr11 rfl ((HN10.out.below hb11).weak fun b _ h => ⟨Nat.le_trans HBR.out.size h, fun e => by have := (HOS.out.lt b e).2; have h : wr.heap.size ≤ b := h; omega⟩) (by rw [List.length_map, List.length_range]; have := HEL.out; have := HLT.out; omega) (Nat.le_trans HBR.out.size (Nat.le_trans HB10.out.size hb11.size)) ?_; intro v12 w12 ho12 hg12; have HB11 := Lib.hid hb11; have HO12 := Lib.hid ho12; have HG12 := Lib.hid hg12; clear hr11 hb11 ho12 hg12; refine Hid.out ?_)
    refine Lib.hid ?_
    go_wp2_with fail
    go_roundw
    case rel =>
     have h1 := HN1.out; have h2 := HLT.out; have h3 := HTN.out; have h4 := HUN.out
     have hb11 : Below wr.heap.size wr w11 := HB10.out.trans (HB11.out.mono HB10.out.size)
     refine ⟨n + 1, by omega, by omega, rfl, (HBR.out.trans (hb11.mono HBR.out.size)).trans ((mod_grownO HG12.out).to_below (Nat.le_trans HBR.out.size hb11.size) fun b hb e => by have := (HOS.out.lt b e).1; omega), ?_⟩
     rw [show min (n + 1 - 1) C.at_ - M.trim = n - M.trim by omega, mrange_more h3, show n - 1 - M.trim = min (n - 1) C.at_ - M.trim by omega]
     exact HO12.out
    case measure => simp [intOf]; have := HN1.out; have := HLT.out; omega
   )
 ·skip
  have p1 : (C.kind == 1) = false := beq_eq_false_iff_ne.2 (by omega)
  have p3 : (C.kind == 3) = false := beq_eq_false_iff_ne.2 (by omega)
  have p4 : (C.kind == 4) = true := beq_iff_eq.2 hk
  have p5 : (C.kind == 5) = false := beq_eq_false_iff_ne.2 (by omega)
  have HP : Hid (mightM M C = if subOk C = true then [setC (ownM M) C (curTo (ownM M) C)] else []) := by show _ = _; rw [HD.out]; unfold mightO; rw [if_neg (by omega), if_neg (by omega), if_pos (by omega)]
  have HCT : Hid (curTo (ownM M) C = max (getC (ownM M) C) C.at_) := by show _ = _; unfold curTo; rw [if_pos hk]
  clear hk m0 m1 k6 k8
  rcases sub_cases C with ⟨s1, s2, hso⟩ | ⟨s1, s2, hso⟩ | ⟨s1, hso⟩
  rotate_left
  ·skip
   have HQ : Hid (mightM M C = []) := by show _ = _; rw [HP.out, if_neg (fun h => by rw [hso] at h; cases h)]
   clear hso
   as_aux_lemma =>
    go_wp2_with fail
    go_ret
    refine ⟨⟨_, rfl, ?_⟩, HT.out⟩
    rw [HQ.out]
    exact (OwR.nil _ _).slm
  ·skip
   have HQ : Hid (mightM M C = []) := by show _ = _; rw [HP.out, if_neg (fun h => by rw [hso] at h; cases h)]
   clear hso
   as_aux_lemma =>
    go_wp2_with fail
    go_ret
    refine ⟨⟨_, rfl, ?_⟩, HT.out⟩
    rw [HQ.out]
    exact (OwR.nil _ _).slm
  have HS1 : Hid (1 ≤ C.sub ∧ C.sub ≤ 3) := (of_decide_eq_true hso : 1 ≤ C.sub ∧ C.sub ≤ 3)
  obtain ⟨q, hq⟩ : ∃ q, q = (C.sub - 1).toNat := ⟨_, rfl⟩
  have HSQ : Hid (C.sub = (q : Int) + 1) := by have := HS1.out; show _ = _; omega
  have HQ3 : Hid (q < 3) := by have := HS1.out; show _ < _; omega
  obtain ⟨x, hx⟩ : ∃ x, x = getC (ownM M) C := ⟨_, rfl⟩
  have HCX : Hid (curS M C.sub = x) := by show _ = _; rw [hx, curS_own3]; exact curS_getC hso
  obtain ⟨y, hy⟩ : ∃ y, y = max x C.at_ := ⟨_, rfl⟩
  have hmx : max (x : Int) (C.at_ : Int) = (y : Int) := by omega
  have hcy : curTo (ownM M) C = y := by rw [HCT.out, ← hx, hy]
  have HQ : Hid (mightM M C = [] ++ [{ ownM M with cur := (own3 M.cur).set q y }]) := by show _ = _; rw [HP.out, if_pos hso, hcy]; unfold setC; rw [← hq]; rfl
  clear hso hcy hx hq hy
  go_wp2_with fail
  refine PF.b (by kernel_rfl) (fun _ _ _ _ _ h => h) ?_
  have HT := Lib.hid HT.out.drew
  have HB1 := Lib.hid HB1.out.drew
  have HB2 := Lib.hid HB2.out.drew
  have HU : Hid (Below w3.drew.heap.size w3.drew w3.drew) := Below.refl _ _
  refine PF.t 0 (by kernel_rfl) rfl (by intro u; go_simp; try rfl) ?_
  try simp only [pz]
  refine PF.u 1 ((fun u => Blk u w.heap.size 45 (mdL M (.slice A E.length c) vc0).toArray)) (by kernel_rfl) rfl (HB1.out) (fun u hu => exec_load_blk rfl rfl hu Tryz.underlying45 rfl (info_model rfl)) ?_
  try simp only [pz]
  refine PF.t 2 (by kernel_rfl) rfl (by intro u; go_simp; try rfl) ?_
  try simp only [pz]
  refine PF.m 3 ((w.heap.size+1)) (by kernel_rfl) rfl (fun hcu => by go_simp; try rfl) ?_
  try simp only [pz]
  refine PF.u 4 ((fun u => Blk u w.heap.size 45 (mdL M (.slice A E.length c) vc0).toArray)) (by kernel_rfl) rfl (HB1.out) (fun u hu => exec_load_blk rfl rfl hu Tryz.underlying45 rfl (info_model rfl)) ?_
  try simp only [pz]
  refine PF.t 5 (by kernel_rfl) rfl (by intro u; go_simp; try rfl) ?_
  try simp only [pz]
  refine PF.m 6 ((w.heap.size+1)) (by kernel_rfl) rfl (fun hcu => by go_simp; try rfl) ?_
  try simp only [pz]
  refine PF.t 8 (by kernel_rfl) rfl (by intro u; go_simp; try rfl) ?_
  try simp only [pz]
  refine PF.m 9 ((w.heap.size+1)) (by kernel_rfl) rfl (fun hcu => by go_simp; try rfl) ?_
  try simp only [pz]
  refine PF.e 7 (by kernel_rfl) rfl fun K hK => ?_
  go_simp
  refine (rcursor_any (M := M) (HM0.out.below HT.out).2 rfl C.sub (by have := HS1.out; omega)).mono ?_
  rintro e w4 ⟨rfl, hb⟩
  rw [HCX.out]
  have HU := Tt HU hb
  have HT := Tt HT hb
  have HB1 := Bb HB1 hb
  have HB2 := Bb HB2 hb
  clear hb
  refine hK (by repeat (first | exact PF.n | refine PF.l ?_ | refine PF.o (by decide +kernel) ?_ | refine PF.y (by first | with_reducible exact HB1.out | with_reducible exact HB2.out | exact HU.out.block _ HL2.out | exact HU.out.block _ (Nat.lt_of_succ_lt HL2.out)) ?_)) ?_
  clear hK K
  try simp only [pz]
  refine PF.t 10 (by kernel_rfl) rfl (by intro u; go_simp; try rfl) ?_
  try simp only [pz]
  refine PF.e 11 (by kernel_rfl) rfl fun K hK => ?_
  go_simp
  rw [HSQ.out]
  refine (rset_any (M := M) (HM0.out.below HT.out) (Nat.le_trans HHH.out.1 (by decide)) HHH.out.2.1 HQ3.out y).mono ?_
  rintro e w5 ⟨⟨v5, rfl, vl', g, rfl, hsl, hbg, hg3, hgB⟩, hb⟩
  have hov' := hsl.one
  have HNX := Lib.hid ((ROwn.mdf hsl hbg hg3 hgB).weak (K' := fun b => w.heap.size ≤ b) fun b _ h => Nat.le_trans HT.out.size h)
  clear hsl hbg hg3 hgB
  have HU := Tt HU hb
  have HT := Tt HT hb
  have HB1 := Bb HB1 hb
  have HB2 := Bb HB2 hb
  clear hb
  refine hK (by repeat (first | exact PF.n | refine PF.l ?_ | refine PF.o (by decide +kernel) ?_ | refine PF.y (by first | with_reducible exact HB1.out | with_reducible exact HB2.out | exact HU.out.block _ HL2.out | exact HU.out.block _ (Nat.lt_of_succ_lt HL2.out)) ?_)) ?_
  clear hK K
  try simp only [pz]
  refine PF.e 12 (by kernel_rfl) rfl fun K hK => ?_
  refine wp_mkM1 (M := { ownM M with cur := (own3 M.cur).set q y }) (vl := vl') (vc := .slice (some ⟨g, 0, none⟩) 3 3) rfl rfl ?_
  intro g6 w6 hr hb
  have HR := Lib.hid hr
  have HNX := Lib.hid (HNX.out.below hb)
  have HU := Tt HU hb
  have HT := Tt HT hb
  have HB1 := Bb HB1 hb
  have HB2 := Bb HB2 hb
  clear hr hb
  refine hK (by repeat (first | exact PF.n | refine PF.l ?_ | refine PF.o (by decide +kernel) ?_ | refine PF.y (by first | with_reducible exact HB1.out | with_reducible exact HB2.out | exact HU.out.block _ HL2.out | exact HU.out.block _ (Nat.lt_of_succ_lt HL2.out)) ?_)) ?_
  clear hK K
  try simp only [pz]
  refine PF.e 13 (by kernel_rfl) rfl fun K hK => ?_
  refine wp_appM rfl (OwR.nil w.heap.size _) rfl HR.out rfl (HNX.out.weak fun b _ h => ⟨h, fun e => by cases e⟩) (by decide) HT.out.size ?_
  intro v7 w7 ho hg
  have HO := Lib.hid ho
  have hbl := below_nil hg
  clear ho hg
  have HU := Tt HU hbl
  have HT := Tt HT hbl
  have HB1 := Bb HB1 hbl
  have HB2 := Bb HB2 hbl
  clear hbl
  refine hK (by repeat (first | exact PF.n | refine PF.l ?_ | refine PF.o (by decide +kernel) ?_ | refine PF.y (by first | with_reducible exact HB1.out | with_reducible exact HB2.out | exact HU.out.block _ HL2.out | exact HU.out.block _ (Nat.lt_of_succ_lt HL2.out)) ?_)) ?_
  clear hK K
  try simp only [pz]
  refine PF.t 14 (by kernel_rfl) rfl (by intro u; go_simp; try rfl) ?_
  try simp only [pz]
  refine PF.d (by kernel_rfl) ?_
  go_wp2_with fail
  go_ret
  refine ⟨⟨_, rfl, ?_⟩, HT.out⟩
  rw [HQ.out]
  exact HO.out.slm
 ·skip
  have p1 : (C.kind == 1) = false := beq_eq_false_iff_ne.2 (by omega)
  have p3 : (C.kind == 3) = false := beq_eq_false_iff_ne.2 (by omega)
  have p4 : (C.kind == 4) = false := beq_eq_false_iff_ne.2 (by omega)
  have p5 : (C.kind == 5) = true := beq_iff_eq.2 hk
  have HP : Hid (mightM M C = if subOk C = true then [setC (ownM M) C (curTo (ownM M) C)] else []) := by show _ = _; rw [HD.out]; unfold mightO; rw [if_neg (by omega), if_neg (by omega), if_pos (by omega)]
  have HCT : Hid (curTo (ownM M) C = C.at_) := by show _ = _; unfold curTo; rw [if_neg (by omega), if_pos hk]
  clear hk m0 m1 k6 k8
  rcases sub_cases C with ⟨s1, s2, hso⟩ | ⟨s1, s2, hso⟩ | ⟨s1, hso⟩
  rotate_left
  ·skip
   have HQ : Hid (mightM M C = []) := by show _ = _; rw [HP.out, if_neg (fun h => by rw [hso] at h; cases h)]
   clear hso
   as_aux_lemma =>
    go_wp2_with fail
    go_ret
    refine ⟨⟨_, rfl, ?_⟩, HT.out⟩
    rw [HQ.out]
    exact (OwR.nil _ _).slm
  ·skip
   have HQ : Hid (mightM M C = []) := by show _ = _; rw [HP.out, if_neg (fun h => by rw [hso] at h; cases h)]
   clear hso
   as_aux_lemma =>
    go_wp2_with fail
    go_ret
    refine ⟨⟨_, rfl, ?_⟩, HT.out⟩
    rw [HQ.out]
    exact (OwR.nil _ _).slm
  have HS1 : Hid (1 ≤ C.sub ∧ C.sub ≤ 3) := (of_decide_eq_true hso : 1 ≤ C.sub ∧ C.sub ≤ 3)
  obtain ⟨q, hq⟩ : ∃ q, q = (C.sub - 1).toNat := ⟨_, rfl⟩
  have HSQ : Hid (C.sub = (q : Int) + 1) := by have := HS1.out; show _ = _; omega
  have HQ3 : Hid (q < 3) := by have := HS1.out; show _ < _; omega
  obtain ⟨x, hx⟩ : ∃ x, x = getC (ownM M) C := ⟨_, rfl⟩
  have HCX : Hid (curS M C.sub = x) := by show _ = _; rw [hx, curS_own3]; exact curS_getC hso
  have hcy : curTo (ownM M) C = C.at_ := by exact HCT.out
  have HQ : Hid (mightM M C = [] ++ [{ ownM M with cur := (own3 M.cur).set q C.at_ }]) := by show _ = _; rw [HP.out, if_pos hso, hcy]; unfold setC; rw [← hq]; rfl
  clear hso hcy hx hq
  have HU : Hid (Below w3.heap.size w3 w3) := Below.refl _ _
  go_wp2_with (refine wpList_load_blk rfl (ty := 45) rfl (g := w.heap.size) rfl HB1.out Tryz.underlying45 rfl (info_model rfl) ?_; refine Hid.out ?_)
  refine Lib.hid ?_
  go_wp2_with fail
  rw [HSQ.out]
  refine (rset_any (M := M) (HM0.out.below HT.out) (Nat.le_trans HHH.out.1 (by decide)) HHH.out.2.1 HQ3.out C.at_).mono ?_
  rintro e w5 ⟨⟨v5, rfl, vl', g, rfl, hsl, hbg, hg3, hgB⟩, hb⟩
  have hov' := hsl.one
  have HNX := Lib.hid ((ROwn.mdf hsl hbg hg3 hgB).weak (K' := fun b => w.heap.size ≤ b) fun b _ h => Nat.le_trans HT.out.size h)
  clear hsl hbg hg3 hgB
  have HU := Tt HU hb
  have HT := Tt HT hb
  have HB1 := Bb HB1 hb
  have HB2 := Bb HB2 hb
  clear hb
  go_wp2_with (refine wpList_mkM1 (M := { ownM M with cur := (own3 M.cur).set q C.at_ }) (vl := vl') (vc := .slice (some ⟨g, 0, none⟩) 3 3) rfl rfl rfl ?_; intro g6 w6 hr hb; have HR := Lib.hid hr; have HNX := Lib.hid (HNX.out.below hb); have HU := Tt HU hb; have HT := Tt HT hb; have HB1 := Bb HB1 hb; have HB2 := Bb HB2 hb; clear hr hb; refine wpList_appM rfl rfl (OwR.nil w.heap.size _) rfl HR.out rfl (HNX.out.weak fun b _ h => ⟨h, fun e => by cases e⟩) (by decide) HT.out.size ?_; intro v7 w7 ho hg; have HO := Lib.hid ho; have hbl := below_nil hg; clear ho hg; have HU := Tt HU hbl; have HT := Tt HT hbl; have HB1 := Bb HB1 hbl; have HB2 := Bb HB2 hbl; clear hbl; refine Hid.out ?_)
  refine Lib.hid ?_
  go_wp2_with fail
  go_ret
  refine ⟨⟨_, rfl, ?_⟩, HT.out⟩
  rw [HQ.out]
  exact HO.out.slm
 ·skip
  have p1 : (C.kind == 1) = false := beq_eq_false_iff_ne.2 n1
  have p3 : (C.kind == 3) = false := beq_eq_false_iff_ne.2 n3
  have p4 : (C.kind == 4) = false := beq_eq_false_iff_ne.2 n4
  have p5 : (C.kind == 5) = false := beq_eq_false_iff_ne.2 n5
  have HQ : Hid (mightM M C = []) := by show _ = _; rw [HD.out]; unfold mightO; rw [if_neg n1, if_neg n3, if_neg (by omega)]
  clear n1 n3 n4 n5
  rcases sub_cases C with ⟨s1, s2, hso⟩ | ⟨s1, s2, hso⟩ | ⟨s1, hso⟩
  ·clear hso
   as_aux_lemma =>
    go_wp2_with fail
    go_ret
    refine ⟨⟨_, rfl, ?_⟩, HT.out⟩
    rw [HQ.out]
    exact (OwR.nil _ _).slm
  ·clear hso
   as_aux_lemma =>
    go_wp2_with fail
    go_ret
    refine ⟨⟨_, rfl, ?_⟩, HT.out⟩
    rw [HQ.out]
    exact (OwR.nil _ _).slm
  ·clear hso
   as_aux_lemma =>
    go_wp2_with fail
    go_ret
    refine ⟨⟨_, rfl, ?_⟩, HT.out⟩
    rw [HQ.out]
    exact (OwR.nil _ _).slm
end Go.Proofs.YtpjmolnkmlpfeaaGreatDoor
