/- What a call that is done to a model is answered: the law's answer, walked. -/
import Derived.Test.YtpjmolnkmlpfeaaGreatDoorJuMa
namespace Go.Proofs.YtpjmolnkmlpfeaaGreatDoor
set_option linter.unusedVariables false
set_option linter.unusedSimpArgs false
set_option maxRecDepth 100000
open Go.RowKit

section
variable {P : Program} {fn : Func} {p q : Tmp} {ty ty2 : TypeId} {w : World} {g g2 : Nat} {t t2 : TypeId} {cs cs2 : Array Value} {d d2 : TypeDesc}
theorem results_cc (h : fn.results = #[.cell p ty, .cell q ty2]) (tmps : Array Value) (hB : Blk w g t cs) (hp : tmps.getD p undef = .pointer (some ⟨g, 0, none⟩)) (hu : P.underlying ty = some d) (hd : (match d with | .struct _ | .array _ _ => true | _ => false) = true) (hi : (P.info? ty).map (·.size) = some cs.size)
    (hB2 : Blk w g2 t2 cs2) (hq : tmps.getD q undef = .pointer (some ⟨g2, 0, none⟩)) (hu2 : P.underlying ty2 = some d2) (hd2 : (match d2 with | .struct _ | .array _ _ => true | _ => false) = true) (hi2 : (P.info? ty2).map (·.size) = some cs2.size) :
    (results fn tmps).run P w = .ok (.tuple #[.agg cs, .agg cs2]) w := by
  obtain ⟨h1, h2⟩ := run_cell hB hu hd hi
  obtain ⟨h3, h4⟩ := run_cell hB2 hu2 hd2 hi2
  rw [Array.getD_eq_getD_getElem?] at hp hq
  simp only [results, h]
  simp [Sem.run_bind, Result.andThen, hp, hq, h1, h2, h3, h4]
end
namespace Answer
/-- A region's end, once for all its forks; a place and two values were made in it. -/
def Norm3 (A : Nat → Value → Value → Act) (S : Nat → Value → Value → World → Prop) (e : Exit) (b : Act) (w' : World) : Prop := match e with | .normal => ∃ g u v, b = A g u v ∧ S g u v w' | _ => False
theorem share3 {P : Program} {c : Code} {Q : Exit → Act → World → Prop} {a : Act} {w : World} {S : Nat → Value → Value → World → Prop} {A : Nat → Value → Value → Act} (walk : c.wp P (Norm3 A S) a w) (rest : ∀ g u v w', S g u v w' → Q .normal (A g u v) w') : c.wp P Q a w :=
  Code.wp_mono (fun e b w' h => by
    cases e with
    | normal => obtain ⟨g, u, v, rfl, hs⟩ := h; exact rest g u v w' hs
    | _ => exact h.elim) walk
end Answer
section
variable {P : Program} {ops : Array Oper} {rest : List Oper} {op : Oper} {a : Act} {w w' : World} {Q : Exit → Act → World → Prop}
theorem wpList_bs6 (hgd : op.guard = none) {ty : TypeId} {p0 p1 p2 p3 p4 p5 : Operand} (ho : op.op = .buildSlice ty 6 #[(0, p0), (1, p1), (2, p2), (3, p3), (4, p4), (5, p5)]) {x v : Value} (h0 : a.eval p0 = x) (h1 : a.eval p1 = x) (h2 : a.eval p2 = x) (h3 : a.eval p3 = x) (h4 : a.eval p4 = x) (h5 : a.eval p5 = x)
    (hb : (Instr.buildSlice ty 6 #[(0, x), (1, x), (2, x), (3, x), (4, x), (5, x)]).run P w = .ok v w') (h : wpList P ops Q rest (a.put op.dst v) w') : wpList P ops Q (op :: rest) a w :=
  wpList_plain hgd fun _ hK => by
    unfold Oper.wp execOp
    simp only [ho, Sem.run_bind, List.map_toArray, List.map_cons, List.map_nil, h0, h1, h2, h3, h4, h5, hb, Result.andThen_ok, Sem.run_pure]
    exact hK _ _ h
end
def rv (R : Rep) : ReV := ⟨R, nilV⟩
def rowB (C : Cal) : List EnV → Nat → List ReV
  | [], _ => []
  | p :: r, a => ⟨entR C p.1 a, p.2⟩ :: rowB C r (a + 1)
theorem rowB_map (C : Cal) : ∀ (E : List EnV) (a : Nat), (rowB C E a).map (·.r) = candB C (E.map (·.1)) a
  | [], _ => rfl
  | p :: E, a => by rw [rowB, List.map_cons, rowB_map C E (a + 1)]; rfl
theorem rowB_len (C : Cal) : ∀ (E : List EnV) (a : Nat), (rowB C E a).length = E.length
  | [], _ => rfl
  | p :: E, a => by rw [rowB, List.length_cons, rowB_len C E (a + 1), List.length_cons]
theorem rowB_snoc (C : Cal) (p : EnV) : ∀ (E : List EnV) (a : Nat), rowB C (E ++ [p]) a = rowB C E a ++ [⟨entR C p.1 (a + E.length), p.2⟩]
  | [], a => rfl
  | x :: E, a => by
    rw [List.cons_append, rowB, rowB, rowB_snoc C p E (a + 1), List.cons_append, List.length_cons, show a + 1 + E.length = a + (E.length + 1) by omega]
theorem rowB_of {C : Cal} : ∀ {E : List EnV} {a : Nat} {x : ReV}, x ∈ rowB C E a → ∃ p ∈ E, ∃ k, x = ⟨entR C p.1 k, p.2⟩
  | p :: E, a, x, h => by
    rcases List.mem_cons.1 h with rfl | h
    · exact ⟨p, by simp, a, rfl⟩
    · obtain ⟨q, hq, k, e⟩ := rowB_of h
      exact ⟨q, by simp [hq], k, e⟩
def rowS (C : Cal) (M : Mdl) (n : Nat) (E : List EnV) (a i j : Nat) : List ReV := (((candA n C a).map rv ++ rowB C E 0) ++ ((candC C M).take i).map rv) ++ (candD C n j).map rv
variable {C : Cal} {M : Mdl} {n : Nat} {E : List EnV}
theorem candD_len : ∀ k, (candD C n k).length = k
  | 0 => rfl
  | k + 1 => by rw [candD, List.length_append, candD_len k]; rfl
theorem rowS_len (a i j : Nat) : (rowS C M n E a i j).length = 6 + E.length + min i 3 + j := by
  unfold rowS
  simp only [List.length_append, List.length_map, List.length_take, rowB_len, candD_len]
  rfl
theorem rowS_b {k : Nat} (hk : k < E.length) : rowS C M n (E.take (k + 1)) 0 0 0 = rowS C M n (E.take k) 0 0 0 ++ [⟨entR C E[k].1 k, E[k].2⟩] := by
  unfold rowS
  rw [List.take_succ_eq_append_getElem hk, rowB_snoc, List.length_take, Nat.min_eq_left (by omega), Nat.zero_add]
  simp [candD]
theorem rowS_a (a : Nat) : (rowS C M n E 0 0 0).set 5 (rv (atR C a)) = rowS C M n E a 0 0 := by
  unfold rowS
  simp only [List.take_zero, List.map_nil, List.append_nil, candD]
  rfl
theorem rowS_c {a i : Nat} (hi : i < 3) : rowS C M n E a (i + 1) 0 = rowS C M n E a i 0 ++ [rv (atR C (M.cur.getD i 0))] := by
  unfold rowS
  match i, hi with
  | 0, _ => simp [candD, candC]
  | 1, _ => simp [candD, candC]
  | 2, _ => simp [candD, candC]
theorem rowS_d {a j : Nat} : rowS C M n E a 3 (j + 1) = rowS C M n E a 3 j ++ [rv (atR C (n - j))] := by
  unfold rowS
  rw [candD, List.map_append, ← List.append_assoc]
  rfl
theorem rowS_map (h : E.map (·.1) = M.log) : (rowS C M E.length E C.at_ 3 (E.length + 1)).map (·.r) = candL M C := by
  have hl : E.length = M.log.length := by rw [← h, List.length_map]
  have hrv : ∀ l : List Rep, (l.map rv).map (·.r) = l := fun l => by
    induction l with
    | nil => rfl
    | cons a l ih => rw [List.map_cons, List.map_cons, ih]; rfl
  unfold rowS candL
  rw [List.map_append, List.map_append, List.map_append, hrv, hrv, hrv, rowB_map, h, hl]
  rfl
theorem rowS_5 : (rowS C M n E 0 0 0)[5]? = some (rv (atR C 0)) := rfl
theorem rowS_sl {K : Nat → Prop} {w : World} (h : ∀ p ∈ E, SlB K w p.2 p.1.body) {a i j : Nat} : ∀ x ∈ rowS C M n E a i j, SlB K w x.v x.r.body := by
  have key : ∀ (l : List Rep), (∀ R ∈ l, R.body = []) → ∀ x ∈ l.map rv, SlB K w x.v x.r.body := fun l hl x hx => by
    obtain ⟨R, hR, rfl⟩ := List.mem_map.1 hx
    show SlB K w nilV R.body
    rw [hl R hR]
    exact SlB.nil _ _
  intro x hx
  rcases List.mem_append.1 hx with hx | hx
  · rcases List.mem_append.1 hx with hx | hx
    · rcases List.mem_append.1 hx with hx | hx
      · refine key _ (fun R hR => ?_) x hx
        simp only [candA, List.mem_cons, List.not_mem_nil, or_false] at hR
        rcases hR with rfl | rfl | rfl | rfl | rfl | rfl <;> rfl
      · obtain ⟨p, hp, k, rfl⟩ := rowB_of hx
        exact h p hp
    · refine key _ (fun R hR => ?_) x hx
      have hR := List.mem_of_mem_take hR
      simp only [candC, List.mem_cons, List.not_mem_nil, or_false] at hR
      rcases hR with rfl | rfl | rfl <;> rfl
  · refine key _ (fun R hR => ?_) x hx
    obtain ⟨j, rfl⟩ := candD_of hR
    rfl
theorem row_some {w : World} {B : Nat} {v : Value} {L : List ReV} (h : OwR B w v L) (h0 : 0 < L.length) : ∃ g c, v = .slice (some ⟨g, 0, none⟩) L.length c ∧ B ≤ g := by
  rcases h.2 with ⟨e, e2⟩ | ⟨g, c, cur, e, hg, _⟩
  · omega
  · exact ⟨g, c, e, hg⟩
theorem curS_of {i : Nat} (hi : i < 3) : curS M ((i : Int) + 1) = M.cur.getD i 0 := by
  unfold curS
  rw [if_pos (by omega), show ((i : Int) + 1 - 1).toNat = i by omega]
theorem build_r0 (C : Cal) (w : World) : (Instr.build 32 #[(0, .int .i64 C.cl), (1, .int .u64 (C.inc : Int)), (2, .int .u64 (C.n : Int))]).run Tryz.prog w = .ok (.agg (repL (r0 C) nilV).toArray) w := by kernel_rfl
theorem bs6 (x : ReV) (w : World) : (Instr.buildSlice 56 6 #[(0, .agg (reL x).toArray), (1, .agg (reL x).toArray), (2, .agg (reL x).toArray), (3, .agg (reL x).toArray), (4, .agg (reL x).toArray), (5, .agg (reL x).toArray)]).run Tryz.prog w = .ok (.slice (some ⟨w.heap.size, 0, none⟩) 6 6) (w.alloc (.cells ([x, x, x, x, x, x].flatMap reL).toArray 32)) := by kernel_rfl
theorem bs1 (x : ReV) (w : World) : (Instr.buildSlice 56 1 #[(0, .agg (reL x).toArray)]).run Tryz.prog w = .ok (.slice (some ⟨w.heap.size, 0, none⟩) 1 1) (w.alloc (.cells ([x].flatMap reL).toArray 32)) := by kernel_rfl
/-- What is answered: a model that may come of it, and the reply. -/
def AnsPost (B : Nat) (K : Nat → Prop) (M : Mdl) (C : Cal) (e : Ending) (w' : World) : Prop := ∃ M2 R u1 u2 vr, e = .returned (.tuple #[.agg (mdL M2 u1 u2).toArray, .agg (repL R vr).toArray]) ∧ doesM M C R = some M2 ∧ CandOk C R ∧ MdF (fun b => B ≤ b) w' u1 u2 M2 ∧ SlB K w' vr R.body
set_option maxRecDepth 100000 in
set_option maxHeartbeats 16000000 in
theorem answer_any {K K1 : Nat → Prop} {w : World} {vl vc v : Value} {M : Mdl} {C : Cal} {N : Nat} (h : MdF K w vl vc M) (hv : SlB K1 w v C.body) (hm : OkN N (ownM M)) (hN : N ≤ 1000) (ht : M.trim ≤ M.log.length) (hc : MayP C) (hnb : C.body.length ≤ 1000000) :
    Calls Tryz.prog 15 #[.agg (mdL M vl vc).toArray, .agg (calL C v).toArray] w fun e w' => AnsPost w.heap.size K M C e w' ∧ Below w.heap.size w w' := by
  have HMF := Lib.hid h
  have HV := Lib.hid hv
  have HM := Lib.hid hm
  have HC := Lib.hid hc
  have HTR := Lib.hid ht
  have hone2 := h.2.one
  obtain ⟨⟨A, c, E, rfl, hE, hr, hall, hc1, hc2, _⟩, _⟩ := id h
  obtain ⟨Db, cb, eb, _⟩ := id hv
  subst eb
  have hl : M.log.length = E.length := by rw [← hE, List.length_map]
  have hen : E.length ≤ 1000 := by rw [← hl]; exact Nat.le_trans hm.log hN
  have HE := Lib.hid hE
  have HR := Lib.hid hr
  have HALL := Lib.hid hall
  have HB0 : Hid (Blk ((w.alloc (.cells (mdL M (.slice A E.length c) vc).toArray 45)).alloc (.cells (calL C (.slice Db C.body.length cb)).toArray 25)) w.heap.size 45 (mdL M (.slice A E.length c) vc).toArray) := (Blk.new _ _ _).alloc _
  have hB1 : Blk ((w.alloc (.cells (mdL M (.slice A E.length c) vc).toArray 45)).alloc (.cells (calL C (.slice Db C.body.length cb)).toArray 25)) (w.heap.size + 1) 25 (calL C (.slice Db C.body.length cb)).toArray := by
    have := Blk.new (w.alloc (.cells (mdL M (.slice A E.length c) vc).toArray 45)) 25 (calL C (.slice Db C.body.length cb)).toArray
    rwa [alloc_size] at this
  have HB1 := Lib.hid hB1
  have HT : Hid (Below w.heap.size w ((w.alloc (.cells (mdL M (.slice A E.length c) vc).toArray 45)).alloc (.cells (calL C (.slice Db C.body.length cb)).toArray 25))) := ((Below.refl _ _).alloc (Nat.le_refl _) _).alloc (by simp) _
  clear h hv hm hc ht hE hr hall hB1 hc1 hc2
  go_enter Tryz.func15, Tryz.ntmps15
  go_wp2_with (refine wpList_alloc_blk rfl rfl zero_model ?_; rintro g4 w2 hg4 hB4 hb4; refine wpList_alloc_blk rfl rfl zero_reply ?_; rintro g5 w3 hg5 hB5 hb5; refine Hid.out ?_)
  refine Lib.hid ?_
  generalize (w.alloc (.cells (mdL M (.slice A E.length c) vc).toArray 45)).alloc (.cells (calL C (.slice Db C.body.length cb)).toArray 25) = w1 at HB0 HB1 HT hg4 hb4
  have hb3 := below_call hb4 hb4.size hb5
  have HB0 := Lib.hid (HB0.out.below hb3 HB0.out.lt)
  have HB1 := Lib.hid (HB1.out.below hb3 HB1.out.lt)
  have HB4 := Lib.hid (hB4.below hb5 hB4.lt)
  have HB5 := Lib.hid hB5
  have HG : Hid (w.heap.size ≤ g4 ∧ g4 < g5) := ⟨by rw [← hg4]; exact HT.out.size, by have h1 := hB4.lt; rw [← hg5]; exact h1⟩
  have HT := Lib.hid (below_call HT.out HT.out.size hb3)
  have HL5 : Hid (g5 < w3.heap.size) := hB5.lt
  clear hb3 hb4 hb5 hB4 hB5 hg4 hg5
  have q0 := (HB1.out.cell 0).trans (rfl : _ = some (Value.int .i64 C.cl))
  have q1 := (HB1.out.cell 1).trans (rfl : _ = some (Value.int .u64 (C.inc : Int)))
  have q2 := (HB1.out.cell 2).trans (rfl : _ = some (Value.int .u64 (C.n : Int)))
  go_wp2_with (refine wpList_build3 rfl (ty := 32) rfl (x := .int .i64 C.cl) (y := .int .u64 (C.inc : Int)) (z := .int .u64 (C.n : Int)) (v := .agg (repL (r0 C) nilV).toArray) rfl rfl rfl (build_r0 C w3) ?_; refine wpList_alloc_blk rfl (ty := 32) rfl zero_reply ?_; rintro g6 w4 hg6 hB6 hb6; refine wpList_store_blk rfl (ty := 32) rfl (g := g6) (cs := (repL (r0 C) nilV).toArray) rfl rfl hB6 rfl (info_reply rfl) (repL_one (R := r0 C) (v := nilV) rfl) ?_; rintro w5 hB7 hm7; refine Hid.out ?_)
  refine Lib.hid ?_
  have hb7 : Below w3.heap.size w3 w5 := hb6.trans (hm7.to_below hb6.size fun b hb e => by omega)
  have HB0 := Lib.hid (HB0.out.below hb7 HB0.out.lt)
  have HB1 := Lib.hid (HB1.out.below hb7 HB1.out.lt)
  have HB4 := Lib.hid (HB4.out.below hb7 HB4.out.lt)
  have HB5 := Lib.hid (HB5.out.below hb7 HB5.out.lt)
  have HB6 := Lib.hid hB7
  have HG : Hid (w.heap.size ≤ g4 ∧ g4 < g5 ∧ g5 < g6) := ⟨HG.out.1, HG.out.2, by rw [← hg6]; exact HL5.out⟩
  have HT5 := Lib.hid (HT.out.trans (hb7.mono HT.out.size))
  have HL6 : Hid (g6 < w5.heap.size) := HB6.out.lt
  clear HT hb6 hb7 hm7 hB6 hB7 hg6 q0 q1 q2
  have m0 := (HB0.out.cell 0).trans (rfl : _ = some (Value.slice A E.length c))
  have hw : IntKind.u64.wrap (E.length : Int) = (E.length : Int) := by rw [IntKind.wrap_u64]; omega
  go_wp2_with (refine wpList_load_blk rfl (ty := 32) rfl (g := g6) rfl HB6.out Tryz.underlying32 rfl (info_reply rfl) ?_; refine wpList_load_blk rfl (ty := 32) rfl (g := g6) rfl HB6.out Tryz.underlying32 rfl (info_reply rfl) ?_; refine wpList_load_blk rfl (ty := 32) rfl (g := g6) rfl HB6.out Tryz.underlying32 rfl (info_reply rfl) ?_; refine wpList_load_blk rfl (ty := 32) rfl (g := g6) rfl HB6.out Tryz.underlying32 rfl (info_reply rfl) ?_; refine wpList_load_blk rfl (ty := 32) rfl (g := g6) rfl HB6.out Tryz.underlying32 rfl (info_reply rfl) ?_; refine wpList_load_blk rfl (ty := 32) rfl (g := g6) rfl HB6.out Tryz.underlying32 rfl (info_reply rfl) ?_; refine Hid.out ?_)
  refine Lib.hid ?_
  refine wpList_bs6 rfl (ty := 56) rfl (x := .agg (reL (rv (r0 C))).toArray) (v := .slice (some ⟨w5.heap.size, 0, none⟩) 6 6) rfl rfl rfl rfl rfl rfl (bs6 (rv (r0 C)) w5) ?_
  have hr6 : OwR w5.heap.size (w5.alloc (.cells ([rv (r0 C), rv (r0 C), rv (r0 C), rv (r0 C), rv (r0 C), rv (r0 C)].flatMap reL).toArray 32)) (.slice (some ⟨w5.heap.size, 0, none⟩) 6 6) [rv (r0 C), rv (r0 C), rv (r0 C), rv (r0 C), rv (r0 C), rv (r0 C)] := owr_new w5 [rv (r0 C), rv (r0 C), rv (r0 C), rv (r0 C), rv (r0 C), rv (r0 C)] (Nat.le_refl _) (by simp)
  have hb6 : Below w5.heap.size w5 (w5.alloc (.cells ([rv (r0 C), rv (r0 C), rv (r0 C), rv (r0 C), rv (r0 C), rv (r0 C)].flatMap reL).toArray 32)) := below_new _ _
  generalize w5.alloc (.cells ([rv (r0 C), rv (r0 C), rv (r0 C), rv (r0 C), rv (r0 C), rv (r0 C)].flatMap reL).toArray 32) = w6 at hr6 hb6 ⊢
  clear m0 hw
  obtain ⟨e1, f1, O1, n1⟩ := row_set hr6 rfl (i := 0) (j := 4) (o := 4) (by simp) (by decide) rfl (.int .u64 (E.length : Int)) (rv (atR C E.length)) rfl
  obtain ⟨e2, f2, O2, n2⟩ := row_set O1 (by simp) (i := 1) (j := 3) (o := 12) (by simp) (by decide) rfl (.int .i64 6) (rv (resR C 6)) rfl
  obtain ⟨e3, f3, O3, n3⟩ := row_set O2 (by simp) (i := 2) (j := 3) (o := 21) (by simp) (by decide) rfl (.int .i64 5) (rv (resR C 5)) rfl
  obtain ⟨e4, f4, O4, n4⟩ := row_set O3 (by simp) (i := 3) (j := 3) (o := 30) (by simp) (by decide) rfl (.int .i64 7) (rv (resR C 7)) rfl
  obtain ⟨e5, f5, O5, n5⟩ := row_set O4 (by simp) (i := 4) (j := 3) (o := 39) (by simp) (by decide) rfl (.int .i64 8) (rv (resR C 8)) rfl
  have e1 := e1.trans (rfl : _ = some (Value.int .u64 0))
  have e2 := e2.trans (rfl : _ = some (Value.int .i64 0))
  have e3 := e3.trans (rfl : _ = some (Value.int .i64 0))
  have e4 := e4.trans (rfl : _ = some (Value.int .i64 0))
  have e5 := e5.trans (rfl : _ = some (Value.int .i64 0))
  have HO := Lib.hid (show OwR w5.heap.size _ _ (rowS C M E.length (E.take 0) 0 0 0) from O5)
  have HW := Lib.hid (hb6.trans (((((n1.trans n2).trans n3).trans n4).trans n5).to_below hb6.size fun b hb e => by omega))
  clear hr6 O1 O2 O3 O4 O5 n1 n2 n3 n4 n5 hb6
  go_wp2_with fail
  clear e1 e2 e3 e4 e5 f1 f2 f3 f4 f5
  generalize ((((w6.setCell ⟨w5.heap.size, 4, none⟩ (.int .u64 (E.length : Int))).setCell ⟨w5.heap.size, 12, none⟩ (.int .i64 6)).setCell ⟨w5.heap.size, 21, none⟩ (.int .i64 5)).setCell ⟨w5.heap.size, 30, none⟩ (.int .i64 7)).setCell ⟨w5.heap.size, 39, none⟩ (.int .i64 8) = w7 at HO HW ⊢
  have HPT : Hid (∀ wr, Below w5.heap.size w5 wr → Below w.heap.size w wr) := fun wr h => HT5.out.trans (h.mono HT5.out.size)
  go_loopw [8, 9] (fun lv av wr => ∃ k : Nat, k ≤ E.length ∧ av = .int .u64 k ∧ Below w5.heap.size w5 wr ∧ OwR w5.heap.size wr lv (rowS C M E.length (E.take k) 0 0 0)) (fun _ a _ => E.length - (intOf a).toNat)
  case atStart => exact ⟨0, by omega, rfl, HW.out, HO.out⟩
  case round =>
    obtain ⟨k, hk, rfl, hb, ho⟩ := hrel
    obtain ⟨wr, rfl⟩ : ∃ wo : World, wo = wr := ⟨_, rfl⟩
    have HK := Lib.hid hb
    have HO := Lib.hid ho
    clear hb ho HW
    by_cases hlt : k < E.length
    · obtain ⟨b, o, rfl, hbl, hrg⟩ := rows_range enL_len (by decide) (HR.out.below (HPT.out _ HK.out)) hlt
      have hp := HALL.out _ (List.getElem_mem hlt)
      have hsn := rowS_b (C := C) (M := M) (n := E.length) hlt
      have hbw : b < w.heap.size := reads_lt HR.out (by omega) rfl
      generalize E[k] = p at hrg hp hsn
      obtain ⟨en, pv⟩ := p
      obtain ⟨Ab, cb2, e2, _⟩ := id hp
      simp only at e2
      subst e2
      have HSN := Lib.hid hsn
      have HRG := Lib.hid hrg
      have HBW := Lib.hid hbw
      have HB6r := Lib.hid (HB6.out.below HK.out HB6.out.lt)
      have hlti : (k : Int) < (E.length : Int) := by omega
      clear hsn hrg hp hbl hbw
      go_wp2_with (refine wpList_load_blk rfl (ty := 32) rfl (g := g6) rfl HB6r.out Tryz.underlying32 rfl (info_reply rfl) ?_; refine wpList_alloc_blk rfl (ty := 32) rfl zero_reply ?_; rintro g10 w8 hg10 hB10 hb10; refine Hid.out ?_)
      refine Lib.hid ?_
      refine wpList_store_blk rfl (ty := 32) rfl (g := g10) (cs := (repL (r0 C) nilV).toArray) rfl rfl hB10 rfl (info_reply rfl) (repL_one (R := r0 C) (v := nilV) rfl) ?_
      rintro w9 hB11 hm11
      have hb9 : Below wr.heap.size wr w9 := hb10.trans (hm11.to_below hb10.size fun b hb e => by omega)
      have HK9 := Lib.hid (HK.out.trans (hb9.mono HK.out.size))
      have HO9 := Lib.hid (own_call HO.out hb9)
      have hrg := rg_below HRG.out hb9
      have m0 := ((HB0.out.below HK9.out HB0.out.lt).cell 0).trans (rfl : _ = some (Value.slice (some ⟨b, o, none⟩) E.length c))
      have x0 : w9.cell? ⟨b, o + k * 3, none⟩ = some (.int .i64 en.prod) := hrg 0 _ rfl
      have x1 : w9.cell? ⟨b, o + k * 3 + 1, none⟩ = some (.int .u64 (en.seq : Int)) := hrg 1 _ rfl
      have x2 : w9.cell? ⟨b, o + k * 3 + 2, none⟩ = some (.slice Ab en.body.length cb2) := hrg 2 _ rfl
      have HGW : Hid (w5.heap.size ≤ g10 ∧ w.heap.size < g10 ∧ b < g10) := by
        have h1 := HK.out.size
        have h2 := HB0.out.lt
        have h3 := HBW.out
        have h4 : wr.heap.size = g10 := hg10
        show _ ∧ _ ∧ _
        omega
      have HN1 : Hid (w.heap.size ≠ g10) := by have := HGW.out.2.1; show _ ≠ _; omega
      have HN2 : Hid (b ≠ g10) := by have := HGW.out.2.2; show _ ≠ _; omega
      have HGN : Hid (wr.heap.size = g10) := hg10
      have y4 := (hB11.cell 4).trans (rfl : _ = some (Value.int .u64 0))
      have z4 := hB11.free 4
      have H10 := Lib.hid hB11
      clear hb10 hm11 hb9 hB10 hB11 hrg hg10 HB6r HRG
      go_wp2_with fail
      refine PF.pf_begin (by kernel_rfl) ?_
      refine PF.pf_take0 0 (by kernel_rfl) rfl (fun _ _ _ _ _ h => h) (by kernel_rfl) (fun u => by go_simp; try rfl) ?_
      try simp only [Act.put, pz0, pz1, pz2]
      refine PF.pf_take0 1 (by kernel_rfl) rfl (fun _ _ _ _ _ h => h) (by kernel_rfl) (fun u => by go_simp; try rfl) ?_
      try simp only [Act.put, pz0, pz1, pz2]
      refine PF.pf_take1 2 (PF.Same (w.heap.size) _) (by kernel_rfl) rfl (fun _ _ _ _ _ h => h) (by kernel_rfl) (PF.Same.refl _ _) (fun u hu => by have hcu := hu.cell; go_simp; try rfl) ?_
      try simp only [Act.put, pz0, pz1, pz2]
      refine PF.pf_take0 3 (by kernel_rfl) rfl (fun _ _ _ _ _ h => h) (by kernel_rfl) (fun u => by go_simp; try rfl) ?_
      try simp only [Act.put, pz0, pz1, pz2]
      refine PF.pf_take0 4 (by kernel_rfl) rfl (fun _ _ _ _ _ h => h) (by kernel_rfl) (fun u => by go_simp; try rfl) ?_
      try simp only [Act.put, pz0, pz1, pz2]
      refine PF.pf_take0 5 (by kernel_rfl) rfl (fun _ _ _ _ _ h => h) (by kernel_rfl) (fun u => by go_simp; try rfl) ?_
      try simp only [Act.put, pz0, pz1, pz2]
      refine PF.pf_take1 6 (PF.Same (b) _) (by kernel_rfl) rfl (fun _ _ _ _ _ h => h) (by kernel_rfl) (PF.Same.refl _ _) (fun u hu => by have hcu := hu.cell; go_simp; try rfl) ?_
      try simp only [Act.put, pz0, pz1, pz2]
      refine PF.pf_take0 7 (by kernel_rfl) rfl (fun _ _ _ _ _ h => h) (by kernel_rfl) (fun u => by go_simp; try rfl) ?_
      try simp only [Act.put, pz0, pz1, pz2]
      refine PF.pf_take1 8 (PF.Same (w.heap.size) _) (by kernel_rfl) rfl (fun _ _ _ _ _ h => h) (by kernel_rfl) (PF.Same.refl _ _) (fun u hu => by have hcu := hu.cell; go_simp; try rfl) ?_
      try simp only [Act.put, pz0, pz1, pz2]
      refine PF.pf_take0 9 (by kernel_rfl) rfl (fun _ _ _ _ _ h => h) (by kernel_rfl) (fun u => by go_simp; try rfl) ?_
      try simp only [Act.put, pz0, pz1, pz2]
      refine PF.pf_take0 10 (by kernel_rfl) rfl (fun _ _ _ _ _ h => h) (by kernel_rfl) (fun u => by go_simp; try rfl) ?_
      try simp only [Act.put, pz0, pz1, pz2]
      refine PF.pf_take0 11 (by kernel_rfl) rfl (fun _ _ _ _ _ h => h) (by kernel_rfl) (fun u => by go_simp; try rfl) ?_
      try simp only [Act.put, pz0, pz1, pz2]
      refine PF.pf_take1 12 (PF.Same (b) _) (by kernel_rfl) rfl (fun _ _ _ _ _ h => h) (by kernel_rfl) (PF.Same.refl _ _) (fun u hu => by have hcu := hu.cell; go_simp; try rfl) ?_
      try simp only [Act.put, pz0, pz1, pz2]
      refine PF.pf_take0 13 (by kernel_rfl) rfl (fun _ _ _ _ _ h => h) (by kernel_rfl) (fun u => by go_simp; try rfl) ?_
      try simp only [Act.put, pz0, pz1, pz2]
      refine PF.pf_take1 14 (PF.Same (w.heap.size) _) (by kernel_rfl) rfl (fun _ _ _ _ _ h => h) (by kernel_rfl) (PF.Same.refl _ _) (fun u hu => by have hcu := hu.cell; go_simp; try rfl) ?_
      try simp only [Act.put, pz0, pz1, pz2]
      refine PF.pf_take0 15 (by kernel_rfl) rfl (fun _ _ _ _ _ h => h) (by kernel_rfl) (fun u => by go_simp; try rfl) ?_
      try simp only [Act.put, pz0, pz1, pz2]
      refine PF.pf_take0 16 (by kernel_rfl) rfl (fun _ _ _ _ _ h => h) (by kernel_rfl) (fun u => by go_simp; try rfl) ?_
      try simp only [Act.put, pz0, pz1, pz2]
      refine PF.pf_take0 17 (by kernel_rfl) rfl (fun _ _ _ _ _ h => h) (by kernel_rfl) (fun u => by go_simp; try rfl) ?_
      try simp only [Act.put, pz0, pz1, pz2]
      refine PF.pf_take1 18 (PF.Same (b) _) (by kernel_rfl) rfl (fun _ _ _ _ _ h => h) (by kernel_rfl) (PF.Same.refl _ _) (fun u hu => by have hcu := hu.cell; go_simp; try rfl) ?_
      try simp only [Act.put, pz0, pz1, pz2]
      refine PF.pf_take0 19 (by kernel_rfl) rfl (fun _ _ _ _ _ h => h) (by kernel_rfl) (fun u => by go_simp; try rfl) ?_
      try simp only [Act.put, pz0, pz1, pz2]
      refine PF.pf_exec 20 (by kernel_rfl) rfl (by kernel_rfl) (fun K hK => ?_)
      go_simp
      have H10 := Lib.hid (H10.out.put 4 (.int .u64 (k : Int)))
      have y6 := (H10.out.cell 6).trans (rfl : _ = some (Value.int .i64 0))
      have z6 := H10.out.free 6
      refine hK _ _ (by repeat (first | exact PF.owes_nil | refine PF.owes_left ?_ | refine PF.owes_no (by decide +kernel) ?_ | refine PF.owes_yes (by first | exact Below.heap_setCell _ _ _ _ HN1.out | exact (Below.heap_setCell _ _ _ _ HN1.out).trans (Below.heap_setCell _ _ _ _ HN1.out) | exact ((Below.heap_setCell _ _ _ _ HN1.out).trans (Below.heap_setCell _ _ _ _ HN1.out)).trans (Below.heap_setCell _ _ _ _ HN1.out) | exact Below.heap_setCell _ _ _ _ HN2.out | exact (Below.heap_setCell _ _ _ _ HN2.out).trans (Below.heap_setCell _ _ _ _ HN2.out) | exact ((Below.heap_setCell _ _ _ _ HN2.out).trans (Below.heap_setCell _ _ _ _ HN2.out)).trans (Below.heap_setCell _ _ _ _ HN2.out)) ?_)) ?_
      clear hK K
      try simp only [Act.put, pz0, pz1, pz2]
      refine PF.pf_take0 21 (by kernel_rfl) rfl (fun _ _ _ _ _ h => h) (by kernel_rfl) (fun u => by go_simp; try rfl) ?_
      try simp only [Act.put, pz0, pz1, pz2]
      refine PF.pf_exec 22 (by kernel_rfl) rfl (by kernel_rfl) (fun K hK => ?_)
      go_simp
      have H10 := Lib.hid (H10.out.put 6 (.int .i64 en.prod))
      have y7 := (H10.out.cell 7).trans (rfl : _ = some (Value.int .u64 0))
      have z7 := H10.out.free 7
      refine hK _ _ (by repeat (first | exact PF.owes_nil | refine PF.owes_left ?_ | refine PF.owes_no (by decide +kernel) ?_ | refine PF.owes_yes (by first | exact Below.heap_setCell _ _ _ _ HN1.out | exact (Below.heap_setCell _ _ _ _ HN1.out).trans (Below.heap_setCell _ _ _ _ HN1.out) | exact ((Below.heap_setCell _ _ _ _ HN1.out).trans (Below.heap_setCell _ _ _ _ HN1.out)).trans (Below.heap_setCell _ _ _ _ HN1.out) | exact Below.heap_setCell _ _ _ _ HN2.out | exact (Below.heap_setCell _ _ _ _ HN2.out).trans (Below.heap_setCell _ _ _ _ HN2.out) | exact ((Below.heap_setCell _ _ _ _ HN2.out).trans (Below.heap_setCell _ _ _ _ HN2.out)).trans (Below.heap_setCell _ _ _ _ HN2.out)) ?_)) ?_
      clear hK K
      try simp only [Act.put, pz0, pz1, pz2]
      refine PF.pf_take0 23 (by kernel_rfl) rfl (fun _ _ _ _ _ h => h) (by kernel_rfl) (fun u => by go_simp; try rfl) ?_
      try simp only [Act.put, pz0, pz1, pz2]
      refine PF.pf_exec 24 (by kernel_rfl) rfl (by kernel_rfl) (fun K hK => ?_)
      go_simp
      have H10 := Lib.hid (H10.out.put 7 (.int .u64 (en.seq : Int)))
      have y8 := (H10.out.cell 8).trans (rfl : _ = some (Value.slice none 0 0))
      have z8 := H10.out.free 8
      refine hK _ _ (by repeat (first | exact PF.owes_nil | refine PF.owes_left ?_ | refine PF.owes_no (by decide +kernel) ?_ | refine PF.owes_yes (by first | exact Below.heap_setCell _ _ _ _ HN1.out | exact (Below.heap_setCell _ _ _ _ HN1.out).trans (Below.heap_setCell _ _ _ _ HN1.out) | exact ((Below.heap_setCell _ _ _ _ HN1.out).trans (Below.heap_setCell _ _ _ _ HN1.out)).trans (Below.heap_setCell _ _ _ _ HN1.out) | exact Below.heap_setCell _ _ _ _ HN2.out | exact (Below.heap_setCell _ _ _ _ HN2.out).trans (Below.heap_setCell _ _ _ _ HN2.out) | exact ((Below.heap_setCell _ _ _ _ HN2.out).trans (Below.heap_setCell _ _ _ _ HN2.out)).trans (Below.heap_setCell _ _ _ _ HN2.out)) ?_)) ?_
      clear hK K
      try simp only [Act.put, pz0, pz1, pz2]
      refine PF.pf_take0 25 (by kernel_rfl) rfl (fun _ _ _ _ _ h => h) (by kernel_rfl) (fun u => by go_simp; try rfl) ?_
      try simp only [Act.put, pz0, pz1, pz2]
      refine PF.pf_exec 26 (by kernel_rfl) rfl (by kernel_rfl) (fun K hK => ?_)
      go_simp
      have H10 := Lib.hid (H10.out.put 8 (.slice Ab en.body.length cb2))
      refine hK _ _ (by repeat (first | exact PF.owes_nil | refine PF.owes_left ?_ | refine PF.owes_no (by decide +kernel) ?_ | refine PF.owes_yes (by first | exact Below.heap_setCell _ _ _ _ HN1.out | exact (Below.heap_setCell _ _ _ _ HN1.out).trans (Below.heap_setCell _ _ _ _ HN1.out) | exact ((Below.heap_setCell _ _ _ _ HN1.out).trans (Below.heap_setCell _ _ _ _ HN1.out)).trans (Below.heap_setCell _ _ _ _ HN1.out) | exact Below.heap_setCell _ _ _ _ HN2.out | exact (Below.heap_setCell _ _ _ _ HN2.out).trans (Below.heap_setCell _ _ _ _ HN2.out) | exact ((Below.heap_setCell _ _ _ _ HN2.out).trans (Below.heap_setCell _ _ _ _ HN2.out)).trans (Below.heap_setCell _ _ _ _ HN2.out)) ?_)) ?_
      clear hK K
      try simp only [Act.put, pz0, pz1, pz2]
      refine PF.pf_done (by kernel_rfl) ?_
      clear m0 x0 x1 x2 y4 z4
      have H10 : Hid (Blk (((((w9.setCell ⟨g10, 4, none⟩ (.int .u64 (k : Int))).setCell ⟨g10, 6, none⟩ (.int .i64 en.prod)).setCell ⟨g10, 7, none⟩ (.int .u64 (en.seq : Int))).setCell ⟨g10, 8, none⟩ (.slice Ab en.body.length cb2)).drew) g10 32 (reL ⟨entR C en k, .slice Ab en.body.length cb2⟩).toArray) := H10.out.drew
      have hm : Mod (fun b => b = g10) w9 (((((w9.setCell ⟨g10, 4, none⟩ (.int .u64 (k : Int))).setCell ⟨g10, 6, none⟩ (.int .i64 en.prod)).setCell ⟨g10, 7, none⟩ (.int .u64 (en.seq : Int))).setCell ⟨g10, 8, none⟩ (.slice Ab en.body.length cb2)).drew) := (Mod.set (S := fun b => b = g10) (Mod.set (S := fun b => b = g10) (Mod.set (S := fun b => b = g10) (Mod.set (S := fun b => b = g10) (Mod.refl _ w9) (p := ⟨g10, 4, none⟩) (fun _ => rfl) _) (p := ⟨g10, 6, none⟩) (fun _ => rfl) _) (p := ⟨g10, 7, none⟩) (fun _ => rfl) _) (p := ⟨g10, 8, none⟩) (fun _ => rfl) _).drew
      have HO10 := Lib.hid (own_mod HO9.out hm fun b hb e => by have h1 := (HO.out.lt b hb).2; have h2 := HGN.out; omega)
      have HK10 := Lib.hid (HK9.out.trans (hm.to_below HK9.out.size fun b hb e => by have := HGW.out.1; omega))
      clear hm
      generalize ((((w9.setCell ⟨g10, 4, none⟩ (.int .u64 (k : Int))).setCell ⟨g10, 6, none⟩ (.int .i64 en.prod)).setCell ⟨g10, 7, none⟩ (.int .u64 (en.seq : Int))).setCell ⟨g10, 8, none⟩ (.slice Ab en.body.length cb2)).drew = w10 at H10 HO10 HK10 ⊢
      go_wp2_with (refine wpList_load_blk rfl (ty := 32) rfl (g := g10) rfl H10.out Tryz.underlying32 rfl (info_reply rfl) ?_; refine Hid.out ?_)
      refine Lib.hid ?_
      refine wpList_bs1 rfl (ty := 56) rfl (x := .agg (reL ⟨entR C en k, .slice Ab en.body.length cb2⟩).toArray) (v := .slice (some ⟨w10.heap.size, 0, none⟩) 1 1) rfl (bs1 ⟨entR C en k, .slice Ab en.body.length cb2⟩ w10) ?_
      have hr11 : OwR 0 (w10.alloc (.cells ([⟨entR C en k, .slice Ab en.body.length cb2⟩].flatMap reL).toArray 32)) (.slice (some ⟨w10.heap.size, 0, none⟩) 1 1) [⟨entR C en k, .slice Ab en.body.length cb2⟩] := owr_new w10 [⟨entR C en k, .slice Ab en.body.length cb2⟩] (Nat.zero_le _) (by simp)
      have hb11 : Below w10.heap.size w10 (w10.alloc (.cells ([⟨entR C en k, .slice Ab en.body.length cb2⟩].flatMap reL).toArray 32)) := below_new _ _
      generalize w10.alloc (.cells ([⟨entR C en k, .slice Ab en.body.length cb2⟩].flatMap reL).toArray 32) = w11 at hr11 hb11 ⊢
      have HK11 := Lib.hid (HK10.out.trans (hb11.mono HK10.out.size))
      have ho11 := own_call HO10.out hb11
      obtain ⟨A11, c11, rfl, _, _⟩ := own_slice ho11
      have hlen := rowS_len (C := C) (M := M) (n := E.length) (E := (E.take k)) 0 0 0
      go_wp2_with (first | (at_builtin; refine app_list reply_ty rfl (s := .tmp 81) (x := .tmp 83) rfl ho11 rfl (Reads.of_own hr11) rfl (reL_one (by intro y hy; rw [List.mem_singleton.1 hy]; rfl)) (by rw [hlen]; first | omega | (simp only [List.length_cons, List.length_nil, List.length_take]; omega)) HK11.out.size ?_; intro v12 w12 ho12 hg12 _))
      have HK12 := Lib.hid (HK11.out.grown hg12 HK11.out.size (own_ge ho11))
      have HO12 : Hid (OwR w5.heap.size w12 v12 (rowS C M E.length (E.take k) 0 0 0 ++ [⟨entR C en k, .slice Ab en.body.length cb2⟩])) := by
        show World.ownsRow _ _ _ _ _ _ _
        rw [List.length_append, List.flatMap_append]
        exact ho12
      clear ho11 hr11 hb11 hg12 ho12 hlen
      go_roundw
      case rel =>
        refine ⟨k + 1, hlt, by go_num, HK12.out, ?_⟩
        rw [HSN.out]
        exact HO12.out
      case measure => simp [intOf]; omega
    · obtain rfl : k = E.length := by omega
      rw [List.take_length] at HO
      have hlen := rowS_len (C := C) (M := M) (n := E.length) (E := E) 0 0 0
      obtain ⟨gr, cr, rfl, hgr⟩ := row_some HO.out (by rw [hlen]; omega)
      have h5i : 5 < (rowS C M E.length E 0 0 0).length := by rw [hlen]; omega
      have h5e : (rowS C M E.length E 0 0 0)[5] = rv (atR C 0) := by
        have := (rowS_5 (C := C) (M := M) (n := E.length) (E := E))
        rw [List.getElem?_eq_getElem h5i] at this
        injection this
      obtain ⟨e1, f1, O1, n1⟩ := row_set HO.out rfl (i := 5) (j := 4) (o := 49) h5i (by decide) rfl (.int .u64 (C.at_ : Int)) (rv (atR C C.at_)) (by rw [h5e]; rfl)
      rw [h5e] at e1
      have e1 := e1.trans (rfl : _ = some (Value.int .u64 0))
      rw [rowS_a] at O1
      have c7 := ((HB1.out.below HK.out HB1.out.lt).cell 7).trans (rfl : _ = some (Value.int .u64 (C.at_ : Int)))
      obtain ⟨L5, hL5⟩ : ∃ L5, L5 = (rowS C M E.length E 0 0 0).length := ⟨_, rfl⟩
      rw [← hL5] at O1 h5i ⊢
      have h5j : (5 : Int) < (L5 : Int) := by omega
      have HK1 := Lib.hid (HK.out.trans (n1.to_below HK.out.size fun b hb e => by omega))
      have HO1 := Lib.hid O1
      clear O1 n1 h5e hlen hL5 HO hk hlt
      go_wp2_with fail
      generalize wr.setCell ⟨gr, 49, none⟩ (.int .u64 (C.at_ : Int)) = w15 at HO1 HK1 ⊢
      clear e1 f1 c7 h5i h5j HK hgr
      go_loopw [8, 11] (fun lv iv wr => ∃ i : Nat, i ≤ 3 ∧ iv = .int .i64 i ∧ Below w5.heap.size w5 wr ∧ OwR w5.heap.size wr lv (rowS C M E.length E C.at_ i 0)) (fun _ a _ => 3 - (intOf a).toNat)
      case atStart => exact ⟨0, by omega, rfl, HK1.out, HO1.out⟩
      case round =>
        obtain ⟨i, hi, rfl, hb, ho⟩ := hrel
        obtain ⟨wr, rfl⟩ : ∃ wo : World, wo = wr := ⟨_, rfl⟩
        have HK := Lib.hid hb
        have HO := Lib.hid ho
        clear hb ho HK1 HO1
        by_cases hlt : i < 3
        · have hsn := rowS_c (C := C) (M := M) (n := E.length) (E := E) (a := C.at_) hlt
          have hcs := curS_of (M := M) hlt
          have HSN := Lib.hid hsn
          have HCS := Lib.hid hcs
          have HB6r := Lib.hid (HB6.out.below HK.out HB6.out.lt)
          have hlti : (i : Int) < 3 := by omega
          have hwi : IntKind.i64.wrap ((i : Int) + 1) = (i : Int) + 1 := by rw [IntKind.wrap_i64]; omega
          clear hsn hcs
          go_wp2_with (refine wpList_load_blk rfl (ty := 32) rfl (g := g6) rfl HB6r.out Tryz.underlying32 rfl (info_reply rfl) ?_; refine wpList_alloc_blk rfl (ty := 32) rfl zero_reply ?_; rintro g10 w8 hg10 hB10 hb10; refine Hid.out ?_)
          refine Lib.hid ?_
          refine wpList_store_blk rfl (ty := 32) rfl (g := g10) (cs := (repL (r0 C) nilV).toArray) rfl rfl hB10 rfl (info_reply rfl) (repL_one (R := r0 C) (v := nilV) rfl) ?_
          rintro w9 hB11 hm11
          have hb9 : Below wr.heap.size wr w9 := hb10.trans (hm11.to_below hb10.size fun b hb e => by omega)
          have HK9 := Lib.hid (HK.out.trans (hb9.mono HK.out.size))
          have HO9 := Lib.hid (own_call HO.out hb9)
          have HGN : Hid (wr.heap.size = g10) := hg10
          have H10 := Lib.hid hB11
          have HB0r := Lib.hid (HB0.out.below HK9.out HB0.out.lt)
          clear hb10 hm11 hb9 hB10 hB11 hg10 HB6r
          go_wp2_with (refine wpList_load_blk rfl (ty := 45) rfl (g := w.heap.size) rfl HB0r.out Tryz.underlying45 rfl (info_model rfl) ?_; refine Hid.out ?_)
          refine Lib.hid ?_
          have hcc := rcursor_any (M := M) (vl := .slice A E.length c) (HMF.out.2.below (HPT.out _ HK9.out)) rfl ((i : Int) + 1) (by omega)
          rw [HCS.out] at hcc
          have HCC := Lib.hid hcc
          clear hcc
          go_wp2_with fail
          refine HCC.out.mono ?_
          rintro e w13 ⟨rfl, hb13⟩
          have HK13 := Lib.hid (HK9.out.trans (hb13.mono HK9.out.size))
          have HO13 := Lib.hid (own_call HO9.out hb13)
          have H13 := Lib.hid (H10.out.below hb13 H10.out.lt)
          clear hb13 HCC
          generalize hcu : M.cur.getD i 0 = cu
          have HCU := Lib.hid hcu
          clear hcu
          have y4 := (H13.out.cell 4).trans (rfl : _ = some (Value.int .u64 0))
          have z4 := H13.out.free 4
          have H10 : Hid (Blk (w13.setCell ⟨g10, 4, none⟩ (.int .u64 (cu : Int))) g10 32 (reL (rv (atR C cu))).toArray) := H13.out.put 4 (.int .u64 (cu : Int))
          have hm : Mod (fun b => b = g10) w13 (w13.setCell ⟨g10, 4, none⟩ (.int .u64 (cu : Int))) := Mod.set (S := fun b => b = g10) (Mod.refl _ _) (p := ⟨g10, 4, none⟩) (fun _ => rfl) _
          have HO10 := Lib.hid (own_mod HO13.out hm fun b hb e => by have h1 := (HO.out.lt b hb).2; have h2 := HGN.out; omega)
          have HK10 := Lib.hid (HK13.out.trans (hm.to_below HK13.out.size fun b hb e => by have := HGN.out; have := HK.out.size; omega))
          clear hm
          go_wp2_with (refine wpList_load_blk rfl (ty := 32) rfl (g := g10) rfl H10.out Tryz.underlying32 rfl (info_reply rfl) ?_; refine Hid.out ?_)
          refine Lib.hid ?_
          generalize w13.setCell ⟨g10, 4, none⟩ (.int .u64 (cu : Int)) = w10 at H10 HO10 HK10 ⊢
          refine wpList_bs1 rfl (ty := 56) rfl (x := .agg (reL (rv (atR C cu))).toArray) (v := .slice (some ⟨w10.heap.size, 0, none⟩) 1 1) rfl (bs1 (rv (atR C cu)) w10) ?_
          have hr11 : OwR 0 (w10.alloc (.cells ([(rv (atR C cu))].flatMap reL).toArray 32)) (.slice (some ⟨w10.heap.size, 0, none⟩) 1 1) [(rv (atR C cu))] := owr_new w10 [(rv (atR C cu))] (Nat.zero_le _) (by simp)
          have hb11 : Below w10.heap.size w10 (w10.alloc (.cells ([(rv (atR C cu))].flatMap reL).toArray 32)) := below_new _ _
          generalize w10.alloc (.cells ([(rv (atR C cu))].flatMap reL).toArray 32) = w11 at hr11 hb11 ⊢
          have HK11 := Lib.hid (HK10.out.trans (hb11.mono HK10.out.size))
          have ho11 := own_call HO10.out hb11
          obtain ⟨A11, c11, rfl, _, _⟩ := own_slice ho11
          have hlen := rowS_len (C := C) (M := M) (n := E.length) (E := E) (C.at_) i 0
          go_wp2_with (first | (at_builtin; refine app_list reply_ty rfl (s := .tmp 100) (x := .tmp 102) rfl ho11 rfl (Reads.of_own hr11) rfl (reL_one (by intro y hy; rw [List.mem_singleton.1 hy]; rfl)) (by rw [hlen]; first | omega | (simp only [List.length_cons, List.length_nil, List.length_take]; omega)) HK11.out.size ?_; intro v12 w12 ho12 hg12 _))
          have HK12 := Lib.hid (HK11.out.grown hg12 HK11.out.size (own_ge ho11))
          have HO12 : Hid (OwR w5.heap.size w12 v12 (rowS C M E.length E (C.at_) i 0 ++ [(rv (atR C cu))])) := by
            show World.ownsRow _ _ _ _ _ _ _
            rw [List.length_append, List.flatMap_append]
            exact ho12
          clear ho11 hr11 hb11 hg12 ho12 hlen
          go_roundw
          case rel =>
            refine ⟨i + 1, hlt, by go_num, HK12.out, ?_⟩
            rw [HSN.out, HCU.out]
            exact HO12.out
          case measure => simp [intOf]; omega
        · obtain rfl : i = 3 := by omega
          rw [show ((3 : Nat) : Int) = 3 from rfl]
          go_wp2_with fail
          go_loopw [8, 13] (fun lv jv wr => ∃ j : Nat, j ≤ E.length + 1 ∧ jv = .int .u64 j ∧ Below w5.heap.size w5 wr ∧ OwR w5.heap.size wr lv (rowS C M E.length E C.at_ 3 j)) (fun _ a _ => E.length + 1 - (intOf a).toNat)
          case atStart => exact ⟨0, by omega, rfl, HK.out, HO.out⟩
          case round =>
            obtain ⟨j, hj, rfl, hb, ho⟩ := hrel
            obtain ⟨wr, rfl⟩ : ∃ wo : World, wo = wr := ⟨_, rfl⟩
            have HK := Lib.hid hb
            have HO := Lib.hid ho
            clear hb ho
            by_cases hlt : j ≤ E.length
            · have hsn := rowS_d (C := C) (M := M) (n := E.length) (E := E) (a := C.at_) (j := j)
              have HSN := Lib.hid hsn
              have HB6r := Lib.hid (HB6.out.below HK.out HB6.out.lt)
              have hlti : (j : Int) ≤ (E.length : Int) := by omega
              have hwj : IntKind.u64.wrap ((E.length : Int) - (j : Int)) = ((E.length - j : Nat) : Int) := by rw [IntKind.wrap_u64]; omega
              clear hsn
              go_wp2_with (refine wpList_load_blk rfl (ty := 32) rfl (g := g6) rfl HB6r.out Tryz.underlying32 rfl (info_reply rfl) ?_; refine wpList_alloc_blk rfl (ty := 32) rfl zero_reply ?_; rintro g10 w8 hg10 hB10 hb10; refine Hid.out ?_)
              refine Lib.hid ?_
              refine wpList_store_blk rfl (ty := 32) rfl (g := g10) (cs := (repL (r0 C) nilV).toArray) rfl rfl hB10 rfl (info_reply rfl) (repL_one (R := r0 C) (v := nilV) rfl) ?_
              rintro w9 hB11 hm11
              have hb9 : Below wr.heap.size wr w9 := hb10.trans (hm11.to_below hb10.size fun b hb e => by omega)
              have HK13 := Lib.hid (HK.out.trans (hb9.mono HK.out.size))
              have HO13 := Lib.hid (own_call HO.out hb9)
              have HGN : Hid (wr.heap.size = g10) := hg10
              have H13 := Lib.hid hB11
              clear hb10 hm11 hb9 hB10 hB11 hg10 HB6r
              obtain ⟨cu, hcu⟩ : ∃ cu, cu = E.length - j := ⟨_, rfl⟩
              rw [← hcu] at hwj
              have HCU := Lib.hid hcu
              clear hcu
              have y4 := (H13.out.cell 4).trans (rfl : _ = some (Value.int .u64 0))
              have z4 := H13.out.free 4
              have H10 : Hid (Blk (w9.setCell ⟨g10, 4, none⟩ (.int .u64 (cu : Int))) g10 32 (reL (rv (atR C cu))).toArray) := H13.out.put 4 (.int .u64 (cu : Int))
              have hm : Mod (fun b => b = g10) w9 (w9.setCell ⟨g10, 4, none⟩ (.int .u64 (cu : Int))) := Mod.set (S := fun b => b = g10) (Mod.refl _ _) (p := ⟨g10, 4, none⟩) (fun _ => rfl) _
              have HO10 := Lib.hid (own_mod HO13.out hm fun b hb e => by have h1 := (HO.out.lt b hb).2; have h2 := HGN.out; omega)
              have HK10 := Lib.hid (HK13.out.trans (hm.to_below HK13.out.size fun b hb e => by have := HGN.out; have := HK.out.size; omega))
              clear hm
              go_wp2_with (refine wpList_load_blk rfl (ty := 32) rfl (g := g10) rfl H10.out Tryz.underlying32 rfl (info_reply rfl) ?_; refine Hid.out ?_)
              refine Lib.hid ?_
              generalize w9.setCell ⟨g10, 4, none⟩ (.int .u64 (cu : Int)) = w10 at H10 HO10 HK10 ⊢
              refine wpList_bs1 rfl (ty := 56) rfl (x := .agg (reL (rv (atR C cu))).toArray) (v := .slice (some ⟨w10.heap.size, 0, none⟩) 1 1) rfl (bs1 (rv (atR C cu)) w10) ?_
              have hr11 : OwR 0 (w10.alloc (.cells ([(rv (atR C cu))].flatMap reL).toArray 32)) (.slice (some ⟨w10.heap.size, 0, none⟩) 1 1) [(rv (atR C cu))] := owr_new w10 [(rv (atR C cu))] (Nat.zero_le _) (by simp)
              have hb11 : Below w10.heap.size w10 (w10.alloc (.cells ([(rv (atR C cu))].flatMap reL).toArray 32)) := below_new _ _
              generalize w10.alloc (.cells ([(rv (atR C cu))].flatMap reL).toArray 32) = w11 at hr11 hb11 ⊢
              have HK11 := Lib.hid (HK10.out.trans (hb11.mono HK10.out.size))
              have ho11 := own_call HO10.out hb11
              obtain ⟨A11, c11, rfl, _, _⟩ := own_slice ho11
              have hlen := rowS_len (C := C) (M := M) (n := E.length) (E := E) (C.at_) 3 j
              go_wp2_with (first | (at_builtin; refine app_list reply_ty rfl (s := .tmp 114) (x := .tmp 116) rfl ho11 rfl (Reads.of_own hr11) rfl (reL_one (by intro y hy; rw [List.mem_singleton.1 hy]; rfl)) (by rw [hlen]; first | omega | (simp only [List.length_cons, List.length_nil, List.length_take]; omega)) HK11.out.size ?_; intro v12 w12 ho12 hg12 _))
              have HK12 := Lib.hid (HK11.out.grown hg12 HK11.out.size (own_ge ho11))
              have HO12 : Hid (OwR w5.heap.size w12 v12 (rowS C M E.length E (C.at_) 3 j ++ [(rv (atR C cu))])) := by
                show World.ownsRow _ _ _ _ _ _ _
                rw [List.length_append, List.flatMap_append]
                exact ho12
              clear ho11 hr11 hb11 hg12 ho12 hlen
              go_roundw
              case rel =>
                refine ⟨j + 1, by omega, by go_num, HK12.out, ?_⟩
                rw [HSN.out, ← HCU.out]
                exact HO12.out
              case measure => simp [intOf]; omega
            · obtain rfl : j = E.length + 1 := by omega
              rw [show ((E.length + 1 : Nat) : Int) = (E.length : Int) + 1 from rfl]
              have hmapL := rowS_map (C := C) (M := M) (E := E) HE.out
              have hslL := rowS_sl (C := C) (M := M) (n := E.length) HALL.out (a := C.at_) (i := 3) (j := E.length + 1)
              have hLn : (rowS C M E.length E C.at_ 3 (E.length + 1)).length ≤ 3000 := by rw [rowS_len]; omega
              generalize rowS C M E.length E C.at_ 3 (E.length + 1) = L at HO hmapL hslL hLn
              have HMAP := Lib.hid hmapL
              have HSL := Lib.hid hslL
              obtain ⟨AL, cL, rfl, _, _⟩ := own_slice HO.out
              obtain ⟨wo, rfl⟩ : ∃ wo : World, wo = wr := ⟨_, rfl⟩
              have HPW := Lib.hid (HPT.out _ HK.out)
              clear hmapL hslL hlt hj
              go_wp2_with fail
              go_loopw [15] (fun iv wq => ∃ i : Nat, i ≤ L.length ∧ iv = .int .i64 i ∧ Below wo.heap.size wo wq ∧ ∀ (j : Nat) (hj : j < L.length), j < i → doesM M C L[j].r = none) (fun a _ => L.length - (intOf a).toNat)
              case atStart => exact ⟨0, Nat.zero_le _, rfl, Below.refl _ _, fun j _ h => absurd h (by omega)⟩
              case round =>
                obtain ⟨i, hi, rfl, hb, hno⟩ := hrel
                obtain ⟨wr, rfl⟩ : ∃ wo : World, wo = wr := ⟨_, rfl⟩
                have HN := Lib.hid hno
                have HK1 := Lib.hid hb
                have HO1 := Lib.hid (own_call HO.out hb)
                have HK5 := Lib.hid (HK.out.trans (hb.mono HK.out.size))
                have HPR := Lib.hid (HPT.out _ HK5.out)
                clear hb hno
                by_cases hlt : i < L.length
                · obtain ⟨b, o, rfl, hbl, hrg⟩ := rows_range reL_len (by decide) (Reads.of_own HO1.out) hlt
                  have hmem := List.getElem_mem hlt
                  have hxs := HSL.out _ hmem
                  have hat : C.at_ < 18446744073709551616 := by obtain ⟨⟨m1, m2, m3, m4, m5, m6, m7⟩, _⟩ := HC.out; omega
                  have hcd := cand_ok HM.out (by omega) hat L[i].r (by rw [← HMAP.out]; exact List.mem_map.2 ⟨_, hmem, rfl⟩)
                  have HLI : Hid (∀ R, doesM M C L[i].r = R → R = none → ∀ (j : Nat) (hj : j < L.length), j < i + 1 → doesM M C L[j].r = none) := fun R h1 h2 j hj h => by
                    rcases Nat.lt_succ_iff_lt_or_eq.1 h with h | rfl
                    · exact HN.out j hj h
                    · rw [h1, h2]
                  generalize L[i] = x at hrg hxs hcd HLI
                  clear hmem hat HN
                  have HXS := Lib.hid hxs
                  have HCD := Lib.hid hcd
                  have HRG : Hid (wr.rangeAt b (o + i * 9) (repL x.r x.v)) := hrg
                  have HBW : Hid (w5.heap.size ≤ b) := own_ge HO1.out b rfl
                  have hone : x.v.oneCell' = true := hxs.one
                  have HB0r := Lib.hid (HB0.out.below HK5.out HB0.out.lt)
                  have HB1r := Lib.hid (HB1.out.below HK5.out HB1.out.lt)
                  have HB4r := Lib.hid (HB4.out.below HK5.out HB4.out.lt)
                  have HB5r := Lib.hid (HB5.out.below HK5.out HB5.out.lt)
                  have HRS : Hid (w5.heap.size ≤ wr.heap.size) := HK5.out.size
                  obtain ⟨T, hT⟩ : ∃ T, T = doesM M C x.r := ⟨_, rfl⟩
                  have HTT := Lib.hid hT
                  obtain ⟨t, ht⟩ : ∃ t : Bool, t = T.isSome := ⟨_, rfl⟩
                  obtain ⟨M2, hM2⟩ : ∃ M2, M2 = T.getD zMdl := ⟨_, rfl⟩
                  have HTM : Hid (t = T.isSome ∧ M2 = T.getD zMdl) := ⟨ht, hM2⟩
                  have HD : Hid (∀ W, Below wr.heap.size wr W → Calls Tryz.prog 17 #[.agg (mdL M (.slice A E.length c) vc).toArray, .agg (calL C (.slice Db C.body.length cb)).toArray, .agg (repL x.r x.v).toArray] W fun e w' => (∃ u1 u2, e = .returned (.tuple #[.agg (mdL M2 u1 u2).toArray, .bool t]) ∧ MdF (fun b => W.heap.size ≤ b) w' u1 u2 M2) ∧ Below W.heap.size W w') := fun W hW => by
                    have hb := HPR.out.trans (hW.mono HPR.out.size)
                    refine (does_wide (HMF.out.below hb) (HV.out.below hb) (HXS.out.below hb) (by rw [← HE.out, List.length_map]; omega) (fun e he => Nat.le_trans (HM.out.ent e he).2.2.2 (by decide)) (Nat.le_trans hnb (by decide)) (Nat.le_trans HCD.out.body (by decide))).mono ?_
                    rintro e w' ⟨⟨v', e1, ⟨u1, u2, e2, hmf⟩⟩, hb⟩
                    rw [← hT, ← hM2] at e2 hmf
                    rw [← hT, ← ht] at e1
                    subst e2
                    exact ⟨⟨u1, u2, e1, hmf⟩, hb⟩
                  have hlti : (i : Int) < (L.length : Int) := by omega
                  clear hT ht hM2 hrg hxs hcd
                  go_wp2_with fail
                  apply Answer.share3 (S := fun g11 u1 u2 W => Below wr.heap.size wr W ∧ Blk W g11 45 (mdL M2 u1 u2).toArray ∧ wr.heap.size ≤ g11 ∧ MdF (fun b => wr.heap.size ≤ b) W u1 u2 M2)
                  case walk =>
                    refine PF.pf_begin (by kernel_rfl) ?_
                    refine PF.pf_take1 0 ((fun u => Blk u w.heap.size 45 (mdL M (.slice A E.length c) vc).toArray)) (by kernel_rfl) rfl (fun _ _ _ _ _ h => h) (by kernel_rfl) (HB0r.out) (fun u hu => by (exact exec_load_blk rfl rfl hu Tryz.underlying45 rfl (info_model rfl))) ?_
                    try simp only [Act.put, pz0, pz1, pz2]
                    refine PF.pf_take1 1 ((fun u => Blk u (w.heap.size + 1) 25 (calL C (.slice Db C.body.length cb)).toArray)) (by kernel_rfl) rfl (fun _ _ _ _ _ h => h) (by kernel_rfl) (HB1r.out) (fun u hu => by (exact exec_load_blk rfl rfl hu Tryz.underlying25 rfl (info_call rfl))) ?_
                    try simp only [Act.put, pz0, pz1, pz2]
                    refine PF.pf_take0 2 (by kernel_rfl) rfl (fun _ _ _ _ _ h => h) (by kernel_rfl) (fun u => by go_simp; try rfl) ?_
                    try simp only [Act.put, pz0, pz1, pz2]
                    refine PF.pf_take0 3 (by kernel_rfl) rfl (fun _ _ _ _ _ h => h) (by kernel_rfl) (fun u => by go_simp; try rfl) ?_
                    try simp only [Act.put, pz0, pz1, pz2]
                    refine PF.pf_take0 4 (by kernel_rfl) rfl (fun _ _ _ _ _ h => h) (by kernel_rfl) (fun u => by go_simp; try rfl) ?_
                    try simp only [Act.put, pz0, pz1, pz2]
                    refine PF.pf_take1 5 ((fun u => u.rangeAt b (o + i * 9) (repL x.r x.v))) (by kernel_rfl) rfl (fun _ _ _ _ _ h => h) (by kernel_rfl) (HRG.out) (fun u hu => by (exact exec_load_rg rfl rfl hu Tryz.underlying32 rfl (infoj_reply9 rfl))) ?_
                    try simp only [Act.put, pz0, pz1, pz2]
                    refine PF.pf_fork [6, 10] (by kernel_rfl) rfl (PF.fork_cons ?_ (PF.fork_cons ?_ PF.fork_nil))
                    -- number 6 first
                    · refine PF.step_one rfl (by kernel_rfl) (fun K hK => ?_)
                      go_simp
                      refine (HD.out _ ((Below.refl wr.heap.size wr).drew)).mono ?_
                      rintro e v8 ⟨⟨u1, u2, rfl, hmf⟩, hb⟩
                      have hmf := (hmf.weak (K' := fun b => wr.heap.size ≤ b ∧ b < v8.heap.size) fun b h1 h2 => ⟨h2, h1⟩)
                      have hb := ((Below.refl wr.heap.size wr).drew).trans hb
                      have HRG := Lib.hid (rg_below HRG.out hb)
                      have HB0r := Lib.hid (HB0r.out.below hb HB0r.out.lt)
                      have HB1r := Lib.hid (HB1r.out.below hb HB1r.out.lt)
                      have HW := Lib.hid hb
                      have HMF2 := Lib.hid hmf
                      have HU : Hid (u1.oneCell' = true ∧ u2.oneCell' = true) := ⟨hmf.1.one, hmf.2.one⟩
                      clear hmf hb
                      refine hK _ _ (by repeat (first | exact PF.owes_nil | refine PF.owes_left ?_ | refine PF.owes_no (by decide +kernel) ?_ | refine PF.owes_yes (by first | exact HRG.out | exact HB0r.out | exact HB1r.out) ?_)) ?_
                      clear hK K
                      try simp only [Act.put, pz0, pz1, pz2]
                      refine PF.pf_take0 7 (by kernel_rfl) rfl (fun _ _ _ _ _ h => h) (by kernel_rfl) (fun u => by go_simp; try rfl) ?_
                      try simp only [Act.put, pz0, pz1, pz2]
                      refine PF.pf_take0 8 (by kernel_rfl) rfl (fun _ _ _ _ _ h => h) (by kernel_rfl) (fun u => by go_simp; try rfl) ?_
                      try simp only [Act.put, pz0, pz1, pz2]
                      refine PF.pf_take0 9 (by kernel_rfl) rfl (fun _ _ _ _ _ h => h) (by kernel_rfl) (fun u => by go_simp; try rfl) ?_
                      try simp only [Act.put, pz0, pz1, pz2]
                      refine PF.pf_exec 10 (by kernel_rfl) rfl (by kernel_rfl) (fun K hK => ?_)
                      refine wp_alloc_blk rfl zero_model ?_
                      intro g11 v12 e11 hB hb
                      have HE11 : Hid (wr.heap.size ≤ g11) := by have h1 := HW.out.size; show _ ≤ _; rw [← e11]; exact h1
                      have HND : Hid (∀ b, wr.heap.size ≤ b ∧ b < v8.heap.size → b ≠ g11) := fun b hb => by show _ ≠ _; have h1 : v8.heap.size = g11 := e11; omega
                      have HRG := Lib.hid (rg_below HRG.out hb)
                      have HB0r := Lib.hid (HB0r.out.below hb HB0r.out.lt)
                      have HB1r := Lib.hid (HB1r.out.below hb HB1r.out.lt)
                      have HMF2 := Lib.hid ((HMF2.out).below hb)
                      have HW := Lib.hid (HW.out.trans (hb.mono HW.out.size))
                      have H11 := Lib.hid hB
                      clear e11 hB hb
                      refine hK _ _ (by repeat (first | exact PF.owes_nil | refine PF.owes_left ?_ | refine PF.owes_no (by decide +kernel) ?_ | refine PF.owes_yes (by first | exact HRG.out | exact HB0r.out | exact HB1r.out) ?_)) ?_
                      clear hK K
                      try simp only [Act.put, pz0, pz1, pz2]
                      refine PF.pf_exec 11 (by kernel_rfl) rfl (by kernel_rfl) (fun K hK => ?_)
                      refine wp_store_blk (cs := (mdL M2 u1 u2).toArray) rfl rfl rfl H11.out rfl (info_model rfl) (mdL_one HU.out.1 HU.out.2) ?_
                      intro v13 hB hm
                      have HMF2 := Lib.hid ((HMF2.out.mod hm fun b hb e => by first | exact HND.out b hb e | exact hb.2 e).weak (K' := fun b => wr.heap.size ≤ b) fun b _ h => h.1)
                      have HW := Lib.hid (HW.out.trans (hm.to_below HW.out.size fun b hb e => by have := HE11.out; omega))
                      have H11 := Lib.hid hB
                      clear hB hm
                      refine hK _ _ (by repeat (first | exact PF.owes_nil | refine PF.owes_left ?_ | refine PF.owes_no (by decide +kernel) ?_ | refine PF.owes_yes (by first | exact HRG.out | exact HB0r.out | exact HB1r.out) ?_)) ?_
                      clear hK K
                      try simp only [Act.put, pz0, pz1, pz2]
                      refine PF.pf_take0 12 (by kernel_rfl) rfl (fun _ _ _ _ _ h => h) (by kernel_rfl) (fun u => by go_simp; try rfl) ?_
                      try simp only [Act.put, pz0, pz1, pz2]
                      refine PF.pf_done (by kernel_rfl) ?_
                      exact ⟨g11, u1, u2, rfl, HW.out, H11.out, HE11.out, HMF2.out⟩
                    -- number 10 first
                    · refine PF.step_one rfl (by kernel_rfl) (fun K hK => ?_)
                      refine wp_alloc_blk rfl zero_model ?_
                      intro g11 v12 e11 hB hb
                      have HE11 : Hid (wr.heap.size ≤ g11) := by show _ ≤ _; rw [← e11]; exact Nat.le_refl _
                      have hb := ((Below.refl wr.heap.size wr).drew).trans hb
                      have HRG := Lib.hid (rg_below HRG.out hb)
                      have HB0r := Lib.hid (HB0r.out.below hb HB0r.out.lt)
                      have HB1r := Lib.hid (HB1r.out.below hb HB1r.out.lt)
                      have HW := Lib.hid hb
                      have H11 := Lib.hid hB
                      clear e11 hB hb
                      refine hK _ _ (by repeat (first | exact PF.owes_nil | refine PF.owes_left ?_ | refine PF.owes_no (by decide +kernel) ?_ | refine PF.owes_yes (by first | exact HRG.out | exact HB0r.out | exact HB1r.out) ?_)) ?_
                      clear hK K
                      try simp only [Act.put, pz0, pz1, pz2]
                      refine PF.pf_exec 6 (by kernel_rfl) rfl (by kernel_rfl) (fun K hK => ?_)
                      go_simp
                      refine (HD.out _ HW.out).mono ?_
                      rintro e v8 ⟨⟨u1, u2, rfl, hmf⟩, hb⟩
                      have HMF2 := Lib.hid (hmf.weak (K' := fun b => wr.heap.size ≤ b ∧ b ≠ g11) fun b h1 h2 => ⟨Nat.le_trans HW.out.size h2, fun e => by have := H11.out.lt; omega⟩)
                      have HRG := Lib.hid (rg_below HRG.out hb)
                      have HB0r := Lib.hid (HB0r.out.below hb HB0r.out.lt)
                      have HB1r := Lib.hid (HB1r.out.below hb HB1r.out.lt)
                      have H11 := Lib.hid (H11.out.below hb H11.out.lt)
                      have HW := Lib.hid (HW.out.trans (hb.mono HW.out.size))
                      have HU : Hid (u1.oneCell' = true ∧ u2.oneCell' = true) := ⟨HMF2.out.1.one, HMF2.out.2.one⟩
                      clear hmf hb
                      refine hK _ _ (by repeat (first | exact PF.owes_nil | refine PF.owes_left ?_ | refine PF.owes_no (by decide +kernel) ?_ | refine PF.owes_yes (by first | exact HRG.out | exact HB0r.out | exact HB1r.out) ?_)) ?_
                      clear hK K
                      try simp only [Act.put, pz0, pz1, pz2]
                      refine PF.pf_take0 7 (by kernel_rfl) rfl (fun _ _ _ _ _ h => h) (by kernel_rfl) (fun u => by go_simp; try rfl) ?_
                      try simp only [Act.put, pz0, pz1, pz2]
                      refine PF.pf_take0 8 (by kernel_rfl) rfl (fun _ _ _ _ _ h => h) (by kernel_rfl) (fun u => by go_simp; try rfl) ?_
                      try simp only [Act.put, pz0, pz1, pz2]
                      refine PF.pf_take0 9 (by kernel_rfl) rfl (fun _ _ _ _ _ h => h) (by kernel_rfl) (fun u => by go_simp; try rfl) ?_
                      try simp only [Act.put, pz0, pz1, pz2]
                      refine PF.pf_exec 11 (by kernel_rfl) rfl (by kernel_rfl) (fun K hK => ?_)
                      refine wp_store_blk (cs := (mdL M2 u1 u2).toArray) rfl rfl rfl H11.out rfl (info_model rfl) (mdL_one HU.out.1 HU.out.2) ?_
                      intro v13 hB hm
                      have HMF2 := Lib.hid ((HMF2.out.mod hm fun b hb e => by first | exact HND.out b hb e | exact hb.2 e).weak (K' := fun b => wr.heap.size ≤ b) fun b _ h => h.1)
                      have HW := Lib.hid (HW.out.trans (hm.to_below HW.out.size fun b hb e => by have := HE11.out; omega))
                      have H11 := Lib.hid hB
                      clear hB hm
                      refine hK _ _ (by repeat (first | exact PF.owes_nil | refine PF.owes_left ?_ | refine PF.owes_no (by decide +kernel) ?_ | refine PF.owes_yes (by first | exact HRG.out | exact HB0r.out | exact HB1r.out) ?_)) ?_
                      clear hK K
                      try simp only [Act.put, pz0, pz1, pz2]
                      refine PF.pf_take0 12 (by kernel_rfl) rfl (fun _ _ _ _ _ h => h) (by kernel_rfl) (fun u => by go_simp; try rfl) ?_
                      try simp only [Act.put, pz0, pz1, pz2]
                      refine PF.pf_done (by kernel_rfl) ?_
                      exact ⟨g11, u1, u2, rfl, HW.out, H11.out, HE11.out, HMF2.out⟩
                  case rest =>
                    intro g11 u1 u2 W ⟨hW, hB11, hg11, hmf⟩
                    have HW := Lib.hid hW
                    have H11 := Lib.hid hB11
                    have HG11 := Lib.hid hg11
                    have HMF2 := Lib.hid hmf
                    have HU : Hid (u1.oneCell' = true ∧ u2.oneCell' = true) := ⟨hmf.1.one, hmf.2.one⟩
                    have HRG := Lib.hid (rg_below HRG.out hW)
                    have HB4r := Lib.hid (HB4r.out.below hW HB4r.out.lt)
                    have HB5r := Lib.hid (HB5r.out.below hW HB5r.out.lt)
                    clear hW hB11 hg11 hmf HD HB0r HB1r
                    cases t with
                    | false =>
                      as_aux_lemma =>
                        have hT0 : T = none := by
                          have := HTM.out.1
                          cases T with
                          | none => rfl
                          | some m => cases this
                        have HNX := Lib.hid (HLI.out T HTT.out.symm hT0)
                        clear hT0
                        go_wp2_with fail
                        go_roundw
                        case rel => exact ⟨i + 1, hlt, by go_num, HK1.out.trans (HW.out.mono HK1.out.size), HNX.out⟩
                        case measure => simp [intOf]; omega
                    | true =>
                      as_aux_lemma =>
                        have hT1 : T = some M2 := by
                          have h1 := HTM.out.1
                          have h2 := HTM.out.2
                          cases T with
                          | none => cases h1
                          | some m => rw [h2]; rfl
                        have HT1 : Hid (doesM M C x.r = some M2) := by show _ = _; rw [← HTT.out, hT1]
                        have HNE : Hid (g4 ≠ b ∧ g5 ≠ b ∧ g4 ≠ g11 ∧ g5 ≠ g11 ∧ g4 < w5.heap.size ∧ g5 < w5.heap.size ∧ g4 ≠ g5) := by
                          have h1 := HBW.out
                          have h2 := HG.out
                          have h3 := HL6.out
                          have h4 := HG11.out
                          have h5 := HRS.out
                          show _ ∧ _
                          omega
                        clear hT1
                        go_wp2_with fail
                        refine PF.pf_begin (by kernel_rfl) ?_
                        refine PF.pf_take1 0 ((fun u => Blk u g11 45 (mdL M2 u1 u2).toArray)) (by kernel_rfl) rfl (fun _ _ _ _ _ h => h) (by kernel_rfl) (H11.out) (fun u hu => by (exact exec_load_blk rfl rfl hu Tryz.underlying45 rfl (info_model rfl))) ?_
                        try simp only [Act.put, pz0, pz1, pz2]
                        refine PF.pf_take0 1 (by kernel_rfl) rfl (fun _ _ _ _ _ h => h) (by kernel_rfl) (fun u => by go_simp; try rfl) ?_
                        try simp only [Act.put, pz0, pz1, pz2]
                        refine PF.pf_take0 2 (by kernel_rfl) rfl (fun _ _ _ _ _ h => h) (by kernel_rfl) (fun u => by go_simp; try rfl) ?_
                        try simp only [Act.put, pz0, pz1, pz2]
                        refine PF.pf_take0 3 (by kernel_rfl) rfl (fun _ _ _ _ _ h => h) (by kernel_rfl) (fun u => by go_simp; try rfl) ?_
                        try simp only [Act.put, pz0, pz1, pz2]
                        refine PF.pf_take1 4 ((fun u => u.rangeAt b (o + i * 9) (repL x.r x.v))) (by kernel_rfl) rfl (fun _ _ _ _ _ h => h) (by kernel_rfl) (HRG.out) (fun u hu => by (exact exec_load_rg rfl rfl hu Tryz.underlying32 rfl (infoj_reply9 rfl))) ?_
                        try simp only [Act.put, pz0, pz1, pz2]
                        refine PF.pf_exec 5 (by kernel_rfl) rfl (by kernel_rfl) (fun K hK => ?_)
                        refine wp_store_blk (cs := (mdL M2 u1 u2).toArray) rfl rfl rfl HB4r.out.drew rfl (info_model rfl) (mdL_one HU.out.1 HU.out.2) ?_
                        intro v13 hB hm
                        have hm := (Mod.refl (fun b => b = g4) W).drew.trans hm
                        have HMF3 := Lib.hid (HMF2.out.mod hm fun b hb e => by have h1 := HRS.out; have h2 := HNE.out.2.2.2.2.1; omega)
                        have HW3 := Lib.hid (HPR.out.trans ((HW.out.mono HPR.out.size).trans (hm.to_below (Nat.le_trans HPR.out.size HW.out.size) fun b hb e => by have := HG.out.1; omega)))
                        have HRG := Lib.hid (rg_mod HRG.out hm fun e => HNE.out.1 e.symm)
                        have H11 := Lib.hid (H11.out.mod hm fun e => HNE.out.2.2.1 e.symm)
                        have HB5r := Lib.hid (HB5r.out.mod hm fun e => HNE.out.2.2.2.2.2.2 e.symm)
                        have HB4r := Lib.hid hB
                        clear hB hm
                        refine hK _ _ (by repeat (first | exact PF.owes_nil | refine PF.owes_left ?_ | refine PF.owes_no (by decide +kernel) ?_ | refine PF.owes_yes (by first | exact HRG.out | exact H11.out) ?_)) ?_
                        clear hK K
                        try simp only [Act.put, pz0, pz1, pz2]
                        refine PF.pf_exec 6 (by kernel_rfl) rfl (by kernel_rfl) (fun K hK => ?_)
                        refine wp_store_blk (cs := (repL x.r x.v).toArray) rfl rfl rfl HB5r.out rfl (info_reply rfl) (repL_one hone) ?_
                        intro v14 hB hm
                        have HMF3 := Lib.hid (HMF3.out.mod hm fun b hb e => by have h1 := HRS.out; have h2 := HNE.out.2.2.2.2.2.1; omega)
                        have HW3 := Lib.hid (HW3.out.trans (hm.to_below HW3.out.size fun b hb e => by have := HG.out; omega))
                        have HRG := Lib.hid (rg_mod HRG.out hm fun e => HNE.out.2.1 e.symm)
                        have H11 := Lib.hid (H11.out.mod hm fun e => HNE.out.2.2.2.1 e.symm)
                        have HB4r := Lib.hid (HB4r.out.mod hm fun e => HNE.out.2.2.2.2.2.2 e)
                        have HB5r := Lib.hid hB
                        clear hB hm
                        refine hK _ _ (by repeat (first | exact PF.owes_nil | refine PF.owes_left ?_ | refine PF.owes_no (by decide +kernel) ?_ | refine PF.owes_yes (by first | exact HRG.out | exact H11.out) ?_)) ?_
                        clear hK K
                        try simp only [Act.put, pz0, pz1, pz2]
                        refine PF.pf_done (by kernel_rfl) ?_
                        go_wp2_with fail
                        refine bodyPost_ret (results_cc Tryz.results15 _ HB4r.out.drew rfl Tryz.underlying45 rfl (info_model rfl) HB5r.out.drew rfl Tryz.underlying32 rfl (info_reply rfl)) rfl ?_
                        exact ⟨⟨M2, x.r, u1, u2, x.v, rfl, HT1.out, HCD.out, (HMF3.out.weak fun b _ h => Nat.le_trans HPR.out.size h), HXS.out.below HW3.out⟩, HW3.out⟩
                · exfalso
                  obtain ⟨R, hR, hs⟩ := cand_some HC.out HTR.out
                  rw [← HMAP.out] at hR
                  obtain ⟨y, hy, rfl⟩ := List.mem_map.1 hR
                  obtain ⟨j, hj, rfl⟩ := List.mem_iff_getElem.1 hy
                  rw [HN.out j hj (by omega)] at hs
                  cases hs
end Go.Proofs.YtpjmolnkmlpfeaaGreatDoor
