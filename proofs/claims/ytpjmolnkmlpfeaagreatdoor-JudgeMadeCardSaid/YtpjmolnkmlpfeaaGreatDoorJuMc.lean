/- What a run of acts keeps: plain; and in memory. -/
import Derived.Test.YtpjmolnkmlpfeaaGreatDoorJuMa
namespace Go.Proofs.YtpjmolnkmlpfeaaGreatDoor
set_option linter.unusedVariables false
set_option linter.unusedSimpArgs false
set_option maxRecDepth 100000
open Go.RowKit

/-- A call that was begun. -/
structure FitC (C : Cal) : Prop where
  may : MayP C
  seq : C.seq < 18446744073709551616
  body : C.body.length ≤ 1000
theorem FitC.idok {C : Cal} (h : FitC C) : IdOk (idOf C) := by
  obtain ⟨⟨⟨m1, m2, m3, m4, m5, m6, m7⟩, _⟩, _, _⟩ := h
  refine ⟨?_, ?_, ?_, ?_⟩ <;> simp only [idOf] <;> omega
/-- What is kept, by k acts. -/
structure MadI (k : Nat) (nx : List Nat) (h : List Nte) (m : Mdl) (op : List Cal) (en : List (Cal × Rep)) : Prop where
  made : ∃ dn, Made h m op en dn
  nxl : nx.length = 16
  nxb : ∀ j, nx.getD j 0 ≤ k
  beg : ∀ y ∈ h, y.kind = 1 → y.call.inc = 1 ∧ y.call.n ≤ nx.getD y.call.cl.toNat 0 ∧ 1 ≤ y.call.cl ∧ y.call.cl ≤ 15
  hl : h.length ≤ k
  opl : op.length ≤ k
  enl : en.length ≤ k
  okm : OkN k (ownM m)
  trim : m.trim ≤ m.log.length
  fit : ∀ C ∈ op, FitC C
  hok : ∀ y ∈ h, NtOk y
  eno : ∀ p ∈ en, FitC p.1 ∧ CandOk p.1 p.2
theorem getD_rep (n j : Nat) : (List.replicate n 0).getD j 0 = (0 : Nat) := by
  rw [List.getD_eq_getElem?_getD, List.getElem?_replicate]
  split <;> rfl
theorem MadI.zero : MadI 0 (List.replicate 16 0) [] zMdl [] [] where
  made := ⟨[], .nil⟩
  nxl := List.length_replicate
  nxb j := by rw [getD_rep]; exact Nat.le_refl _
  beg y h := by cases h
  hl := Nat.le_refl _
  opl := Nat.le_refl _
  enl := Nat.le_refl _
  okm := (OkK.start []).m
  trim := Nat.le_refl _
  fit C h := by cases h
  hok y h := by cases h
  eno p h := by cases h
section
variable {k : Nat} {nx : List Nat} {h : List Nte} {m m' : Mdl} {op : List Cal} {en : List (Cal × Rep)}
theorem MadI.more (I : MadI k nx h m op en) : MadI (k + 1) nx h m op en :=
  ⟨I.made, I.nxl, fun j => Nat.le_succ_of_le (I.nxb j), I.beg, Nat.le_succ_of_le I.hl, Nat.le_succ_of_le I.opl, Nat.le_succ_of_le I.enl, I.okm.more (Nat.le_succ k), I.trim, I.fit, I.hok, I.eno⟩
theorem getD_set (l : List Nat) (i j x : Nat) (hi : i < l.length) : (l.set i x).getD j 0 = if j = i then x else l.getD j 0 := by
  rw [List.getD_eq_getElem?_getD, List.getElem?_set]
  by_cases e : i = j
  · subst e; simp [hi]
  · rw [if_neg e, if_neg (fun h => e h.symm), List.getD_eq_getElem?_getD]
theorem MadI.begins (I : MadI k nx h m op en) (hk : k ≤ 1000) {C : Cal} (hf : FitC C) (hinc : C.inc = 1) (hn : C.n = nx.getD C.cl.toNat 0 + 1) (hch : C.ch = 1) :
    MadI (k + 1) (nx.set C.cl.toNat C.n) (h ++ [begN C]) m (op ++ [C]) en := by
  obtain ⟨dn, hM⟩ := I.made
  obtain ⟨⟨m1, m2, m3, m4, m5, m6, m7⟩, _⟩ := hf.may
  have hlt : C.cl.toNat < nx.length := by rw [I.nxl]; omega
  have hnb := I.nxb C.cl.toNat
  refine ⟨⟨dn, .beg hM (fun y hy hk e => ?_) hf.may hch⟩, by rw [List.length_set]; exact I.nxl, fun j => ?_, fun y hy hk => ?_, ?_, ?_, Nat.le_succ_of_le I.enl, I.okm.more (Nat.le_succ k), I.trim, fun D hD => ?_, fun y hy => ?_, I.eno⟩
  · obtain ⟨b1, b2, b3, b4⟩ := I.beg y hy hk
    simp only [idOf, Prod.mk.injEq] at e
    rw [e.1] at b2
    omega
  · rw [getD_set _ _ _ _ hlt]
    split
    · omega
    · exact Nat.le_succ_of_le (I.nxb j)
  · rcases List.mem_append.1 hy with hy | hy
    · obtain ⟨b1, b2, b3, b4⟩ := I.beg y hy hk
      refine ⟨b1, ?_, b3, b4⟩
      rw [getD_set _ _ _ _ hlt]
      split
      · rename_i e
        rw [e] at b2
        omega
      · exact b2
    · rw [List.mem_singleton.1 hy]
      refine ⟨hinc, ?_, m1, m2⟩
      show C.n ≤ (nx.set C.cl.toNat C.n).getD C.cl.toNat 0
      rw [getD_set _ _ _ _ hlt, if_pos rfl]
      exact Nat.le_refl _
  · have := I.hl; rw [List.length_append]; simp only [List.length_cons, List.length_nil]; omega
  · have := I.opl; rw [List.length_append]; simp only [List.length_cons, List.length_nil]; omega
  · rcases List.mem_append.1 hD with hD | hD
    · exact I.fit D hD
    · rw [List.mem_singleton.1 hD]; exact hf
  · rcases List.mem_append.1 hy with hy | hy
    · exact I.hok y hy
    · rw [List.mem_singleton.1 hy]
      have hb := hf.body
      exact ⟨hf.idok, zrep_ok, hf.seq, by show C.at_ < _; omega, (by decide : (0 : Nat) < 18446744073709551616), by show C.body.length ≤ _; omega, (by decide : (0 : Nat) ≤ 1000000)⟩
theorem MadI.does (I : MadI k nx h m op en) {i : Nat} {C : Cal} {R : Rep} (hi : op[i]? = some C) (hd : doesM m C R = some m') (hr : CandOk C R) :
    MadI (k + 1) nx h m' (op.eraseIdx i) (en ++ [(C, R)]) := by
  obtain ⟨dn, hM⟩ := I.made
  have hC := List.mem_of_getElem? hi
  have hf := I.fit C hC
  obtain ⟨⟨m1, m2, m3, m4, m5, m6, m7⟩, _⟩ := hf.may
  have hk := does_ok (o := { call := C, rep := R, known := true }) I.okm ⟨by show (0 : Int) ≤ C.cl; omega, by show C.cl < 9223372036854775808; omega, hf.seq, by show C.at_ < 18446744073709551616; omega, hr.at_⟩ (M' := m') (by rw [← hd]; rfl)
  refine ⟨⟨_, .does hM hi hd hr.known hr.id⟩, I.nxl, fun j => Nat.le_succ_of_le (I.nxb j), I.beg, Nat.le_succ_of_le I.hl, ?_, ?_, ?_, trim_le I.trim hd, fun D hD => I.fit D (List.mem_of_mem_eraseIdx hD), I.hok, fun p hp => ?_⟩
  · have h1 := List.length_eraseIdx_le op i
    have h2 := I.opl
    omega
  · have := I.enl; rw [List.length_append]; simp only [List.length_cons, List.length_nil]; omega
  · rw [ownM_self hk.cur3]; exact hk
  · rcases List.mem_append.1 hp with hp | hp
    · exact I.eno p hp
    · rw [List.mem_singleton.1 hp]; exact ⟨hf, hr⟩
theorem MadI.ends (I : MadI k nx h m op en) {i : Nat} {C : Cal} {R : Rep} (hi : en[i]? = some (C, R)) :
    MadI (k + 1) nx (h ++ [endN C R]) m op (en.eraseIdx i) := by
  obtain ⟨dn, hM⟩ := I.made
  have hCR := List.mem_of_getElem? hi
  have hf : FitC C := (I.eno _ hCR).1
  have hr : CandOk C R := (I.eno _ hCR).2
  refine ⟨⟨_, .fin hM hi⟩, I.nxl, fun j => Nat.le_succ_of_le (I.nxb j), fun y hy hk => ?_, ?_, Nat.le_succ_of_le I.opl, ?_, I.okm.more (Nat.le_succ k), I.trim, I.fit, fun y hy => ?_, fun p hp => I.eno p (List.mem_of_mem_eraseIdx hp)⟩
  · rcases List.mem_append.1 hy with hy | hy
    · exact I.beg y hy hk
    · rw [List.mem_singleton.1 hy] at hk
      exact absurd hk (by decide : ¬ (2 : Int) = 1)
  · have := I.hl; rw [List.length_append]; simp only [List.length_cons, List.length_nil]; omega
  · have h1 := List.length_eraseIdx_le en i
    have h2 := I.enl
    omega
  · rcases List.mem_append.1 hy with hy | hy
    · exact I.hok y hy
    · rw [List.mem_singleton.1 hy]
      obtain ⟨⟨m1, m2, m3, m4, m5, m6, m7⟩, _⟩ := hf.may
      have hb := hf.body
      have hb2 := hr.body
      have hid : repId R = idOf C := hr.id
      exact ⟨hf.idok, by show IdOk (repId R); rw [hid]; exact hf.idok, hf.seq, by show C.at_ < _; omega, hr.at_, by show C.body.length ≤ _; omega, by show R.body.length ≤ _; omega⟩
/-- What May answers of it. -/
theorem MadI.may (I : MadI k nx h m op en) (hk : k ≤ 150) {b : Bool} {e : Int} (hp : MayPost h b e) : (b = true ∧ e = 0) ∨ (b = false ∧ e = 3) := by
  obtain ⟨dn, hM⟩ := I.made
  obtain ⟨hi, c1, c2, c3⟩ := hM.chans
  have hl := I.hl
  rcases hp with ⟨h1, _⟩ | ⟨_, h1, _⟩ | ⟨_, _, h1⟩
  · exact absurd hi h1
  · omega
  · rcases h1 with ⟨h1, h2, _⟩ | ⟨_, _, h1⟩ | ⟨h1, h2, _⟩
    · exact .inl ⟨h1, h2⟩
    · rw [c1, c2, c3] at h1; simp at h1
    · exact .inr ⟨h1, h2⟩
theorem MadI.is (I : MadI k nx h m op en) : IsH h := by
  obtain ⟨dn, hM⟩ := I.made
  exact hM.chans.1
end
/-- A call that is done, with its reply; its cells. -/
structure DnV where
  c : Cal
  r : Rep
  vc : Value
  vr : Value
def dnL (x : DnV) : List Value := calL x.c x.vc ++ repL x.r x.vr
theorem dnL_len (x : DnV) : (dnL x).length = 18 := rfl
def opV (C : Cal) (v : Value) : DnV := ⟨C, zRep, v, nilV⟩
def zDn : DnV := ⟨zCal, zRep, nilV, nilV⟩
def OwD (B : Nat) (w : World) (v : Value) (L : List DnV) : Prop := w.ownsRow B 50 18 v L.length (L.flatMap dnL)
theorem done_ty : SliceTy Tryz.prog 41 50 18 176 := SliceTy.mk Tryz.underlying41 (z := .agg (dnL zDn).toArray) (by kernel_rfl) rfl
theorem flatD_len (L : List DnV) : (L.flatMap dnL).length = L.length * 18 := by
  induction L with
  | nil => rfl
  | cons x L ih => rw [List.flatMap_cons, List.length_append, ih, dnL_len, List.length_cons]; omega
theorem owd_new {B : Nat} (W : World) (L : List DnV) (hB : B ≤ W.heap.size) (hn : L.length ≤ 1000000) : OwD B (W.alloc (.cells (L.flatMap dnL).toArray 50)) (.slice (some ⟨W.heap.size, 0, none⟩) L.length L.length) L := by
  refine ⟨flatD_len L, .inr ⟨W.heap.size, L.length, (L.flatMap dnL).toArray, rfl, hB, heap_alloc_new W _, Nat.le_refl _, by unfold maxLen; omega, ?_, ?_⟩⟩
  · rw [List.size_toArray, flatD_len]
  · rw [← flatD_len, List.take_length]
theorem dn_one {x : DnV} (h1 : x.vc.oneCell' = true) (h2 : x.vr.oneCell' = true) : ∀ u ∈ dnL x, u.oneCell' = true := by
  intro u hu
  rcases List.mem_append.1 hu with hu | hu
  · exact calL_one h1 u (by simpa using hu)
  · exact repL_one h2 u (by simpa using hu)
theorem dnL_one {L : List DnV} (h : ∀ x ∈ L, x.vc.oneCell' = true ∧ x.vr.oneCell' = true) : ∀ u ∈ L.flatMap dnL, u.oneCell' = true := by
  intro u hu
  obtain ⟨x, hx, hu⟩ := List.mem_flatMap.1 hu
  exact dn_one (h x hx).1 (h x hx).2 u hu
theorem zero_done (w : World) : (zeroValue 50).run Tryz.prog w = .ok (.agg (dnL zDn).toArray) w := (zero_of_info (n := 18) (by kernel_rfl)).1 w
theorem info_done {cs : Array Value} (h : cs.size = 18) : (Tryz.prog.info? 50).map (·.size) = some cs.size := by rw [h]; kernel_rfl
theorem info_doneL {vs : List Value} (h : vs.length = 18) : (Tryz.prog.info? 50).map (·.size) = some vs.length := by rw [h]; kernel_rfl
theorem build_dn (C : Cal) (v : Value) (w : World) : (Instr.build 50 #[(0, .agg (calL C v).toArray)]).run Tryz.prog w = .ok (.agg (dnL (opV C v)).toArray) w := by kernel_rfl
theorem bs1_dn (x : DnV) (w : World) : (Instr.buildSlice 41 1 #[(0, .agg (dnL x).toArray)]).run Tryz.prog w = .ok (.slice (some ⟨w.heap.size, 0, none⟩) 1 1) (w.alloc (.cells ([x].flatMap dnL).toArray 50)) := by kernel_rfl
theorem bs1_nt (x : NtV) (w : World) : (Instr.buildSlice 28 1 #[(0, .agg (ntL x).toArray)]).run Tryz.prog w = .ok (.slice (some ⟨w.heap.size, 0, none⟩) 1 1) (w.alloc (.cells ([x].flatMap ntL).toArray 38)) := by kernel_rfl
section
variable {P : Program} {op : Oper} {a : Act} {w : World} {K : Act → World → Prop} {Q : Exit → Act → World → Prop}
theorem wp_mkD0 (ho : op.op = .buildSlice 41 0 #[]) (h : ∀ g w', OwD w.heap.size w' (.slice (some ⟨g, 0, none⟩) 0 0) [] → Below w.heap.size w w' → K (a.put op.dst (.slice (some ⟨g, 0, none⟩) 0 0)) w') : op.wp Tryz.prog a w K Q := by
  have hb : (Instr.buildSlice 41 0 #[]).run Tryz.prog w = .ok (.slice (some ⟨w.heap.size, 0, none⟩) 0 0) (w.alloc (.cells #[] 50)) := by kernel_rfl
  unfold Oper.wp execOp
  simp only [ho, Sem.run_bind, List.map_toArray, List.map_nil, hb, Result.andThen_ok, Sem.run_pure]
  exact h _ _ (owd_new w [] (Nat.le_refl _) (by decide)) (below_new _ _)
/-- append of calls that are done. -/
theorem wp_appD {s x : Operand} (ho : op.op = .call { callee := .builtin .append, args := #[s, x], argTypes := #[41, 41] }) {B : Nat} {v : Value} {N M : List DnV} {A : Option Addr} {d n : Nat} (hown : OwD B w v N) (hs : a.eval s = v) (h2 : Reads w 18 A n (M.flatMap dnL)) (hM : n = M.length) (hx : a.eval x = .slice A n d)
    (h1 : ∀ y ∈ M, y.vc.oneCell' = true ∧ y.vr.oneCell' = true) (hn : N.length + M.length ≤ 100000) (hB : B ≤ w.heap.size)
    (h : ∀ v' w', OwD B w' v' (N ++ M) → w.grownBy w' v.ownBlock → (v'.ownBlock = v.ownBlock ∨ v'.ownBlock = some w.heap.size) → K (a.put op.dst v') w') : op.wp Tryz.prog a w K Q := by
  subst hM
  refine app_wp done_ty ho hown hs h2 hx (dnL_one h1) (by omega) hB fun v' w' ho' hg' hq' => ?_
  refine h v' w' ?_ hg' hq'
  show World.ownsRow _ _ _ _ _ _ _
  rw [List.length_append, List.flatMap_append]
  exact ho'
theorem wp_appNv {s x : Operand} (ho : op.op = .call { callee := .builtin .append, args := #[s, x], argTypes := #[28, 28] }) {B B2 : Nat} {v : Value} {N M : List NtV} {A : Option Addr} {d n : Nat} (hown : OwH B w v N) (hs : a.eval s = v) (h2 : OwH B2 w (.slice A n d) M) (hM : n = M.length) (hx : a.eval x = .slice A n d)
    (h1 : ∀ y ∈ M, y.vc.oneCell' = true ∧ y.vr.oneCell' = true) (hn : N.length + M.length ≤ 100000) (hB : B ≤ w.heap.size)
    (h : ∀ v' w', OwH B w' v' (N ++ M) → w.grownBy w' v.ownBlock → (v'.ownBlock = v.ownBlock ∨ v'.ownBlock = some w.heap.size) → K (a.put op.dst v') w') : op.wp Tryz.prog a w K Q := by
  subst hM
  refine app_wp note_ty ho hown hs (Reads.of_own h2) hx (ntL_one h1) (by omega) hB fun v' w' ho' hg' hq' => ?_
  refine h v' w' ?_ hg' hq'
  show World.ownsRow _ _ _ _ _ _ _
  rw [List.length_append, List.flatMap_append]
  exact ho'
theorem wp_mkN1 {x : NtV} {p : Operand} (ho : op.op = .buildSlice 28 1 #[(0, p)]) (hx : a.eval p = .agg (ntL x).toArray) (h : ∀ g w', OwH w.heap.size w' (.slice (some ⟨g, 0, none⟩) 1 1) [x] → Below w.heap.size w w' → K (a.put op.dst (.slice (some ⟨g, 0, none⟩) 1 1)) w') : op.wp Tryz.prog a w K Q := wp_mk1 ho hx h
end
section
variable {P : Program} {u : World} {E : Operand → Value} {op : Oper}
theorem exec_build3 {ty : TypeId} {i j k : Nat} {p q r : Operand} (ho : op.op = .build ty #[(i, p), (j, q), (k, r)]) {x y z v : Value} (hx : E p = x) (hy : E q = y) (hz : E r = z) (hb : (Instr.build ty #[(i, x), (j, y), (k, z)]).run P u = .ok v u) :
    (execOp E op).run P u = .ok (.value v) u := by
  unfold execOp
  simp only [ho, Sem.run_bind, List.map_toArray, List.map_cons, List.map_nil, hx, hy, hz, hb, Result.andThen_ok, Sem.run_pure]
end
/-- What holds data: no row that grows. -/
def Dat (B : Nat) (hv ov ev : Value) (b : Nat) : Prop := B ≤ b ∧ hv.ownBlock ≠ some b ∧ ov.ownBlock ≠ some b ∧ ev.ownBlock ≠ some b
/-- All of it, in memory. -/
structure MadM (B : Nat) (w : World) (hv ov ev : Value) (H : List NtV) (O E : List DnV) (m : Mdl) (vl vc : Value) : Prop where
  oh : OwH B w hv H
  oo : OwD B w ov O
  oe : OwD B w ev E
  d1 : ∀ b, hv.ownBlock = some b → ov.ownBlock ≠ some b
  d2 : ∀ b, hv.ownBlock = some b → ev.ownBlock ≠ some b
  d3 : ∀ b, ov.ownBlock = some b → ev.ownBlock ≠ some b
  sh : ∀ x ∈ H, SlB (Dat B hv ov ev) w x.vc x.n.call.body ∧ SlB (Dat B hv ov ev) w x.vr x.n.rep.body
  so : ∀ x ∈ O, SlB (Dat B hv ov ev) w x.vc x.c.body ∧ SlB (Dat B hv ov ev) w x.vr x.r.body
  se : ∀ x ∈ E, SlB (Dat B hv ov ev) w x.vc x.c.body ∧ SlB (Dat B hv ov ev) w x.vr x.r.body
  sm : MdF (Dat B hv ov ev) w vl vc m
theorem Dat.slb {B : Nat} {S : Nat → Prop} {w w' : World} {hv ov ev hv' ov' ev' : Value} {v : Value} {l : List UInt8} (h : SlB (Dat B hv ov ev) w v l) (hm : Mod S w w') (hS : ∀ b, Dat B hv ov ev b → b < w.heap.size → ¬ S b)
    (h1 : ∀ b, hv'.ownBlock = some b → hv.ownBlock = some b ∨ w.heap.size ≤ b) (h2 : ∀ b, ov'.ownBlock = some b → ov.ownBlock = some b ∨ w.heap.size ≤ b) (h3 : ∀ b, ev'.ownBlock = some b → ev.ownBlock = some b ∨ w.heap.size ≤ b) : SlB (Dat B hv' ov' ev') w' v l :=
  ((h.weak (K' := fun b => Dat B hv ov ev b ∧ b < w.heap.size) fun b hb h => ⟨h, hb⟩).mod hm fun b hb => hS b hb.1 hb.2).weak fun b _ hb => by
    obtain ⟨⟨a1, a2, a3, a4⟩, a5⟩ := hb
    exact ⟨a1, fun e => (h1 b e).elim a2 (by omega), fun e => (h2 b e).elim a3 (by omega), fun e => (h3 b e).elim a4 (by omega)⟩
theorem Dat.mdf {B : Nat} {S : Nat → Prop} {w w' : World} {hv ov ev hv' ov' ev' : Value} {vl vc : Value} {m : Mdl} (h : MdF (Dat B hv ov ev) w vl vc m) (hm : Mod S w w') (hS : ∀ b, Dat B hv ov ev b → b < w.heap.size → ¬ S b)
    (h1 : ∀ b, hv'.ownBlock = some b → hv.ownBlock = some b ∨ w.heap.size ≤ b) (h2 : ∀ b, ov'.ownBlock = some b → ov.ownBlock = some b ∨ w.heap.size ≤ b) (h3 : ∀ b, ev'.ownBlock = some b → ev.ownBlock = some b ∨ w.heap.size ≤ b) : MdF (Dat B hv' ov' ev') w' vl vc m :=
  ((h.weak (K' := fun b => Dat B hv ov ev b ∧ b < w.heap.size) fun b hb h => ⟨h, hb⟩).mod hm fun b hb => hS b hb.1 hb.2).weak fun b _ hb => by
    obtain ⟨⟨a1, a2, a3, a4⟩, a5⟩ := hb
    exact ⟨a1, fun e => (h1 b e).elim a2 (by omega), fun e => (h2 b e).elim a3 (by omega), fun e => (h3 b e).elim a4 (by omega)⟩
section
variable {B : Nat} {w w' : World} {hv ov ev : Value} {H : List NtV} {O E : List DnV} {m : Mdl} {vl vc : Value}
theorem MadM.below (h : MadM B w hv ov ev H O E m vl vc) (hb : Below w.heap.size w w') : MadM B w' hv ov ev H O E m vl vc :=
  ⟨own_call h.oh hb, own_call h.oo hb, own_call h.oe hb, h.d1, h.d2, h.d3, fun x hx => ⟨(h.sh x hx).1.below hb, (h.sh x hx).2.below hb⟩, fun x hx => ⟨(h.so x hx).1.below hb, (h.so x hx).2.below hb⟩, fun x hx => ⟨(h.se x hx).1.below hb, (h.se x hx).2.below hb⟩, h.sm.below hb⟩
/-- Behind a write ahead of all of it. -/
theorem MadM.mod {S : Nat → Prop} (h : MadM B w hv ov ev H O E m vl vc) (hm : Mod S w w') (hS : ∀ b, B ≤ b → b < w.heap.size → ¬ S b) : MadM B w' hv ov ev H O E m vl vc := by
  have k1 : ∀ b, Dat B hv ov ev b → b < w.heap.size → ¬ S b := fun b hb => hS b hb.1
  have key : ∀ {v : Value} {l : List UInt8}, SlB (Dat B hv ov ev) w v l → SlB (Dat B hv ov ev) w' v l := fun h => Dat.slb h hm k1 (fun _ e => .inl e) (fun _ e => .inl e) (fun _ e => .inl e)
  exact ⟨own_mod h.oh hm fun b hb => hS b (own_ge h.oh b hb) (h.oh.lt b hb).2, own_mod h.oo hm fun b hb => hS b (own_ge h.oo b hb) (h.oo.lt b hb).2, own_mod h.oe hm fun b hb => hS b (own_ge h.oe b hb) (h.oe.lt b hb).2, h.d1, h.d2, h.d3, fun x hx => ⟨key (h.sh x hx).1, key (h.sh x hx).2⟩, fun x hx => ⟨key (h.so x hx).1, key (h.so x hx).2⟩, fun x hx => ⟨key (h.se x hx).1, key (h.se x hx).2⟩, Dat.mdf h.sm hm k1 (fun _ e => .inl e) (fun _ e => .inl e) (fun _ e => .inl e)⟩
theorem MadM.lt_h (h : MadM B w hv ov ev H O E m vl vc) {b : Nat} (e : hv.ownBlock = some b) : b < w.heap.size := (h.oh.lt b e).2
theorem MadM.lt_o (h : MadM B w hv ov ev H O E m vl vc) {b : Nat} (e : ov.ownBlock = some b) : b < w.heap.size := (h.oo.lt b e).2
theorem MadM.lt_e (h : MadM B w hv ov ev H O E m vl vc) {b : Nat} (e : ev.ownBlock = some b) : b < w.heap.size := (h.oe.lt b e).2
/-- One more note. -/
theorem MadM.note (h : MadM B w hv ov ev H O E m vl vc) {hv' : Value} {x : NtV} (ho : OwH B w' hv' (H ++ [x])) (hg : w.grownBy w' hv.ownBlock) (hq : hv'.ownBlock = hv.ownBlock ∨ hv'.ownBlock = some w.heap.size)
    (hx : SlB (Dat B hv ov ev) w x.vc x.n.call.body ∧ SlB (Dat B hv ov ev) w x.vr x.n.rep.body) : MadM B w' hv' ov ev (H ++ [x]) O E m vl vc := by
  have hm := mod_grownO hg
  have q : ∀ b, hv'.ownBlock = some b → hv.ownBlock = some b ∨ w.heap.size ≤ b := fun b e => by
    rcases hq with h1 | h1
    · exact .inl (h1 ▸ e)
    · rw [h1] at e; injection e with e; exact .inr (by omega)
  have k1 : ∀ b, Dat B hv ov ev b → b < w.heap.size → ¬ hv.ownBlock = some b := fun b hb _ => hb.2.1
  have key : ∀ {v : Value} {l : List UInt8}, SlB (Dat B hv ov ev) w v l → SlB (Dat B hv' ov ev) w' v l := fun h => Dat.slb h hm k1 q (fun _ e => .inl e) (fun _ e => .inl e)
  refine ⟨ho, own_mod h.oo hm fun b hb e => h.d1 b e hb, own_mod h.oe hm fun b hb e => h.d2 b e hb, fun b e e2 => ?_, fun b e e2 => ?_, h.d3, fun y hy => ?_, fun x hx => ⟨key (h.so x hx).1, key (h.so x hx).2⟩, fun x hx => ⟨key (h.se x hx).1, key (h.se x hx).2⟩, Dat.mdf h.sm hm k1 q (fun _ e => .inl e) (fun _ e => .inl e)⟩
  · rcases q b e with h1 | h1
    · exact h.d1 b h1 e2
    · have := h.lt_o e2; omega
  · rcases q b e with h1 | h1
    · exact h.d2 b h1 e2
    · have := h.lt_e e2; omega
  · rcases List.mem_append.1 hy with hy | hy
    · exact ⟨key (h.sh y hy).1, key (h.sh y hy).2⟩
    · rw [List.mem_singleton.1 hy]; exact ⟨key hx.1, key hx.2⟩
/-- One more open call. -/
theorem MadM.opens (h : MadM B w hv ov ev H O E m vl vc) {ov' : Value} {x : DnV} (ho : OwD B w' ov' (O ++ [x])) (hg : w.grownBy w' ov.ownBlock) (hq : ov'.ownBlock = ov.ownBlock ∨ ov'.ownBlock = some w.heap.size)
    (hx : SlB (Dat B hv ov ev) w x.vc x.c.body ∧ SlB (Dat B hv ov ev) w x.vr x.r.body) : MadM B w' hv ov' ev H (O ++ [x]) E m vl vc := by
  have hm := mod_grownO hg
  have q : ∀ b, ov'.ownBlock = some b → ov.ownBlock = some b ∨ w.heap.size ≤ b := fun b e => by
    rcases hq with h1 | h1
    · exact .inl (h1 ▸ e)
    · rw [h1] at e; injection e with e; exact .inr (by omega)
  have k1 : ∀ b, Dat B hv ov ev b → b < w.heap.size → ¬ ov.ownBlock = some b := fun b hb _ => hb.2.2.1
  have key : ∀ {v : Value} {l : List UInt8}, SlB (Dat B hv ov ev) w v l → SlB (Dat B hv ov' ev) w' v l := fun h => Dat.slb h hm k1 (fun _ e => .inl e) q (fun _ e => .inl e)
  refine ⟨own_mod h.oh hm fun b hb e => h.d1 b hb e, ho, own_mod h.oe hm fun b hb e => h.d3 b e hb, fun b e e2 => ?_, h.d2, fun b e e2 => ?_, fun x hx => ⟨key (h.sh x hx).1, key (h.sh x hx).2⟩, fun y hy => ?_, fun x hx => ⟨key (h.se x hx).1, key (h.se x hx).2⟩, Dat.mdf h.sm hm k1 (fun _ e => .inl e) q (fun _ e => .inl e)⟩
  · rcases q b e2 with h1 | h1
    · exact h.d1 b e h1
    · have := h.lt_h e; omega
  · rcases q b e with h1 | h1
    · exact h.d3 b h1 e2
    · have := h.lt_e e2; omega
  · rcases List.mem_append.1 hy with hy | hy
    · exact ⟨key (h.so y hy).1, key (h.so y hy).2⟩
    · rw [List.mem_singleton.1 hy]; exact ⟨key hx.1, key hx.2⟩
/-- One more call that is done. -/
theorem MadM.dones (h : MadM B w hv ov ev H O E m vl vc) {ev' : Value} {x : DnV} (ho : OwD B w' ev' (E ++ [x])) (hg : w.grownBy w' ev.ownBlock) (hq : ev'.ownBlock = ev.ownBlock ∨ ev'.ownBlock = some w.heap.size)
    (hx : SlB (Dat B hv ov ev) w x.vc x.c.body ∧ SlB (Dat B hv ov ev) w x.vr x.r.body) : MadM B w' hv ov ev' H O (E ++ [x]) m vl vc := by
  have hm := mod_grownO hg
  have q : ∀ b, ev'.ownBlock = some b → ev.ownBlock = some b ∨ w.heap.size ≤ b := fun b e => by
    rcases hq with h1 | h1
    · exact .inl (h1 ▸ e)
    · rw [h1] at e; injection e with e; exact .inr (by omega)
  have k1 : ∀ b, Dat B hv ov ev b → b < w.heap.size → ¬ ev.ownBlock = some b := fun b hb _ => hb.2.2.2
  have key : ∀ {v : Value} {l : List UInt8}, SlB (Dat B hv ov ev) w v l → SlB (Dat B hv ov ev') w' v l := fun h => Dat.slb h hm k1 (fun _ e => .inl e) (fun _ e => .inl e) q
  refine ⟨own_mod h.oh hm fun b hb e => h.d2 b hb e, own_mod h.oo hm fun b hb e => h.d3 b hb e, ho, h.d1, fun b e e2 => ?_, fun b e e2 => ?_, fun x hx => ⟨key (h.sh x hx).1, key (h.sh x hx).2⟩, fun x hx => ⟨key (h.so x hx).1, key (h.so x hx).2⟩, fun y hy => ?_, Dat.mdf h.sm hm k1 (fun _ e => .inl e) (fun _ e => .inl e) q⟩
  · rcases q b e2 with h1 | h1
    · exact h.d2 b e h1
    · have := h.lt_h e; omega
  · rcases q b e2 with h1 | h1
    · exact h.d3 b e h1
    · have := h.lt_o e; omega
  · rcases List.mem_append.1 hy with hy | hy
    · exact ⟨key (h.se y hy).1, key (h.se y hy).2⟩
    · rw [List.mem_singleton.1 hy]; exact ⟨key hx.1, key hx.2⟩
/-- The row of open calls, made anew. -/
theorem MadM.opened (h : MadM B w hv ov ev H O E m vl vc) {ov' : Value} {O' : List DnV} (hb : Below w.heap.size w w') (ho : OwD w.heap.size w' ov' O') (hB : B ≤ w.heap.size) (hO : ∀ x ∈ O', x ∈ O) : MadM B w' hv ov' ev H O' E m vl vc := by
  have hm : Mod (fun _ => False) w w' := Mod.below hb (Nat.le_refl _)
  have q : ∀ b, ov'.ownBlock = some b → ov.ownBlock = some b ∨ w.heap.size ≤ b := fun b e => .inr (own_ge ho b e)
  have key : ∀ {v : Value} {l : List UInt8}, SlB (Dat B hv ov ev) w v l → SlB (Dat B hv ov' ev) w' v l := fun h => Dat.slb h hm (fun _ _ _ h => h) (fun _ e => .inl e) q (fun _ e => .inl e)
  refine ⟨own_call h.oh hb, own_lowJ ho hB, own_call h.oe hb, fun b e e2 => ?_, h.d2, fun b e e2 => ?_, fun x hx => ⟨key (h.sh x hx).1, key (h.sh x hx).2⟩, fun x hx => ⟨key (h.so x (hO x hx)).1, key (h.so x (hO x hx)).2⟩, fun x hx => ⟨key (h.se x hx).1, key (h.se x hx).2⟩, Dat.mdf h.sm hm (fun _ _ _ h => h) (fun _ e => .inl e) q (fun _ e => .inl e)⟩
  · have h1 := own_ge ho b e2
    have := h.lt_h e; omega
  · have h1 := own_ge ho b e
    have := h.lt_e e2; omega
/-- The row of calls that are done, made anew. -/
theorem MadM.doned (h : MadM B w hv ov ev H O E m vl vc) {ev' : Value} {E' : List DnV} (hb : Below w.heap.size w w') (ho : OwD w.heap.size w' ev' E') (hB : B ≤ w.heap.size) (hO : ∀ x ∈ E', x ∈ E) : MadM B w' hv ov ev' H O E' m vl vc := by
  have hm : Mod (fun _ => False) w w' := Mod.below hb (Nat.le_refl _)
  have q : ∀ b, ev'.ownBlock = some b → ev.ownBlock = some b ∨ w.heap.size ≤ b := fun b e => .inr (own_ge ho b e)
  have key : ∀ {v : Value} {l : List UInt8}, SlB (Dat B hv ov ev) w v l → SlB (Dat B hv ov ev') w' v l := fun h => Dat.slb h hm (fun _ _ _ h => h) (fun _ e => .inl e) (fun _ e => .inl e) q
  refine ⟨own_call h.oh hb, own_call h.oo hb, own_lowJ ho hB, h.d1, fun b e e2 => ?_, fun b e e2 => ?_, fun x hx => ⟨key (h.sh x hx).1, key (h.sh x hx).2⟩, fun x hx => ⟨key (h.so x hx).1, key (h.so x hx).2⟩, fun x hx => ⟨key (h.se x (hO x hx)).1, key (h.se x (hO x hx)).2⟩, Dat.mdf h.sm hm (fun _ _ _ h => h) (fun _ e => .inl e) (fun _ e => .inl e) q⟩
  · have h1 := own_ge ho b e2
    have := h.lt_h e; omega
  · have h1 := own_ge ho b e2
    have := h.lt_o e; omega
/-- Another model. -/
theorem MadM.model (h : MadM B w hv ov ev H O E m vl vc) {m2 : Mdl} {u1 u2 : Value} (hf : MdF (Dat B hv ov ev) w u1 u2 m2) : MadM B w hv ov ev H O E m2 u1 u2 :=
  ⟨h.oh, h.oo, h.oe, h.d1, h.d2, h.d3, h.sh, h.so, h.se, hf⟩
/-- What is new is data. -/
theorem MadM.dat (h : MadM B w hv ov ev H O E m vl vc) {b : Nat} (hb : w.heap.size ≤ b) (hB : B ≤ w.heap.size) : Dat B hv ov ev b :=
  ⟨by omega, fun e => by have := h.lt_h e; omega, fun e => by have := h.lt_o e; omega, fun e => by have := h.lt_e e; omega⟩
end
end Go.Proofs.YtpjmolnkmlpfeaaGreatDoor
