/- A packet's row. -/
import Derived.Test.YtdckdjkkaangmaaDoorWireD2
import Derived.Test.YtdckdjkkaangmaaDoorRegion
namespace Go.Proofs.YtdckdjkkaangmaaDoor
set_option linter.unusedVariables false
set_option linter.unusedSimpArgs false
set_option maxRecDepth 100000
open Go.RowKit

theorem flat_len : ∀ (xs : List Nat) (_ : ∀ x ∈ xs, x < 18446744073709551616), (xs.flatMap short).length ≤ 10 * xs.length
  | [], _ => by simp
  | x :: xs, h => by
    have h1 := short_len' x (h x (List.mem_cons_self ..))
    have h2 := flat_len xs fun y hy => h y (List.mem_cons_of_mem _ hy)
    rw [List.flatMap_cons, List.length_append, List.length_cons]
    omega
theorem wb_len {P : Pk} (hN : PkN P) {k : Int} (h1 : 1 ≤ k) (h2 : k ≤ 6) : ∀ f ∈ schema k, (wb P.n f).length ≤ 10 := by
  intro f hf
  have hs := schema_sort h1 h2 f hf
  obtain ⟨b, o⟩ := f
  cases b
  · have hi := hN.ints o (hs.elim (fun e => by cases e.1) fun e => e.2)
    exact short_len' _ (show (max (P.n o) 0).toNat < _ by omega)
  · have hi := hN.nums o (hs.elim (fun e => e.2) fun e => by cases e.1)
    exact short_len' _ (show (P.n o).toNat < _ by omega)
theorem wbs_len {n : Nat → Int} : ∀ (fs : List Fd) (_ : ∀ f ∈ fs, (wb n f).length ≤ 10), (fs.flatMap (wb n)).length ≤ 10 * fs.length
  | [], _ => by simp
  | f :: fs, h => by
    have h1 := h f (List.mem_cons_self ..)
    have h2 := wbs_len fs fun y hy => h y (List.mem_cons_of_mem _ hy)
    rw [List.flatMap_cons, List.length_append, List.length_cons]
    omega
theorem schema_len (k : Int) : (schema k).length ≤ 11 := by
  unfold schema
  repeat' split
  all_goals simp
theorem enc_len {w : World} {cs : Array Value} {P : Pk} (h : PkV w cs P) (h1 : 1 ≤ P.n 0) (h2 : P.n 0 ≤ 6) : (enc P).1.length ≤ 12000000 := by
  have e1 := wbs_len _ (wb_len h.pkn h1 h2)
  have e2 := schema_len (P.n 0)
  obtain ⟨_, _, _, _, _, _, e3⟩ := h.txts _ (txt_mem h1 h2).2.1
  obtain ⟨_, _, _, _, _, _, e4⟩ := h.keep
  have e5 := flat_len _ h.keeps
  have e6 := short_len' (P.t (txtO (P.n 0))).length (by omega)
  have e7 := short_len' P.k.length (by omega)
  rw [enc_form, List.length_cons, List.length_append, List.length_append, List.length_append]
  split
  · rw [List.length_append]
    omega
  · rw [List.length_nil]
    omega
theorem own_low {w : World} {base base' : Nat} {e : TypeId} {size n : Nat} {v : Value} {xs : List Value} (h : w.ownsRow base e size v n xs) (hb : base' ≤ base) : w.ownsRow base' e size v n xs :=
  ⟨h.1, h.2.imp id fun ⟨g, cap, cur, e, hg, r⟩ => ⟨g, cap, cur, e, Nat.le_trans hb hg, r⟩⟩
/-- What a packet's row is. -/
def RowPost (B : Nat) (P : Pk) (e : Ending) (w' : World) : Prop :=
  ∃ b A c, e = .returned (.tuple #[.slice A b.length c, .bool (decide (OkP P))]) ∧ w'.ownsRow B 5 1 (.slice A b.length c) b.length (b.map bv) ∧ (OkP P → b = (enc P).1)
theorem PkV.txt_lt {w : World} {cs : Array Value} {P : Pk} (h : PkV w cs P) : ∀ o ∈ txtOffs, ∀ A n c, cs[o]? = some (.slice A n c) → 0 < n → ∀ ad, A = some ad → ad.block < w.heap.size := by
  intro o ho A n c e hn ad ea
  obtain ⟨A', c', e', hb, _⟩ := h.txts o ho
  rw [e] at e'
  injection e' with e'
  injection e' with e1 e2 e3
  subst e1 e2
  obtain ⟨ad', e4, h5, _⟩ := hb.at_ hn
  rw [ea] at e4
  injection e4 with e4
  rw [e4]
  exact h5
theorem run_load_blk {P : Program} {u : World} {g : Nat} {t ty : TypeId} {cs : Array Value} {d : TypeDesc} (hB : Blk u g t cs) (hu : P.underlying ty = some d) (hd : d.isRow = true) (hi : (P.info? ty).map (·.size) = some cs.size) :
    (Instr.loadAt ty (.pointer (some ⟨g, 0, none⟩))).run P u = .ok (.agg cs) u := by
  have h := run_loadAt_mid (P := P) u g 0 ty cs.toList d hB.rangeAll hu hd (by simpa using hi)
  simpa using h
theorem exec_load_blk {P : Program} {u : World} {g : Nat} {t ty : TypeId} {cs : Array Value} {d : TypeDesc} {E : Operand → Value} {op : Oper} {x : Operand} (ho : op.op = .load ty x) (hx : E x = .pointer (some ⟨g, 0, none⟩)) (hB : Blk u g t cs) (hu : P.underlying ty = some d) (hd : d.isRow = true) (hi : (P.info? ty).map (·.size) = some cs.size) :
    (execOp E op).run P u = .ok (.value (.agg cs)) u := by
  have h := run_load_blk hB hu hd hi
  unfold execOp
  simp only [ho, hx, Sem.run_bind, h, Result.andThen_ok, Sem.run_pure]
set_option maxRecDepth 100000 in
set_option maxHeartbeats 16000000 in
theorem row_none1 {w : World} {cs : Array Value} {P : Pk} (hP : PkV w cs P) (h1 : ¬ 1 ≤ P.n 0) :
    Calls Tryd.prog 38 #[.agg cs] w fun e w' => RowPost w.heap.size P e w' ∧ Below w.heap.size w w' := by
  have hOK : decide (OkP P) = false := decide_eq_false fun h => h1 h.1
  have f1 : decide ((1 : Int) ≤ P.n 0) = false := decide_eq_false h1
  have hvw : 0 ≤ IntKind.u8.wrap (P.n 0) ∧ IntKind.u8.wrap (P.n 0) < 256 := by rw [IntKind.wrap_u8]; omega
  have hB1 : Blk (w.alloc (.cells cs 44)) w.heap.size 44 cs := Blk.new _ _ _
  have hP1 := hP.below (below_new w (.cells cs 44))
  have hb1 := below_new w (.cells cs 44)
  have HOK := Lib.hid hOK
  have HP := Lib.hid hP
  clear hOK hP
  go_enter Tryd.func38, Tryd.ntmps38
  go_wp2_with fail
  generalize w.alloc (.cells cs 44) = W1 at *
  generalize hgw : w.heap.size = g at *
  refine (newwriter_any W1).mono ?_
  rintro e w2 ⟨rfl, hw2, hE⟩
  have hs2 : w2.heap.size = W1.heap.size + 1 := by rw [hE]; simp
  have hb2 : Below W1.heap.size W1 w2 := by rw [hE]; exact below_new _ _
  have hg1 : g < W1.heap.size := hB1.lt
  generalize hwb : W1.heap.size = wb at *
  have hB2 := hB1.below hb2 (by omega)
  have hX3 : Blk (w2.alloc (.cells #[.pointer (some ⟨wb, 0, none⟩), .bool false] 132)) w2.heap.size 132 #[.pointer (some ⟨wb, 0, none⟩), .bool false] := Blk.new _ _ _
  have hb3 : Below W1.heap.size W1 (w2.alloc (.cells #[.pointer (some ⟨wb, 0, none⟩), .bool false] 132)) := by rw [hwb]; exact hb2.alloc (by omega) _
  have hw3 := hw2.below (below_new w2 (.cells #[.pointer (some ⟨wb, 0, none⟩), .bool false] 132))
  have hP3 := hP1.below hb3
  have hB3 := hB2.alloc (.cells #[.pointer (some ⟨wb, 0, none⟩), .bool false] 132)
  have hs3 : (w2.alloc (.cells #[.pointer (some ⟨wb, 0, none⟩), .bool false] 132)).heap.size = w2.heap.size + 1 := by simp
  have HB3 := Lib.hid hB3
  have HX3 := Lib.hid hX3
  have HW3 := Lib.hid hw3
  have HP3 := Lib.hid hP3
  have HL : Hid (g < wb ∧ wb + 1 = w2.heap.size) := ⟨hg1, hs2.symm⟩
  have HBT : Hid (Below g w (w2.alloc (.cells #[.pointer (some ⟨wb, 0, none⟩), .bool false] 132))) := (by rw [hwb] at hb3; exact below_call hb1 (by omega) (by rw [hwb]; exact hb3))
  clear hB2 hb2 hw2 hE hB1 hP1 hb1 hs2 hb3 hX3 hw3 hP3 hB3 hg1 hwb
  have HGW := Lib.hid hgw
  clear hgw
  have HS3 := Lib.hid hs3
  clear hs3
  go_wp2_with fail
  generalize w2.alloc (.cells #[.pointer (some ⟨wb, 0, none⟩), .bool false] 132) = W3 at *
  generalize w2.heap.size = xb at *
  have c3 := HX3.out.cell 0
  have c5 := (HB3.out.cell 0).trans HP3.out.kind.1
  simp only [List.getElem?_toArray, List.getElem?_cons_zero] at c3
  have hv0 : 0 ≤ IntKind.u8.wrap (P.n 0) ∧ IntKind.u8.wrap (P.n 0) < 256 := by exact hvw
  refine PF.pf_begin (by kernel_rfl) ?_
  refine PF.pf_take0 0 (by kernel_rfl) rfl (fun _ _ _ _ _ h => h) (by kernel_rfl) (fun u => by go_simp; try rfl) ?_
  try simp only [Act.put, pz0, pz1, pz2]
  refine PF.pf_take0 1 (by kernel_rfl) rfl (fun _ _ _ _ _ h => h) (by kernel_rfl) (fun u => by go_simp; try rfl) ?_
  try simp only [Act.put, pz0, pz1, pz2]
  refine PF.pf_take0 2 (by kernel_rfl) rfl (fun _ _ _ _ _ h => h) (by kernel_rfl) (fun u => by go_simp; try rfl) ?_
  try simp only [Act.put, pz0, pz1, pz2]
  refine PF.pf_take1 3 (PF.Same (xb) _) (by kernel_rfl) rfl (fun _ _ _ _ _ h => h) (by kernel_rfl) (PF.Same.refl _ _) (fun u hu => by have hcu := hu.cell; go_simp; try rfl) ?_
  try simp only [Act.put, pz0, pz1, pz2]
  refine PF.pf_take0 4 (by kernel_rfl) rfl (fun _ _ _ _ _ h => h) (by kernel_rfl) (fun u => by go_simp; try rfl) ?_
  try simp only [Act.put, pz0, pz1, pz2]
  refine PF.pf_take1 5 (PF.Same (g) _) (by kernel_rfl) rfl (fun _ _ _ _ _ h => h) (by kernel_rfl) (PF.Same.refl _ _) (fun u hu => by have hcu := hu.cell; go_simp; try rfl) ?_
  try simp only [Act.put, pz0, pz1, pz2]
  refine PF.pf_take0 6 (by kernel_rfl) rfl (fun _ _ _ _ _ h => h) (by kernel_rfl) (fun u => by go_simp; try rfl) ?_
  try simp only [Act.put, pz0, pz1, pz2]
  refine PF.pf_exec 7 (by kernel_rfl) rfl (by kernel_rfl) (fun K hK => ?_)
  go_simp
  refine (wu8_any wb none [] _ hv0.1 hv0.2 W3.drew (HW3.out.below ((Below.refl _ _).drew)) (by simp)).mono ?_
  rintro e w4 ⟨rfl, row, hw4, hrow, hm4⟩
  refine hK _ _ (by repeat (first | exact PF.owes_nil | refine PF.owes_left ?_ | refine PF.owes_no (by decide +kernel) ?_ | refine PF.owes_yes (by first | rfl | assumption | go_simp) ?_)) ?_
  clear hK K
  try simp only [Act.put, pz0, pz1, pz2]
  refine PF.pf_done (by kernel_rfl) ?_
  have hm4' : Mod (fun b => b = wb) W3 w4 := ((Mod.refl _ _).drew).trans (hm4.mono fun b _ e => e.elim id fun e => by cases e)
  have hs4 := hm4'.size
  have HB4 := Lib.hid (HB3.out.mod hm4' fun e => by have := HL.out.1; omega)
  have HX4 := Lib.hid (HX3.out.mod hm4' fun e => by have := HL.out.2; omega)
  have HBT4 := Lib.hid (HBT.out.trans (hm4'.to_below (by have := HBT.out.size; have := HGW.out; omega) fun b hb e => by have := HL.out.1; have := HGW.out; omega))
  have HR4 : Hid (row = none ∨ ∃ g', W3.heap.size ≤ g' ∧ row = some g') := hrow
  have HW4 := Lib.hid hw4
  have HSZ : Hid ((Tryd.prog.info? 44).map (·.size) = some cs.size) := (by show _ = _; rw [HP.out.size]; exact info_pk)
  have HS4 : Hid (xb + 1 ≤ w4.heap.size) := (by have := HS3.out; show _ ≤ _; omega)
  clear hm4 hm4' hw4 hrow hs4 c3 c5
  go_wp2_with (refine wpList_load_blk rfl rfl rfl HB4.out Tryd.underlying44 rfl HSZ.out ?_; refine Hid.out ?_)
  refine Lib.hid ?_
  go_wp2_with (refine wpList_alloc_blk rfl rfl zero_pk ?_; rintro pb w5 hpb hB5 hb5; refine Hid.out ?_)
  refine Lib.hid ?_
  go_wp2_with (refine wpList_store_blk rfl rfl rfl rfl hB5 (by rw [HP.out.size]; rfl) HSZ.out HP.out.one ?_; rintro w6 hB6 hm6; refine Hid.out ?_)
  refine Lib.hid ?_
  have hs5 := hb5.size
  have hs6 := hm6.size
  have hb6 : Below w4.heap.size w4 w6 := hb5.trans (hm6.to_below hs5 fun b hb e => by omega)
  have HB6 := Lib.hid (HB4.out.below hb6 HB4.out.lt)
  have HX6 := Lib.hid (HX4.out.below hb6 HX4.out.lt)
  have HW6 := Lib.hid (HW4.out.below hb6)
  have HBT6 := Lib.hid (below_call HBT4.out (by have := HBT4.out.size; have := HGW.out; omega) hb6)
  have HQ6 : Hid (pb < w6.heap.size ∧ w4.heap.size ≤ pb) := ⟨hB6.lt, by omega⟩
  clear hB5 hb5 hs5 hs6 hm6 hB6 hpb hb6 HB4 HX4 HBT4 HW4 HB3 HX3 HBT
  have c0 := (HB6.out.cell 0).trans HP.out.kind.1
  go_wp2_with fail
  have c3 := HX6.out.cell 0
  simp only [List.getElem?_toArray, List.getElem?_cons_zero] at c3
  refine PF.pf_begin (by kernel_rfl) ?_
  refine PF.pf_take0 0 (by kernel_rfl) rfl (fun _ _ _ _ _ h => h) (by kernel_rfl) (fun u => by go_simp; try rfl) ?_
  try simp only [Act.put, pz0, pz1, pz2]
  refine PF.pf_take0 1 (by kernel_rfl) rfl (fun _ _ _ _ _ h => h) (by kernel_rfl) (fun u => by go_simp; try rfl) ?_
  try simp only [Act.put, pz0, pz1, pz2]
  refine PF.pf_take0 2 (by kernel_rfl) rfl (fun _ _ _ _ _ h => h) (by kernel_rfl) (fun u => by go_simp; try rfl) ?_
  try simp only [Act.put, pz0, pz1, pz2]
  refine PF.pf_take1 3 (PF.Same (xb) _) (by kernel_rfl) rfl (fun _ _ _ _ _ h => h) (by kernel_rfl) (PF.Same.refl _ _) (fun u hu => by have hcu := hu.cell; go_simp; try rfl) ?_
  try simp only [Act.put, pz0, pz1, pz2]
  refine PF.pf_take0 5 (by kernel_rfl) rfl (fun _ _ _ _ _ h => h) (by kernel_rfl) (fun u => by go_simp; try rfl) ?_
  try simp only [Act.put, pz0, pz1, pz2]
  refine PF.pf_exec 4 (by kernel_rfl) rfl (by kernel_rfl) (fun K hK => ?_)
  go_simp
  refine (wbytes_any wb row _ w6.drew (HW6.out.below ((Below.refl _ _).drew)) (by simp)).mono ?_
  rintro e w8 ⟨⟨A8, c8, rfl, ho8⟩, hb8⟩
  have hb8w : Below w6.heap.size w6 w8 := ((Below.refl _ _).drew).trans hb8
  have HBW8 := Lib.hid hb8w
  have HO8 := Lib.hid ho8
  clear ho8 hb8 hb8w c3
  refine hK _ _ (by repeat (first | exact PF.owes_nil | refine PF.owes_left ?_ | refine PF.owes_no (by decide +kernel) ?_ | refine PF.owes_yes (by first | rfl | assumption | go_simp) ?_)) ?_
  clear hK K
  try simp only [Act.put, pz0, pz1, pz2]
  refine PF.pf_take0 6 (by kernel_rfl) rfl (fun _ _ _ _ _ h => h) (by kernel_rfl) (fun u => by go_simp; try rfl) ?_
  try simp only [Act.put, pz0, pz1, pz2]
  refine PF.pf_skip0 7 (by kernel_rfl) rfl (fun _ _ _ _ _ h => h) (by kernel_rfl) ?_
  try simp only [Act.put, pz0, pz1, pz2]
  refine PF.pf_skip0 8 (by kernel_rfl) rfl (fun _ _ _ _ _ h => h) (by kernel_rfl) ?_
  try simp only [Act.put, pz0, pz1, pz2]
  refine PF.pf_skip0 9 (by kernel_rfl) rfl (fun _ _ _ _ _ h => h) (by kernel_rfl) ?_
  try simp only [Act.put, pz0, pz1, pz2]
  refine PF.pf_skip0 10 (by kernel_rfl) rfl (fun _ _ _ _ _ h => h) (by kernel_rfl) ?_
  try simp only [Act.put, pz0, pz1, pz2]
  refine PF.pf_skip0 11 (by kernel_rfl) rfl (fun _ _ _ _ _ h => h) (by kernel_rfl) ?_
  try simp only [Act.put, pz0, pz1, pz2]
  refine PF.pf_take0 12 (by kernel_rfl) rfl (fun _ _ _ _ _ h => h) (by kernel_rfl) (fun u => by go_simp; try rfl) ?_
  try simp only [Act.put, pz0, pz1, pz2]
  refine PF.pf_take0 13 (by kernel_rfl) rfl (fun _ _ _ _ _ h => h) (by kernel_rfl) (fun u => by go_simp; try rfl) ?_
  try simp only [Act.put, pz0, pz1, pz2]
  refine PF.pf_skip0 14 (by kernel_rfl) rfl (fun _ _ _ _ _ h => h) (by kernel_rfl) ?_
  try simp only [Act.put, pz0, pz1, pz2]
  refine PF.pf_skip0 16 (by kernel_rfl) rfl (fun _ _ _ _ _ h => h) (by kernel_rfl) ?_
  try simp only [Act.put, pz0, pz1, pz2]
  refine PF.pf_skip 15 (by kernel_rfl) rfl (by kernel_rfl) ?_
  try simp only [Act.put, pz0, pz1, pz2]
  refine PF.pf_skip 17 (by kernel_rfl) rfl (by kernel_rfl) ?_
  try simp only [Act.put, pz0, pz1, pz2]
  refine PF.pf_take0 18 (by kernel_rfl) rfl (fun _ _ _ _ _ h => h) (by kernel_rfl) (fun u => by go_simp; try rfl) ?_
  try simp only [Act.put, pz0, pz1, pz2]
  refine PF.pf_take0 19 (by kernel_rfl) rfl (fun _ _ _ _ _ h => h) (by kernel_rfl) (fun u => by go_simp; try rfl) ?_
  try simp only [Act.put, pz0, pz1, pz2]
  refine PF.pf_take0 20 (by kernel_rfl) rfl (fun _ _ _ _ _ h => h) (by kernel_rfl) (fun u => by go_simp; try rfl) ?_
  try simp only [Act.put, pz0, pz1, pz2]
  refine PF.pf_done (by kernel_rfl) ?_
  go_wp2_with fail
  go_ret2
  have hg := HGW.out
  have hBT6 : Below w.heap.size w w6 := by rw [HGW.out]; exact HBT6.out
  have hs6 := hBT6.size
  exact ⟨⟨_, A8, c8, by rw [HOK.out]; rfl, own_low HO8.out (by show _ ≤ w6.heap.size; omega), fun h => absurd h (of_decide_eq_false HOK.out)⟩, below_call hBT6 hs6 HBW8.out⟩
set_option maxRecDepth 100000 in
set_option maxHeartbeats 16000000 in
theorem row_none2 {w : World} {cs : Array Value} {P : Pk} (hP : PkV w cs P) (h1 : 1 ≤ P.n 0) (h2 : ¬ P.n 0 ≤ 6) :
    Calls Tryd.prog 38 #[.agg cs] w fun e w' => RowPost w.heap.size P e w' ∧ Below w.heap.size w w' := by
  have hOK : decide (OkP P) = false := decide_eq_false fun h => h2 h.2.1
  have f1 : decide ((1 : Int) ≤ P.n 0) = true := decide_eq_true h1
  have f2 : decide (P.n 0 ≤ 6) = false := decide_eq_false h2
  have hvw : 0 ≤ IntKind.u8.wrap (P.n 0) ∧ IntKind.u8.wrap (P.n 0) < 256 := by rw [IntKind.wrap_u8]; omega
  have hB1 : Blk (w.alloc (.cells cs 44)) w.heap.size 44 cs := Blk.new _ _ _
  have hP1 := hP.below (below_new w (.cells cs 44))
  have hb1 := below_new w (.cells cs 44)
  have HOK := Lib.hid hOK
  have HP := Lib.hid hP
  clear hOK hP
  go_enter Tryd.func38, Tryd.ntmps38
  go_wp2_with fail
  generalize w.alloc (.cells cs 44) = W1 at *
  generalize hgw : w.heap.size = g at *
  refine (newwriter_any W1).mono ?_
  rintro e w2 ⟨rfl, hw2, hE⟩
  have hs2 : w2.heap.size = W1.heap.size + 1 := by rw [hE]; simp
  have hb2 : Below W1.heap.size W1 w2 := by rw [hE]; exact below_new _ _
  have hg1 : g < W1.heap.size := hB1.lt
  generalize hwb : W1.heap.size = wb at *
  have hB2 := hB1.below hb2 (by omega)
  have hX3 : Blk (w2.alloc (.cells #[.pointer (some ⟨wb, 0, none⟩), .bool false] 132)) w2.heap.size 132 #[.pointer (some ⟨wb, 0, none⟩), .bool false] := Blk.new _ _ _
  have hb3 : Below W1.heap.size W1 (w2.alloc (.cells #[.pointer (some ⟨wb, 0, none⟩), .bool false] 132)) := by rw [hwb]; exact hb2.alloc (by omega) _
  have hw3 := hw2.below (below_new w2 (.cells #[.pointer (some ⟨wb, 0, none⟩), .bool false] 132))
  have hP3 := hP1.below hb3
  have hB3 := hB2.alloc (.cells #[.pointer (some ⟨wb, 0, none⟩), .bool false] 132)
  have hs3 : (w2.alloc (.cells #[.pointer (some ⟨wb, 0, none⟩), .bool false] 132)).heap.size = w2.heap.size + 1 := by simp
  have HB3 := Lib.hid hB3
  have HX3 := Lib.hid hX3
  have HW3 := Lib.hid hw3
  have HP3 := Lib.hid hP3
  have HL : Hid (g < wb ∧ wb + 1 = w2.heap.size) := ⟨hg1, hs2.symm⟩
  have HBT : Hid (Below g w (w2.alloc (.cells #[.pointer (some ⟨wb, 0, none⟩), .bool false] 132))) := (by rw [hwb] at hb3; exact below_call hb1 (by omega) (by rw [hwb]; exact hb3))
  clear hB2 hb2 hw2 hE hB1 hP1 hb1 hs2 hb3 hX3 hw3 hP3 hB3 hg1 hwb
  have HGW := Lib.hid hgw
  clear hgw
  have HS3 := Lib.hid hs3
  clear hs3
  go_wp2_with fail
  generalize w2.alloc (.cells #[.pointer (some ⟨wb, 0, none⟩), .bool false] 132) = W3 at *
  generalize w2.heap.size = xb at *
  have c3 := HX3.out.cell 0
  have c5 := (HB3.out.cell 0).trans HP3.out.kind.1
  simp only [List.getElem?_toArray, List.getElem?_cons_zero] at c3
  have hv0 : 0 ≤ IntKind.u8.wrap (P.n 0) ∧ IntKind.u8.wrap (P.n 0) < 256 := by exact hvw
  refine PF.pf_begin (by kernel_rfl) ?_
  refine PF.pf_take0 0 (by kernel_rfl) rfl (fun _ _ _ _ _ h => h) (by kernel_rfl) (fun u => by go_simp; try rfl) ?_
  try simp only [Act.put, pz0, pz1, pz2]
  refine PF.pf_take0 1 (by kernel_rfl) rfl (fun _ _ _ _ _ h => h) (by kernel_rfl) (fun u => by go_simp; try rfl) ?_
  try simp only [Act.put, pz0, pz1, pz2]
  refine PF.pf_take0 2 (by kernel_rfl) rfl (fun _ _ _ _ _ h => h) (by kernel_rfl) (fun u => by go_simp; try rfl) ?_
  try simp only [Act.put, pz0, pz1, pz2]
  refine PF.pf_take1 3 (PF.Same (xb) _) (by kernel_rfl) rfl (fun _ _ _ _ _ h => h) (by kernel_rfl) (PF.Same.refl _ _) (fun u hu => by have hcu := hu.cell; go_simp; try rfl) ?_
  try simp only [Act.put, pz0, pz1, pz2]
  refine PF.pf_take0 4 (by kernel_rfl) rfl (fun _ _ _ _ _ h => h) (by kernel_rfl) (fun u => by go_simp; try rfl) ?_
  try simp only [Act.put, pz0, pz1, pz2]
  refine PF.pf_take1 5 (PF.Same (g) _) (by kernel_rfl) rfl (fun _ _ _ _ _ h => h) (by kernel_rfl) (PF.Same.refl _ _) (fun u hu => by have hcu := hu.cell; go_simp; try rfl) ?_
  try simp only [Act.put, pz0, pz1, pz2]
  refine PF.pf_take0 6 (by kernel_rfl) rfl (fun _ _ _ _ _ h => h) (by kernel_rfl) (fun u => by go_simp; try rfl) ?_
  try simp only [Act.put, pz0, pz1, pz2]
  refine PF.pf_exec 7 (by kernel_rfl) rfl (by kernel_rfl) (fun K hK => ?_)
  go_simp
  refine (wu8_any wb none [] _ hv0.1 hv0.2 W3.drew (HW3.out.below ((Below.refl _ _).drew)) (by simp)).mono ?_
  rintro e w4 ⟨rfl, row, hw4, hrow, hm4⟩
  refine hK _ _ (by repeat (first | exact PF.owes_nil | refine PF.owes_left ?_ | refine PF.owes_no (by decide +kernel) ?_ | refine PF.owes_yes (by first | rfl | assumption | go_simp) ?_)) ?_
  clear hK K
  try simp only [Act.put, pz0, pz1, pz2]
  refine PF.pf_done (by kernel_rfl) ?_
  have hm4' : Mod (fun b => b = wb) W3 w4 := ((Mod.refl _ _).drew).trans (hm4.mono fun b _ e => e.elim id fun e => by cases e)
  have hs4 := hm4'.size
  have HB4 := Lib.hid (HB3.out.mod hm4' fun e => by have := HL.out.1; omega)
  have HX4 := Lib.hid (HX3.out.mod hm4' fun e => by have := HL.out.2; omega)
  have HBT4 := Lib.hid (HBT.out.trans (hm4'.to_below (by have := HBT.out.size; have := HGW.out; omega) fun b hb e => by have := HL.out.1; have := HGW.out; omega))
  have HR4 : Hid (row = none ∨ ∃ g', W3.heap.size ≤ g' ∧ row = some g') := hrow
  have HW4 := Lib.hid hw4
  have HSZ : Hid ((Tryd.prog.info? 44).map (·.size) = some cs.size) := (by show _ = _; rw [HP.out.size]; exact info_pk)
  have HS4 : Hid (xb + 1 ≤ w4.heap.size) := (by have := HS3.out; show _ ≤ _; omega)
  clear hm4 hm4' hw4 hrow hs4 c3 c5
  go_wp2_with (refine wpList_load_blk rfl rfl rfl HB4.out Tryd.underlying44 rfl HSZ.out ?_; refine Hid.out ?_)
  refine Lib.hid ?_
  go_wp2_with (refine wpList_alloc_blk rfl rfl zero_pk ?_; rintro pb w5 hpb hB5 hb5; refine Hid.out ?_)
  refine Lib.hid ?_
  go_wp2_with (refine wpList_store_blk rfl rfl rfl rfl hB5 (by rw [HP.out.size]; rfl) HSZ.out HP.out.one ?_; rintro w6 hB6 hm6; refine Hid.out ?_)
  refine Lib.hid ?_
  have hs5 := hb5.size
  have hs6 := hm6.size
  have hb6 : Below w4.heap.size w4 w6 := hb5.trans (hm6.to_below hs5 fun b hb e => by omega)
  have HB6 := Lib.hid (HB4.out.below hb6 HB4.out.lt)
  have HX6 := Lib.hid (HX4.out.below hb6 HX4.out.lt)
  have HW6 := Lib.hid (HW4.out.below hb6)
  have HBT6 := Lib.hid (below_call HBT4.out (by have := HBT4.out.size; have := HGW.out; omega) hb6)
  have HQ6 : Hid (pb < w6.heap.size ∧ w4.heap.size ≤ pb) := ⟨hB6.lt, by omega⟩
  clear hB5 hb5 hs5 hs6 hm6 hB6 hpb hb6 HB4 HX4 HBT4 HW4 HB3 HX3 HBT
  have c0 := (HB6.out.cell 0).trans HP.out.kind.1
  go_wp2_with fail
  have c3 := HX6.out.cell 0
  simp only [List.getElem?_toArray, List.getElem?_cons_zero] at c3
  refine PF.pf_begin (by kernel_rfl) ?_
  refine PF.pf_take0 0 (by kernel_rfl) rfl (fun _ _ _ _ _ h => h) (by kernel_rfl) (fun u => by go_simp; try rfl) ?_
  try simp only [Act.put, pz0, pz1, pz2]
  refine PF.pf_take0 1 (by kernel_rfl) rfl (fun _ _ _ _ _ h => h) (by kernel_rfl) (fun u => by go_simp; try rfl) ?_
  try simp only [Act.put, pz0, pz1, pz2]
  refine PF.pf_take0 2 (by kernel_rfl) rfl (fun _ _ _ _ _ h => h) (by kernel_rfl) (fun u => by go_simp; try rfl) ?_
  try simp only [Act.put, pz0, pz1, pz2]
  refine PF.pf_take1 3 (PF.Same (xb) _) (by kernel_rfl) rfl (fun _ _ _ _ _ h => h) (by kernel_rfl) (PF.Same.refl _ _) (fun u hu => by have hcu := hu.cell; go_simp; try rfl) ?_
  try simp only [Act.put, pz0, pz1, pz2]
  refine PF.pf_take0 5 (by kernel_rfl) rfl (fun _ _ _ _ _ h => h) (by kernel_rfl) (fun u => by go_simp; try rfl) ?_
  try simp only [Act.put, pz0, pz1, pz2]
  refine PF.pf_exec 4 (by kernel_rfl) rfl (by kernel_rfl) (fun K hK => ?_)
  go_simp
  refine (wbytes_any wb row _ w6.drew (HW6.out.below ((Below.refl _ _).drew)) (by simp)).mono ?_
  rintro e w8 ⟨⟨A8, c8, rfl, ho8⟩, hb8⟩
  have hb8w : Below w6.heap.size w6 w8 := ((Below.refl _ _).drew).trans hb8
  have HBW8 := Lib.hid hb8w
  have HO8 := Lib.hid ho8
  clear ho8 hb8 hb8w c3
  refine hK _ _ (by repeat (first | exact PF.owes_nil | refine PF.owes_left ?_ | refine PF.owes_no (by decide +kernel) ?_ | refine PF.owes_yes (by first | rfl | assumption | go_simp) ?_)) ?_
  clear hK K
  try simp only [Act.put, pz0, pz1, pz2]
  refine PF.pf_take0 6 (by kernel_rfl) rfl (fun _ _ _ _ _ h => h) (by kernel_rfl) (fun u => by go_simp; try rfl) ?_
  try simp only [Act.put, pz0, pz1, pz2]
  refine PF.pf_skip0 7 (by kernel_rfl) rfl (fun _ _ _ _ _ h => h) (by kernel_rfl) ?_
  try simp only [Act.put, pz0, pz1, pz2]
  refine PF.pf_skip0 8 (by kernel_rfl) rfl (fun _ _ _ _ _ h => h) (by kernel_rfl) ?_
  try simp only [Act.put, pz0, pz1, pz2]
  refine PF.pf_skip0 9 (by kernel_rfl) rfl (fun _ _ _ _ _ h => h) (by kernel_rfl) ?_
  try simp only [Act.put, pz0, pz1, pz2]
  refine PF.pf_skip0 10 (by kernel_rfl) rfl (fun _ _ _ _ _ h => h) (by kernel_rfl) ?_
  try simp only [Act.put, pz0, pz1, pz2]
  refine PF.pf_skip0 11 (by kernel_rfl) rfl (fun _ _ _ _ _ h => h) (by kernel_rfl) ?_
  try simp only [Act.put, pz0, pz1, pz2]
  refine PF.pf_take0 12 (by kernel_rfl) rfl (fun _ _ _ _ _ h => h) (by kernel_rfl) (fun u => by go_simp; try rfl) ?_
  try simp only [Act.put, pz0, pz1, pz2]
  refine PF.pf_take0 13 (by kernel_rfl) rfl (fun _ _ _ _ _ h => h) (by kernel_rfl) (fun u => by go_simp; try rfl) ?_
  try simp only [Act.put, pz0, pz1, pz2]
  refine PF.pf_skip0 14 (by kernel_rfl) rfl (fun _ _ _ _ _ h => h) (by kernel_rfl) ?_
  try simp only [Act.put, pz0, pz1, pz2]
  refine PF.pf_skip0 16 (by kernel_rfl) rfl (fun _ _ _ _ _ h => h) (by kernel_rfl) ?_
  try simp only [Act.put, pz0, pz1, pz2]
  refine PF.pf_skip 15 (by kernel_rfl) rfl (by kernel_rfl) ?_
  try simp only [Act.put, pz0, pz1, pz2]
  refine PF.pf_skip 17 (by kernel_rfl) rfl (by kernel_rfl) ?_
  try simp only [Act.put, pz0, pz1, pz2]
  refine PF.pf_take0 18 (by kernel_rfl) rfl (fun _ _ _ _ _ h => h) (by kernel_rfl) (fun u => by go_simp; try rfl) ?_
  try simp only [Act.put, pz0, pz1, pz2]
  refine PF.pf_take0 19 (by kernel_rfl) rfl (fun _ _ _ _ _ h => h) (by kernel_rfl) (fun u => by go_simp; try rfl) ?_
  try simp only [Act.put, pz0, pz1, pz2]
  refine PF.pf_take0 20 (by kernel_rfl) rfl (fun _ _ _ _ _ h => h) (by kernel_rfl) (fun u => by go_simp; try rfl) ?_
  try simp only [Act.put, pz0, pz1, pz2]
  refine PF.pf_done (by kernel_rfl) ?_
  go_wp2_with fail
  go_ret2
  have hg := HGW.out
  have hBT6 : Below w.heap.size w w6 := by rw [HGW.out]; exact HBT6.out
  have hs6 := hBT6.size
  exact ⟨⟨_, A8, c8, by rw [HOK.out]; rfl, own_low HO8.out (by show _ ≤ w6.heap.size; omega), fun h => absurd h (of_decide_eq_false HOK.out)⟩, below_call hBT6 hs6 HBW8.out⟩
set_option maxRecDepth 100000 in
set_option maxHeartbeats 16000000 in
theorem row_bad {w : World} {cs : Array Value} {P : Pk} (hP : PkV w cs P) (h1 : 1 ≤ P.n 0) (h2 : P.n 0 ≤ 6) (hbad : (enc P).2 = true) :
    Calls Tryd.prog 38 #[.agg cs] w fun e w' => RowPost w.heap.size P e w' ∧ Below w.heap.size w w' := by
  have hOK : decide (OkP P) = false := decide_eq_false fun h => by rw [h.2.2.1] at hbad; cases hbad
  have f1 : decide ((1 : Int) ≤ P.n 0) = true := decide_eq_true h1
  have f2 : decide (P.n 0 ≤ 6) = true := decide_eq_true h2
  have hvw : 0 ≤ IntKind.u8.wrap (P.n 0) ∧ IntKind.u8.wrap (P.n 0) < 256 := by rw [IntKind.wrap_u8]; omega
  have hvk : IntKind.u8.wrap (P.n 0) = P.n 0 := by rw [IntKind.wrap_u8]; omega
  have hB1 : Blk (w.alloc (.cells cs 44)) w.heap.size 44 cs := Blk.new _ _ _
  have hP1 := hP.below (below_new w (.cells cs 44))
  have hb1 := below_new w (.cells cs 44)
  have HOK := Lib.hid hOK
  have HP := Lib.hid hP
  clear hOK hP
  go_enter Tryd.func38, Tryd.ntmps38
  go_wp2_with fail
  generalize w.alloc (.cells cs 44) = W1 at *
  generalize hgw : w.heap.size = g at *
  refine (newwriter_any W1).mono ?_
  rintro e w2 ⟨rfl, hw2, hE⟩
  have hs2 : w2.heap.size = W1.heap.size + 1 := by rw [hE]; simp
  have hb2 : Below W1.heap.size W1 w2 := by rw [hE]; exact below_new _ _
  have hg1 : g < W1.heap.size := hB1.lt
  generalize hwb : W1.heap.size = wb at *
  have hB2 := hB1.below hb2 (by omega)
  have hX3 : Blk (w2.alloc (.cells #[.pointer (some ⟨wb, 0, none⟩), .bool false] 132)) w2.heap.size 132 #[.pointer (some ⟨wb, 0, none⟩), .bool false] := Blk.new _ _ _
  have hb3 : Below W1.heap.size W1 (w2.alloc (.cells #[.pointer (some ⟨wb, 0, none⟩), .bool false] 132)) := by rw [hwb]; exact hb2.alloc (by omega) _
  have hw3 := hw2.below (below_new w2 (.cells #[.pointer (some ⟨wb, 0, none⟩), .bool false] 132))
  have hP3 := hP1.below hb3
  have hB3 := hB2.alloc (.cells #[.pointer (some ⟨wb, 0, none⟩), .bool false] 132)
  have hs3 : (w2.alloc (.cells #[.pointer (some ⟨wb, 0, none⟩), .bool false] 132)).heap.size = w2.heap.size + 1 := by simp
  have HB3 := Lib.hid hB3
  have HX3 := Lib.hid hX3
  have HW3 := Lib.hid hw3
  have HP3 := Lib.hid hP3
  have HL : Hid (g < wb ∧ wb + 1 = w2.heap.size) := ⟨hg1, hs2.symm⟩
  have HBT : Hid (Below g w (w2.alloc (.cells #[.pointer (some ⟨wb, 0, none⟩), .bool false] 132))) := (by rw [hwb] at hb3; exact below_call hb1 (by omega) (by rw [hwb]; exact hb3))
  clear hB2 hb2 hw2 hE hB1 hP1 hb1 hs2 hb3 hX3 hw3 hP3 hB3 hg1 hwb
  have HGW := Lib.hid hgw
  clear hgw
  have HS3 := Lib.hid hs3
  clear hs3
  go_wp2_with fail
  generalize w2.alloc (.cells #[.pointer (some ⟨wb, 0, none⟩), .bool false] 132) = W3 at *
  generalize w2.heap.size = xb at *
  have c3 := HX3.out.cell 0
  have c5 := (HB3.out.cell 0).trans HP3.out.kind.1
  simp only [List.getElem?_toArray, List.getElem?_cons_zero] at c3
  have hv0 : 0 ≤ P.n 0 ∧ P.n 0 < 256 := by constructor <;> omega
  refine PF.pf_begin (by kernel_rfl) ?_
  refine PF.pf_take0 0 (by kernel_rfl) rfl (fun _ _ _ _ _ h => h) (by kernel_rfl) (fun u => by go_simp; try rfl) ?_
  try simp only [Act.put, pz0, pz1, pz2]
  refine PF.pf_take0 1 (by kernel_rfl) rfl (fun _ _ _ _ _ h => h) (by kernel_rfl) (fun u => by go_simp; try rfl) ?_
  try simp only [Act.put, pz0, pz1, pz2]
  refine PF.pf_take0 2 (by kernel_rfl) rfl (fun _ _ _ _ _ h => h) (by kernel_rfl) (fun u => by go_simp; try rfl) ?_
  try simp only [Act.put, pz0, pz1, pz2]
  refine PF.pf_take1 3 (PF.Same (xb) _) (by kernel_rfl) rfl (fun _ _ _ _ _ h => h) (by kernel_rfl) (PF.Same.refl _ _) (fun u hu => by have hcu := hu.cell; go_simp; try rfl) ?_
  try simp only [Act.put, pz0, pz1, pz2]
  refine PF.pf_take0 4 (by kernel_rfl) rfl (fun _ _ _ _ _ h => h) (by kernel_rfl) (fun u => by go_simp; try rfl) ?_
  try simp only [Act.put, pz0, pz1, pz2]
  refine PF.pf_take1 5 (PF.Same (g) _) (by kernel_rfl) rfl (fun _ _ _ _ _ h => h) (by kernel_rfl) (PF.Same.refl _ _) (fun u hu => by have hcu := hu.cell; go_simp; try rfl) ?_
  try simp only [Act.put, pz0, pz1, pz2]
  refine PF.pf_take0 6 (by kernel_rfl) rfl (fun _ _ _ _ _ h => h) (by kernel_rfl) (fun u => by go_simp; try rfl) ?_
  try simp only [Act.put, pz0, pz1, pz2]
  refine PF.pf_exec 7 (by kernel_rfl) rfl (by kernel_rfl) (fun K hK => ?_)
  go_simp
  refine (wu8_any wb none [] _ hv0.1 hv0.2 W3.drew (HW3.out.below ((Below.refl _ _).drew)) (by simp)).mono ?_
  rintro e w4 ⟨rfl, row, hw4, hrow, hm4⟩
  refine hK _ _ (by repeat (first | exact PF.owes_nil | refine PF.owes_left ?_ | refine PF.owes_no (by decide +kernel) ?_ | refine PF.owes_yes (by first | rfl | assumption | go_simp) ?_)) ?_
  clear hK K
  try simp only [Act.put, pz0, pz1, pz2]
  refine PF.pf_done (by kernel_rfl) ?_
  have hm4' : Mod (fun b => b = wb) W3 w4 := ((Mod.refl _ _).drew).trans (hm4.mono fun b _ e => e.elim id fun e => by cases e)
  have hs4 := hm4'.size
  have HB4 := Lib.hid (HB3.out.mod hm4' fun e => by have := HL.out.1; omega)
  have HX4 := Lib.hid (HX3.out.mod hm4' fun e => by have := HL.out.2; omega)
  have HBT4 := Lib.hid (HBT.out.trans (hm4'.to_below (by have := HBT.out.size; have := HGW.out; omega) fun b hb e => by have := HL.out.1; have := HGW.out; omega))
  have HR4 : Hid (row = none ∨ ∃ g', W3.heap.size ≤ g' ∧ row = some g') := hrow
  have HW4 := Lib.hid hw4
  have HSZ : Hid ((Tryd.prog.info? 44).map (·.size) = some cs.size) := (by show _ = _; rw [HP.out.size]; exact info_pk)
  have HS4 : Hid (xb + 1 ≤ w4.heap.size) := (by have := HS3.out; show _ ≤ _; omega)
  clear hm4 hm4' hw4 hrow hs4 c3 c5
  go_wp2_with (refine wpList_load_blk rfl rfl rfl HB4.out Tryd.underlying44 rfl HSZ.out ?_; refine Hid.out ?_)
  refine Lib.hid ?_
  go_wp2_with (refine wpList_alloc_blk rfl rfl zero_pk ?_; rintro pb w5 hpb hB5 hb5; refine Hid.out ?_)
  refine Lib.hid ?_
  go_wp2_with (refine wpList_store_blk rfl rfl rfl rfl hB5 (by rw [HP.out.size]; rfl) HSZ.out HP.out.one ?_; rintro w6 hB6 hm6; refine Hid.out ?_)
  refine Lib.hid ?_
  have hs5 := hb5.size
  have hs6 := hm6.size
  have hb6 : Below w4.heap.size w4 w6 := hb5.trans (hm6.to_below hs5 fun b hb e => by omega)
  have HB6 := Lib.hid (HB4.out.below hb6 HB4.out.lt)
  have HX6 := Lib.hid (HX4.out.below hb6 HX4.out.lt)
  have HW6 := Lib.hid (HW4.out.below hb6)
  have HBT6 := Lib.hid (below_call HBT4.out (by have := HBT4.out.size; have := HGW.out; omega) hb6)
  have HQ6 : Hid (pb < w6.heap.size ∧ w4.heap.size ≤ pb) := ⟨hB6.lt, by omega⟩
  have HP6 : Hid (PkV w6 cs P) := HP.out.below (by rw [HGW.out]; exact HBT6.out)
  have HWS : Hid (WSt w6 (fun b => b ≤ g ∨ b = pb) xb wb pb 44 cs (enc0 P)) := by
    have l1 := HL.out
    have l2 := HS4.out
    have l3 := HQ6.out
    have l4 := HS3.out
    refine ⟨⟨row, HW6.out, fun e => ?_, fun b hb => ⟨?_, fun e => ?_⟩⟩, HX6.out, hB6, by omega, .inr rfl, fun b hb => ?_⟩
    · rcases HR4.out with h | ⟨g', h, h'⟩
      · rw [h] at e; cases e
      · rw [h'] at e; injection e with e; omega
    · rcases hb with hb | hb <;> omega
    · have hlt := HW4.out.row_lt b e.symm
      rcases HR4.out with h | ⟨g', h, h'⟩
      · rw [h] at e; cases e
      · rw [h'] at e; injection e with e; rcases hb with hb | hb <;> omega
    · rcases hb with hb | hb <;> constructor <;> omega
  have HF := Lib.hid (wfields_all HWS.out HP6.out h1 h2 (fun o ho A n c e hn ad ea => .inl (by have := HP.out.txt_lt o ho A n c e hn ad ea; have := HGW.out; omega)) (fun A n c e ad ea => .inl (by have := HP.out.kb A n c e ad ea; have := HGW.out; omega)))
  clear hB5 hb5 hs5 hs6 hm6 hB6 hpb hb6 HB4 HX4 HBT4 HW4 HB3 HX3 HBT
  have c0 := (HB6.out.cell 0).trans HP.out.kind.1
  go_wp2_with fail
  refine HF.out.mono ?_
  rintro e w7 ⟨rfl, hws, hm7⟩
  have hg6 := HB6.out.lt
  have HB7 := Lib.hid (HB6.out.mod hm7 fun e => e (.inl (Nat.le_refl _)))
  have HX7 := Lib.hid hws.me
  obtain ⟨row7, hw7, _, _⟩ := hws.wr
  have HW7 := Lib.hid hw7
  have HBT7 := Lib.hid (HBT6.out.trans (hm7.to_below (by have := HBT6.out.size; have := HGW.out; omega) fun b hb e => e (.inl (by have := HGW.out; omega))))
  have HP7 : Hid (PkV w7 cs P) := HP.out.below (by rw [HGW.out]; exact HBT7.out)
  have HLE : Hid ((enc P).1.length ≤ 12000000) := enc_len HP.out h1 h2
  clear hws hm7 hg6 hw7 c0
  go_wp2_with fail
  have c3 := HX7.out.cell 0
  have c10 := HX7.out.cell 1
  simp only [List.getElem?_toArray, List.getElem?_cons_zero, List.getElem?_cons_succ] at c3 c10
  rw [hbad] at c10
  refine PF.pf_begin (by kernel_rfl) ?_
  refine PF.pf_take0 0 (by kernel_rfl) rfl (fun _ _ _ _ _ h => h) (by kernel_rfl) (fun u => by go_simp; try rfl) ?_
  try simp only [Act.put, pz0, pz1, pz2]
  refine PF.pf_take0 1 (by kernel_rfl) rfl (fun _ _ _ _ _ h => h) (by kernel_rfl) (fun u => by go_simp; try rfl) ?_
  try simp only [Act.put, pz0, pz1, pz2]
  refine PF.pf_take0 2 (by kernel_rfl) rfl (fun _ _ _ _ _ h => h) (by kernel_rfl) (fun u => by go_simp; try rfl) ?_
  try simp only [Act.put, pz0, pz1, pz2]
  refine PF.pf_take1 3 (PF.Same (xb) _) (by kernel_rfl) rfl (fun _ _ _ _ _ h => h) (by kernel_rfl) (PF.Same.refl _ _) (fun u hu => by have hcu := hu.cell; go_simp; try rfl) ?_
  try simp only [Act.put, pz0, pz1, pz2]
  refine PF.pf_take0 5 (by kernel_rfl) rfl (fun _ _ _ _ _ h => h) (by kernel_rfl) (fun u => by go_simp; try rfl) ?_
  try simp only [Act.put, pz0, pz1, pz2]
  refine PF.pf_exec 4 (by kernel_rfl) rfl (by kernel_rfl) (fun K hK => ?_)
  go_simp
  refine (wbytes_any wb row7 _ w7.drew (HW7.out.below ((Below.refl _ _).drew)) (Nat.le_trans HLE.out (by decide))).mono ?_
  rintro e w8 ⟨⟨A8, c8, rfl, ho8⟩, hb8⟩
  have hb8w : Below w7.heap.size w7 w8 := ((Below.refl _ _).drew).trans hb8
  have HB8 := Lib.hid (HB7.out.below hb8w HB7.out.lt)
  have hx8 := (HX7.out.below hb8w HX7.out.lt)
  have HP8 : Hid (PkV w8 cs P) := HP7.out.below hb8w
  have HBW8 := Lib.hid hb8w
  have HO8 := Lib.hid ho8
  have HX8 := Lib.hid hx8
  have d10 := hx8.cell 1
  simp only [List.getElem?_toArray, List.getElem?_cons_zero, List.getElem?_cons_succ] at d10
  rw [hbad] at d10
  clear ho8 hb8 hb8w hx8 c3 c10
  refine hK _ _ (by repeat (first | exact PF.owes_nil | refine PF.owes_left ?_ | refine PF.owes_no (by decide +kernel) ?_ | refine PF.owes_yes (by first | exact HX8.out.trans HX7.out.symm | rfl | assumption) ?_)) ?_
  clear hK K
  try simp only [Act.put, pz0, pz1, pz2]
  refine PF.pf_take0 6 (by kernel_rfl) rfl (fun _ _ _ _ _ h => h) (by kernel_rfl) (fun u => by go_simp; try rfl) ?_
  try simp only [Act.put, pz0, pz1, pz2]
  refine PF.pf_take0 7 (by kernel_rfl) rfl (fun _ _ _ _ _ h => h) (by kernel_rfl) (fun u => by go_simp; try rfl) ?_
  try simp only [Act.put, pz0, pz1, pz2]
  refine PF.pf_take0 8 (by kernel_rfl) rfl (fun _ _ _ _ _ h => h) (by kernel_rfl) (fun u => by go_simp; try rfl) ?_
  try simp only [Act.put, pz0, pz1, pz2]
  refine PF.pf_take0 9 (by kernel_rfl) rfl (fun _ _ _ _ _ h => h) (by kernel_rfl) (fun u => by go_simp; try rfl) ?_
  try simp only [Act.put, pz0, pz1, pz2]
  refine PF.pf_take1 10 (PF.Same (xb) _) (by kernel_rfl) rfl (fun _ _ _ _ _ h => h) (by kernel_rfl) (PF.Same.refl _ _) (fun u hu => by have hcu := hu.cell; go_simp; try rfl) ?_
  try simp only [Act.put, pz0, pz1, pz2]
  refine PF.pf_take0 11 (by kernel_rfl) rfl (fun _ _ _ _ _ h => h) (by kernel_rfl) (fun u => by go_simp; try rfl) ?_
  try simp only [Act.put, pz0, pz1, pz2]
  refine PF.pf_take0 12 (by kernel_rfl) rfl (fun _ _ _ _ _ h => h) (by kernel_rfl) (fun u => by go_simp; try rfl) ?_
  try simp only [Act.put, pz0, pz1, pz2]
  refine PF.pf_take0 13 (by kernel_rfl) rfl (fun _ _ _ _ _ h => h) (by kernel_rfl) (fun u => by go_simp; try rfl) ?_
  try simp only [Act.put, pz0, pz1, pz2]
  refine PF.pf_skip0 14 (by kernel_rfl) rfl (fun _ _ _ _ _ h => h) (by kernel_rfl) ?_
  try simp only [Act.put, pz0, pz1, pz2]
  refine PF.pf_skip0 16 (by kernel_rfl) rfl (fun _ _ _ _ _ h => h) (by kernel_rfl) ?_
  try simp only [Act.put, pz0, pz1, pz2]
  refine PF.pf_skip 15 (by kernel_rfl) rfl (by kernel_rfl) ?_
  try simp only [Act.put, pz0, pz1, pz2]
  refine PF.pf_skip 17 (by kernel_rfl) rfl (by kernel_rfl) ?_
  try simp only [Act.put, pz0, pz1, pz2]
  refine PF.pf_take0 18 (by kernel_rfl) rfl (fun _ _ _ _ _ h => h) (by kernel_rfl) (fun u => by go_simp; try rfl) ?_
  try simp only [Act.put, pz0, pz1, pz2]
  refine PF.pf_take0 19 (by kernel_rfl) rfl (fun _ _ _ _ _ h => h) (by kernel_rfl) (fun u => by go_simp; try rfl) ?_
  try simp only [Act.put, pz0, pz1, pz2]
  refine PF.pf_take0 20 (by kernel_rfl) rfl (fun _ _ _ _ _ h => h) (by kernel_rfl) (fun u => by go_simp; try rfl) ?_
  try simp only [Act.put, pz0, pz1, pz2]
  refine PF.pf_done (by kernel_rfl) ?_
  go_wp2_with fail
  go_ret2
  have hBT7 : Below w.heap.size w w7 := by rw [HGW.out]; exact HBT7.out
  have hs7 := hBT7.size
  exact ⟨⟨_, A8, c8, by rw [HOK.out]; rfl, own_low HO8.out hs7, fun _ => rfl⟩, below_call hBT7 hs7 HBW8.out⟩
set_option maxRecDepth 100000 in
set_option maxHeartbeats 16000000 in
theorem row_ok {w : World} {cs : Array Value} {P : Pk} (hP : PkV w cs P) (h1 : 1 ≤ P.n 0) (h2 : P.n 0 ≤ 6) (hbad : (enc P).2 = false) :
    Calls Tryd.prog 38 #[.agg cs] w fun e w' => RowPost w.heap.size P e w' ∧ Below w.heap.size w w' := by
  have hOK : decide (OkP P) = decide (PkEq (alonePk P) P) := decide_eq_decide.2 ⟨fun h => h.2.2.2, fun h => ⟨h1, h2, hbad, h⟩⟩
  have f1 : decide ((1 : Int) ≤ P.n 0) = true := decide_eq_true h1
  have f2 : decide (P.n 0 ≤ 6) = true := decide_eq_true h2
  have hvw : 0 ≤ IntKind.u8.wrap (P.n 0) ∧ IntKind.u8.wrap (P.n 0) < 256 := by rw [IntKind.wrap_u8]; omega
  have hvk : IntKind.u8.wrap (P.n 0) = P.n 0 := by rw [IntKind.wrap_u8]; omega
  have hB1 : Blk (w.alloc (.cells cs 44)) w.heap.size 44 cs := Blk.new _ _ _
  have hP1 := hP.below (below_new w (.cells cs 44))
  have hb1 := below_new w (.cells cs 44)
  have HOK := Lib.hid hOK
  have HP := Lib.hid hP
  clear hOK hP
  go_enter Tryd.func38, Tryd.ntmps38
  go_wp2_with fail
  generalize w.alloc (.cells cs 44) = W1 at *
  generalize hgw : w.heap.size = g at *
  refine (newwriter_any W1).mono ?_
  rintro e w2 ⟨rfl, hw2, hE⟩
  have hs2 : w2.heap.size = W1.heap.size + 1 := by rw [hE]; simp
  have hb2 : Below W1.heap.size W1 w2 := by rw [hE]; exact below_new _ _
  have hg1 : g < W1.heap.size := hB1.lt
  generalize hwb : W1.heap.size = wb at *
  have hB2 := hB1.below hb2 (by omega)
  have hX3 : Blk (w2.alloc (.cells #[.pointer (some ⟨wb, 0, none⟩), .bool false] 132)) w2.heap.size 132 #[.pointer (some ⟨wb, 0, none⟩), .bool false] := Blk.new _ _ _
  have hb3 : Below W1.heap.size W1 (w2.alloc (.cells #[.pointer (some ⟨wb, 0, none⟩), .bool false] 132)) := by rw [hwb]; exact hb2.alloc (by omega) _
  have hw3 := hw2.below (below_new w2 (.cells #[.pointer (some ⟨wb, 0, none⟩), .bool false] 132))
  have hP3 := hP1.below hb3
  have hB3 := hB2.alloc (.cells #[.pointer (some ⟨wb, 0, none⟩), .bool false] 132)
  have hs3 : (w2.alloc (.cells #[.pointer (some ⟨wb, 0, none⟩), .bool false] 132)).heap.size = w2.heap.size + 1 := by simp
  have HB3 := Lib.hid hB3
  have HX3 := Lib.hid hX3
  have HW3 := Lib.hid hw3
  have HP3 := Lib.hid hP3
  have HL : Hid (g < wb ∧ wb + 1 = w2.heap.size) := ⟨hg1, hs2.symm⟩
  have HBT : Hid (Below g w (w2.alloc (.cells #[.pointer (some ⟨wb, 0, none⟩), .bool false] 132))) := (by rw [hwb] at hb3; exact below_call hb1 (by omega) (by rw [hwb]; exact hb3))
  clear hB2 hb2 hw2 hE hB1 hP1 hb1 hs2 hb3 hX3 hw3 hP3 hB3 hg1 hwb
  have HGW := Lib.hid hgw
  clear hgw
  have HS3 := Lib.hid hs3
  clear hs3
  go_wp2_with fail
  generalize w2.alloc (.cells #[.pointer (some ⟨wb, 0, none⟩), .bool false] 132) = W3 at *
  generalize w2.heap.size = xb at *
  have c3 := HX3.out.cell 0
  have c5 := (HB3.out.cell 0).trans HP3.out.kind.1
  simp only [List.getElem?_toArray, List.getElem?_cons_zero] at c3
  have hv0 : 0 ≤ P.n 0 ∧ P.n 0 < 256 := by constructor <;> omega
  refine PF.pf_begin (by kernel_rfl) ?_
  refine PF.pf_take0 0 (by kernel_rfl) rfl (fun _ _ _ _ _ h => h) (by kernel_rfl) (fun u => by go_simp; try rfl) ?_
  try simp only [Act.put, pz0, pz1, pz2]
  refine PF.pf_take0 1 (by kernel_rfl) rfl (fun _ _ _ _ _ h => h) (by kernel_rfl) (fun u => by go_simp; try rfl) ?_
  try simp only [Act.put, pz0, pz1, pz2]
  refine PF.pf_take0 2 (by kernel_rfl) rfl (fun _ _ _ _ _ h => h) (by kernel_rfl) (fun u => by go_simp; try rfl) ?_
  try simp only [Act.put, pz0, pz1, pz2]
  refine PF.pf_take1 3 (PF.Same (xb) _) (by kernel_rfl) rfl (fun _ _ _ _ _ h => h) (by kernel_rfl) (PF.Same.refl _ _) (fun u hu => by have hcu := hu.cell; go_simp; try rfl) ?_
  try simp only [Act.put, pz0, pz1, pz2]
  refine PF.pf_take0 4 (by kernel_rfl) rfl (fun _ _ _ _ _ h => h) (by kernel_rfl) (fun u => by go_simp; try rfl) ?_
  try simp only [Act.put, pz0, pz1, pz2]
  refine PF.pf_take1 5 (PF.Same (g) _) (by kernel_rfl) rfl (fun _ _ _ _ _ h => h) (by kernel_rfl) (PF.Same.refl _ _) (fun u hu => by have hcu := hu.cell; go_simp; try rfl) ?_
  try simp only [Act.put, pz0, pz1, pz2]
  refine PF.pf_take0 6 (by kernel_rfl) rfl (fun _ _ _ _ _ h => h) (by kernel_rfl) (fun u => by go_simp; try rfl) ?_
  try simp only [Act.put, pz0, pz1, pz2]
  refine PF.pf_exec 7 (by kernel_rfl) rfl (by kernel_rfl) (fun K hK => ?_)
  go_simp
  refine (wu8_any wb none [] _ hv0.1 hv0.2 W3.drew (HW3.out.below ((Below.refl _ _).drew)) (by simp)).mono ?_
  rintro e w4 ⟨rfl, row, hw4, hrow, hm4⟩
  refine hK _ _ (by repeat (first | exact PF.owes_nil | refine PF.owes_left ?_ | refine PF.owes_no (by decide +kernel) ?_ | refine PF.owes_yes (by first | rfl | assumption | go_simp) ?_)) ?_
  clear hK K
  try simp only [Act.put, pz0, pz1, pz2]
  refine PF.pf_done (by kernel_rfl) ?_
  have hm4' : Mod (fun b => b = wb) W3 w4 := ((Mod.refl _ _).drew).trans (hm4.mono fun b _ e => e.elim id fun e => by cases e)
  have hs4 := hm4'.size
  have HB4 := Lib.hid (HB3.out.mod hm4' fun e => by have := HL.out.1; omega)
  have HX4 := Lib.hid (HX3.out.mod hm4' fun e => by have := HL.out.2; omega)
  have HBT4 := Lib.hid (HBT.out.trans (hm4'.to_below (by have := HBT.out.size; have := HGW.out; omega) fun b hb e => by have := HL.out.1; have := HGW.out; omega))
  have HR4 : Hid (row = none ∨ ∃ g', W3.heap.size ≤ g' ∧ row = some g') := hrow
  have HW4 := Lib.hid hw4
  have HSZ : Hid ((Tryd.prog.info? 44).map (·.size) = some cs.size) := (by show _ = _; rw [HP.out.size]; exact info_pk)
  have HS4 : Hid (xb + 1 ≤ w4.heap.size) := (by have := HS3.out; show _ ≤ _; omega)
  clear hm4 hm4' hw4 hrow hs4 c3 c5
  go_wp2_with (refine wpList_load_blk rfl rfl rfl HB4.out Tryd.underlying44 rfl HSZ.out ?_; refine Hid.out ?_)
  refine Lib.hid ?_
  go_wp2_with (refine wpList_alloc_blk rfl rfl zero_pk ?_; rintro pb w5 hpb hB5 hb5; refine Hid.out ?_)
  refine Lib.hid ?_
  go_wp2_with (refine wpList_store_blk rfl rfl rfl rfl hB5 (by rw [HP.out.size]; rfl) HSZ.out HP.out.one ?_; rintro w6 hB6 hm6; refine Hid.out ?_)
  refine Lib.hid ?_
  have hs5 := hb5.size
  have hs6 := hm6.size
  have hb6 : Below w4.heap.size w4 w6 := hb5.trans (hm6.to_below hs5 fun b hb e => by omega)
  have HB6 := Lib.hid (HB4.out.below hb6 HB4.out.lt)
  have HX6 := Lib.hid (HX4.out.below hb6 HX4.out.lt)
  have HW6 := Lib.hid (HW4.out.below hb6)
  have HBT6 := Lib.hid (below_call HBT4.out (by have := HBT4.out.size; have := HGW.out; omega) hb6)
  have HQ6 : Hid (pb < w6.heap.size ∧ w4.heap.size ≤ pb) := ⟨hB6.lt, by omega⟩
  have HP6 : Hid (PkV w6 cs P) := HP.out.below (by rw [HGW.out]; exact HBT6.out)
  have HWS : Hid (WSt w6 (fun b => b ≤ g ∨ b = pb) xb wb pb 44 cs (enc0 P)) := by
    have l1 := HL.out
    have l2 := HS4.out
    have l3 := HQ6.out
    have l4 := HS3.out
    refine ⟨⟨row, HW6.out, fun e => ?_, fun b hb => ⟨?_, fun e => ?_⟩⟩, HX6.out, hB6, by omega, .inr rfl, fun b hb => ?_⟩
    · rcases HR4.out with h | ⟨g', h, h'⟩
      · rw [h] at e; cases e
      · rw [h'] at e; injection e with e; omega
    · rcases hb with hb | hb <;> omega
    · have hlt := HW4.out.row_lt b e.symm
      rcases HR4.out with h | ⟨g', h, h'⟩
      · rw [h] at e; cases e
      · rw [h'] at e; injection e with e; rcases hb with hb | hb <;> omega
    · rcases hb with hb | hb <;> constructor <;> omega
  have HF := Lib.hid (wfields_all HWS.out HP6.out h1 h2 (fun o ho A n c e hn ad ea => .inl (by have := HP.out.txt_lt o ho A n c e hn ad ea; have := HGW.out; omega)) (fun A n c e ad ea => .inl (by have := HP.out.kb A n c e ad ea; have := HGW.out; omega)))
  clear hB5 hb5 hs5 hs6 hm6 hB6 hpb hb6 HB4 HX4 HBT4 HW4 HB3 HX3 HBT
  have c0 := (HB6.out.cell 0).trans HP.out.kind.1
  go_wp2_with fail
  refine HF.out.mono ?_
  rintro e w7 ⟨rfl, hws, hm7⟩
  have hg6 := HB6.out.lt
  have HB7 := Lib.hid (HB6.out.mod hm7 fun e => e (.inl (Nat.le_refl _)))
  have HX7 := Lib.hid hws.me
  obtain ⟨row7, hw7, _, _⟩ := hws.wr
  have HW7 := Lib.hid hw7
  have HBT7 := Lib.hid (HBT6.out.trans (hm7.to_below (by have := HBT6.out.size; have := HGW.out; omega) fun b hb e => e (.inl (by have := HGW.out; omega))))
  have HP7 : Hid (PkV w7 cs P) := HP.out.below (by rw [HGW.out]; exact HBT7.out)
  have HLE : Hid ((enc P).1.length ≤ 12000000) := enc_len HP.out h1 h2
  clear hws hm7 hg6 hw7 c0
  go_wp2_with fail
  have c3 := HX7.out.cell 0
  have c10 := HX7.out.cell 1
  simp only [List.getElem?_toArray, List.getElem?_cons_zero, List.getElem?_cons_succ] at c3 c10
  rw [hbad] at c10
  refine PF.pf_begin (by kernel_rfl) ?_
  refine PF.pf_take0 0 (by kernel_rfl) rfl (fun _ _ _ _ _ h => h) (by kernel_rfl) (fun u => by go_simp; try rfl) ?_
  try simp only [Act.put, pz0, pz1, pz2]
  refine PF.pf_take0 1 (by kernel_rfl) rfl (fun _ _ _ _ _ h => h) (by kernel_rfl) (fun u => by go_simp; try rfl) ?_
  try simp only [Act.put, pz0, pz1, pz2]
  refine PF.pf_take0 2 (by kernel_rfl) rfl (fun _ _ _ _ _ h => h) (by kernel_rfl) (fun u => by go_simp; try rfl) ?_
  try simp only [Act.put, pz0, pz1, pz2]
  refine PF.pf_take1 3 (PF.Same (xb) _) (by kernel_rfl) rfl (fun _ _ _ _ _ h => h) (by kernel_rfl) (PF.Same.refl _ _) (fun u hu => by have hcu := hu.cell; go_simp; try rfl) ?_
  try simp only [Act.put, pz0, pz1, pz2]
  refine PF.pf_take0 5 (by kernel_rfl) rfl (fun _ _ _ _ _ h => h) (by kernel_rfl) (fun u => by go_simp; try rfl) ?_
  try simp only [Act.put, pz0, pz1, pz2]
  refine PF.pf_exec 4 (by kernel_rfl) rfl (by kernel_rfl) (fun K hK => ?_)
  go_simp
  refine (wbytes_any wb row7 _ w7.drew (HW7.out.below ((Below.refl _ _).drew)) (Nat.le_trans HLE.out (by decide))).mono ?_
  rintro e w8 ⟨⟨A8, c8, rfl, ho8⟩, hb8⟩
  have hb8w : Below w7.heap.size w7 w8 := ((Below.refl _ _).drew).trans hb8
  have HB8 := Lib.hid (HB7.out.below hb8w HB7.out.lt)
  have hx8 := (HX7.out.below hb8w HX7.out.lt)
  have HP8 : Hid (PkV w8 cs P) := HP7.out.below hb8w
  have HBW8 := Lib.hid hb8w
  have HO8 := Lib.hid ho8
  have HX8 := Lib.hid hx8
  have d10 := hx8.cell 1
  simp only [List.getElem?_toArray, List.getElem?_cons_zero, List.getElem?_cons_succ] at d10
  rw [hbad] at d10
  clear ho8 hb8 hb8w hx8 c3 c10
  refine hK _ _ (by repeat (first | exact PF.owes_nil | refine PF.owes_left ?_ | refine PF.owes_no (by decide +kernel) ?_ | refine PF.owes_yes (by first | exact HX8.out.trans HX7.out.symm | rfl | assumption) ?_)) ?_
  clear hK K
  try simp only [Act.put, pz0, pz1, pz2]
  refine PF.pf_take0 6 (by kernel_rfl) rfl (fun _ _ _ _ _ h => h) (by kernel_rfl) (fun u => by go_simp; try rfl) ?_
  try simp only [Act.put, pz0, pz1, pz2]
  refine PF.pf_take0 7 (by kernel_rfl) rfl (fun _ _ _ _ _ h => h) (by kernel_rfl) (fun u => by go_simp; try rfl) ?_
  try simp only [Act.put, pz0, pz1, pz2]
  refine PF.pf_take0 8 (by kernel_rfl) rfl (fun _ _ _ _ _ h => h) (by kernel_rfl) (fun u => by go_simp; try rfl) ?_
  try simp only [Act.put, pz0, pz1, pz2]
  refine PF.pf_take0 9 (by kernel_rfl) rfl (fun _ _ _ _ _ h => h) (by kernel_rfl) (fun u => by go_simp; try rfl) ?_
  try simp only [Act.put, pz0, pz1, pz2]
  refine PF.pf_take1 10 (PF.Same (xb) _) (by kernel_rfl) rfl (fun _ _ _ _ _ h => h) (by kernel_rfl) (PF.Same.refl _ _) (fun u hu => by have hcu := hu.cell; go_simp; try rfl) ?_
  try simp only [Act.put, pz0, pz1, pz2]
  refine PF.pf_take0 11 (by kernel_rfl) rfl (fun _ _ _ _ _ h => h) (by kernel_rfl) (fun u => by go_simp; try rfl) ?_
  try simp only [Act.put, pz0, pz1, pz2]
  refine PF.pf_take0 12 (by kernel_rfl) rfl (fun _ _ _ _ _ h => h) (by kernel_rfl) (fun u => by go_simp; try rfl) ?_
  try simp only [Act.put, pz0, pz1, pz2]
  refine PF.pf_take0 13 (by kernel_rfl) rfl (fun _ _ _ _ _ h => h) (by kernel_rfl) (fun u => by go_simp; try rfl) ?_
  try simp only [Act.put, pz0, pz1, pz2]
  refine PF.pf_take1 14 (fun u => Blk u g 44 cs) (by kernel_rfl) rfl (fun _ _ _ _ _ h => h) (by kernel_rfl) (HB8.out) (fun u hu => by (exact exec_load_blk rfl rfl hu Tryd.underlying44 rfl HSZ.out)) ?_
  try simp only [Act.put, pz0, pz1, pz2]
  refine PF.pf_take1 16 (fun u => Blk u g 44 cs) (by kernel_rfl) rfl (fun _ _ _ _ _ h => h) (by kernel_rfl) (HB8.out) (fun u hu => by (exact exec_load_blk rfl rfl hu Tryd.underlying44 rfl HSZ.out)) ?_
  try simp only [Act.put, pz0, pz1, pz2]
  refine PF.pf_exec 15 (by kernel_rfl) rfl (by kernel_rfl) (fun K hK => ?_)
  go_simp
  refine (alone_any HP8.out).mono ?_
  rintro e w9 ⟨rfl, hb9⟩
  have HB9 := Lib.hid (HB8.out.below hb9 HB8.out.lt)
  have HP9 := Lib.hid (HP8.out.below hb9)
  have HA9 := Lib.hid (HP8.out.alone.below hb9)
  have HBW9 := Lib.hid hb9
  clear hb9
  refine hK _ _ (by repeat (first | exact PF.owes_nil | refine PF.owes_left ?_ | refine PF.owes_no (by decide +kernel) ?_ | refine PF.owes_yes (by exact HB9.out) ?_)) ?_
  clear hK K
  try simp only [Act.put, pz0, pz1, pz2]
  refine PF.pf_exec 17 (by kernel_rfl) rfl (by kernel_rfl) (fun K hK => ?_)
  go_simp
  refine (same_any HA9.out HP9.out).mono ?_
  rintro e w10 ⟨rfl, hb10⟩
  refine hK _ _ (by repeat (first | exact PF.owes_nil | refine PF.owes_left ?_ | refine PF.owes_no (by decide +kernel) ?_ | refine PF.owes_yes (by first | rfl | assumption | go_simp) ?_)) ?_
  clear hK K
  try simp only [Act.put, pz0, pz1, pz2]
  refine PF.pf_take0 18 (by kernel_rfl) rfl (fun _ _ _ _ _ h => h) (by kernel_rfl) (fun u => by go_simp; try rfl) ?_
  try simp only [Act.put, pz0, pz1, pz2]
  refine PF.pf_take0 19 (by kernel_rfl) rfl (fun _ _ _ _ _ h => h) (by kernel_rfl) (fun u => by go_simp; try rfl) ?_
  try simp only [Act.put, pz0, pz1, pz2]
  refine PF.pf_take0 20 (by kernel_rfl) rfl (fun _ _ _ _ _ h => h) (by kernel_rfl) (fun u => by go_simp; try rfl) ?_
  try simp only [Act.put, pz0, pz1, pz2]
  refine PF.pf_done (by kernel_rfl) ?_
  go_wp2_with fail
  go_ret2
  have hBT7 : Below w.heap.size w w7 := by rw [HGW.out]; exact HBT7.out
  have hs7 := hBT7.size
  have hs8 := HBW8.out.size
  have hs9 := HBW9.out.size
  have hb10' := below_call HBW9.out hs9 hb10
  exact ⟨⟨_, A8, c8, by rw [HOK.out]; rfl, own_low (own_call HO8.out hb10') hs7, fun _ => rfl⟩, below_call hBT7 hs7 (below_call HBW8.out hs8 hb10')⟩
theorem row_any {w : World} {cs : Array Value} {P : Pk} (hP : PkV w cs P) : Calls Tryd.prog 38 #[.agg cs] w fun e w' => RowPost w.heap.size P e w' ∧ Below w.heap.size w w' := by
  by_cases h1 : 1 ≤ P.n 0
  · by_cases h2 : P.n 0 ≤ 6
    · cases h : (enc P).2 with
      | true => exact row_bad hP h1 h2 h
      | false => exact row_ok hP h1 h2 h
    · exact row_none2 hP h1 h2
  · exact row_none1 hP h1
end Go.Proofs.YtdckdjkkaangmaaDoor
