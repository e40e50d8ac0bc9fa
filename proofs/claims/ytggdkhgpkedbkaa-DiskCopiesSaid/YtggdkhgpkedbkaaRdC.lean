/- The document's disk: with. -/
import Derived.Test.YtggdkhgpkedbkaaRdB
namespace Go.Proofs.Ytggdkhgpkedbkaa
open Go.RowKit Go.WideShapes Go.WideAt

/-- What has been laid so far, and what is still to come. -/
def InsAt (p : Nm × Sb) (D O : List (Nm × Sb)) (k : Nat) (pt : Bool) : Prop := fins p D = if pt then O ++ D.drop k else O ++ fins p (D.drop k)
theorem ins_put {p : Nm × Sb} {D O : List (Nm × Sb)} {k : Nat} (hk : k < D.length) (h : InsAt p D O k true) : InsAt p D (O ++ [D[k]]) (k + 1) true := by
  unfold InsAt at *
  rw [if_pos rfl] at *
  rw [h, List.drop_eq_getElem_cons hk]
  simp
theorem ins_now {p : Nm × Sb} {D O : List (Nm × Sb)} {k : Nat} (hk : k < D.length) (h : InsAt p D O k false) (hb : bytesBefore p.1 D[k].1 = true) : InsAt p D ((O ++ [p]) ++ [D[k]]) (k + 1) true := by
  unfold InsAt at *
  rw [if_pos rfl]
  rw [if_neg (by simp)] at h
  rw [h, List.drop_eq_getElem_cons hk, fins, if_pos hb]
  simp
theorem ins_on {p : Nm × Sb} {D O : List (Nm × Sb)} {k : Nat} (hk : k < D.length) (h : InsAt p D O k false) (hb : bytesBefore p.1 D[k].1 = false) : InsAt p D (O ++ [D[k]]) (k + 1) false := by
  unfold InsAt at *
  rw [if_neg (by simp)] at *
  rw [h, List.drop_eq_getElem_cons hk, fins, if_neg (by rw [hb]; simp)]
  simp
theorem less_before : ∀ a b : List UInt8, Op.bytesLess a b = bytesBefore a b
  | [], [] => by simp [Op.bytesLess, bytesBefore]
  | _ :: _, [] => by simp [Op.bytesLess, bytesBefore]
  | [], _ :: _ => by simp [Op.bytesLess, bytesBefore]
  | a :: x, b :: y => by
    rw [Op.bytesLess, bytesBefore, less_before x y]
theorem after_eq {a b : List UInt8} (h : a ≠ b) : (!(Op.bytesLess a b || a == b)) = bytesBefore b a := by
  have he : (a == b) = false := by simpa using h
  rw [less_before, he, Bool.or_false]
  cases h1 : bytesBefore a b <;> cases h2 : bytesBefore b a <;> try rfl
  · rcases bytes_total a b h with e | e
    · rw [h1] at e; cases e
    · rw [h2] at e; cases e
  · have := bytes_trans _ _ _ h1 h2
    rw [bytes_irrefl] at this
    cases this
theorem gtr_str (t : TypeId) (P : Program) {a b : List UInt8} (h : a ≠ b) (u : World) : (binOp .gtr t (.string ⟨a.toArray⟩) (.string ⟨b.toArray⟩)).run P u = .ok (.bool (bytesBefore b a)) u := by
  have : binOp .gtr t (.string ⟨a.toArray⟩) (.string ⟨b.toArray⟩) = pure (.bool !(Op.bytesLess a b || a == b)) := by
    unfold binOp Op.stringOp
    simp
  rw [this, after_eq h]
  rfl
set_option maxHeartbeats 4000000 in
theorem with_any {w : World} {R : Nat → Prop} {A : Option Addr} {E : List (Nm × Sb)} (c : Nat) (h : FRow w R A E) (hn : E.length ≤ 1000000) (p : Nm × Sb) (hp : BytesIn w R p.2.1 p.2.2) :
    Calls Try.prog 75 #[.slice A E.length c, .agg #[.string ⟨p.1.toArray⟩, sv p.2.1]] w (RowPost w R (fput p.1 p.2 E)) := by
  have hbx := below_new w (.cells #[.string ⟨p.1.toArray⟩, sv p.2.1] 89)
  have kb := Blk.new w 89 #[.string ⟨p.1.toArray⟩, sv p.2.1]
  have hwo := without_any c (h.below hbx) (by omega) p.1
  have hlen : (fdel p.1 E).length ≤ E.length := List.length_filter_le _ _
  unfold sv at *
  go_enter Try.func75, Try.ntmps75
  have q0 := kb.cell 0
  simp only [List.getElem?_toArray, List.getElem?_cons_zero] at q0
  go_wp2_with fail
  generalize hW : w.alloc (.cells #[.string ⟨p.1.toArray⟩, .slice p.2.1.1 p.2.1.2.1 p.2.1.2.2] 89) = W at *
  have HZ : Hid (W.heap.size = w.heap.size + 1) := by show _ = _; rw [← hW]; simp
  clear hW
  refine hwo.mono ?_
  rintro e w1 ⟨⟨A1, c1, rfl, h1⟩, hb1⟩
  have hb1' : Below w.heap.size w w1 := hbx.trans (hb1.mono hbx.size)
  have kb1 : Blk w1 w.heap.size 89 #[.string ⟨p.1.toArray⟩, .slice p.2.1.1 p.2.1.2.1 p.2.1.2.2] := kb.below hb1 kb.lt
  have hmem : ∀ q ∈ fdel p.1 E, q ∈ E ∧ q.1 ≠ p.1 := fun q hq => mem_del.1 hq
  have HPUT : Hid (fput p.1 p.2 E = fins p (fdel p.1 E)) := rfl
  have HB1 := Lib.hid hb1'
  clear hwo kb q0 hb1 hbx hb1'
  generalize fdel p.1 E = D at *
  have HM := Lib.hid hmem
  clear hmem
  go_wp2_with fail
  go_loopw [5, 6, 8] (fun v pt i wr => ∃ (k : Nat) (O : List (Nm × Sb)) (b : Bool), k ≤ D.length ∧ O.length ≤ k + b.toNat ∧ i = .int .i64 k ∧ pt = .bool b ∧ Below w1.heap.size w1 wr ∧ wr.ownsRow w1.heap.size 89 2 v O.length (frow O) ∧ InsAt p D O k b ∧ ∀ q ∈ O, q = p ∨ q ∈ D) (fun _ _ i _ => D.length - (intOf i).toNat)
  case atStart => exact ⟨0, [], false, by omega, Nat.zero_le _, rfl, rfl, Below.refl _ _, World.ownsRow_nil _ _ _ _, rfl, fun p h => by cases h⟩
  case round =>
    obtain ⟨k, O, pt, hk, hO, rfl, rfl, hb, hown, hd, hm⟩ := hrel
    by_cases hlt : k < D.length
    · obtain ⟨b, o, rfl, hbl, c0, c1⟩ := h1.at_ hlt
      unfold sv at c1
      have e0 := (hb.cell (p := ⟨b, o + k * 2, none⟩) hbl).trans c0
      have e1 := (hb.cell (p := ⟨b, o + k * 2 + 1, none⟩) hbl).trans c1
      obtain ⟨A2, c2, rfl, _, _⟩ := own_slice hown
      have HD := Lib.hid hd
      have HMM := Lib.hid hm
      have HQ : Hid (D[k] ∈ D) := List.getElem_mem hlt
      have hne := (HM.out _ (List.getElem_mem hlt)).2
      have HI1 : Hid (∀ O, InsAt p D O k true → InsAt p D (O ++ [D[k]]) (k + 1) true) := fun O h => ins_put hlt h
      have HI2 : Hid (∀ O, InsAt p D O k false → bytesBefore p.1 D[k].1 = true → InsAt p D ((O ++ [p]) ++ [D[k]]) (k + 1) true) := fun O h hb => ins_now hlt h hb
      have HI3 : Hid (∀ O, InsAt p D O k false → bytesBefore p.1 D[k].1 = false → InsAt p D (O ++ [D[k]]) (k + 1) false) := fun O h hb => ins_on hlt h hb
      obtain ⟨q, hq⟩ : ∃ q, q = D[k] := ⟨_, rfl⟩
      rw [← hq] at c0 c1 e0 e1 HQ hne HI1 HI2 HI3
      clear hq hd hm
      have hgt := gtr_str 9 Try.prog hne
      have kbr : Blk wr w.heap.size 89 #[.string ⟨p.1.toArray⟩, .slice p.2.1.1 p.2.1.2.1 p.2.1.2.2] := kb1.below hb kb1.lt
      have q0 := kbr.cell 0
      have q1 := kbr.cell 1
      simp only [List.getElem?_toArray, List.getElem?_cons_zero, List.getElem?_cons_succ] at q0 q1
      have hod : wr.drew.ownsRow w1.heap.size 89 2 (.slice A2 O.length c2) O.length (frow O) := hown
      have hbd : Below w1.heap.size w1 wr.drew := hb.drew
      have d0 := (hbd.cell (p := ⟨b, o + k * 2, none⟩) hbl).trans c0
      have d1 := (hbd.cell (p := ⟨b, o + k * 2 + 1, none⟩) hbl).trans c1
      have r0 := (Blk.below kb1 hbd kb1.lt).cell 0
      have r1 := (Blk.below kb1 hbd kb1.lt).cell 1
      simp only [List.getElem?_toArray, List.getElem?_cons_zero, List.getElem?_cons_succ] at r0 r1
      cases pt
      · have hO' : O.length ≤ k := hO
        cases hbt : bytesBefore p.1 q.1
        · rw [hbt] at hgt
          have HX := Lib.hid (HI3.out O HD.out hbt)
          clear hbt
          go_wp2_with fail
          refine PF.pf_begin (by kernel_rfl) ?_
          refine PF.pf_take0 0 (by kernel_rfl) rfl (fun _ _ _ _ _ h => h) (by kernel_rfl) (fun u => by go_simp; try rfl) ?_
          try simp only [Act.put, List.setIfInBounds_toArray, List.set_cons_zero, List.set_cons_succ]
          refine PF.pf_take0 1 (by kernel_rfl) rfl (fun _ _ _ _ _ h => h) (by kernel_rfl) (fun u => by go_simp; try rfl) ?_
          try simp only [Act.put, List.setIfInBounds_toArray, List.set_cons_zero, List.set_cons_succ]
          refine PF.pf_take0 2 (by kernel_rfl) rfl (fun _ _ _ _ _ h => h) (by kernel_rfl) (fun u => by go_simp; try rfl) ?_
          try simp only [Act.put, List.setIfInBounds_toArray, List.set_cons_zero, List.set_cons_succ]
          refine PF.pf_take0 3 (by kernel_rfl) rfl (fun _ _ _ _ _ h => h) (by kernel_rfl) (fun u => by go_simp; try rfl) ?_
          try simp only [Act.put, List.setIfInBounds_toArray, List.set_cons_zero, List.set_cons_succ]
          refine PF.pf_take0 4 (by kernel_rfl) rfl (fun _ _ _ _ _ h => h) (by kernel_rfl) (fun u => by go_simp; try rfl) ?_
          try simp only [Act.put, List.setIfInBounds_toArray, List.set_cons_zero, List.set_cons_succ]
          refine PF.pf_take0 5 (by kernel_rfl) rfl (fun _ _ _ _ _ h => h) (by kernel_rfl) (fun u => by go_simp; try rfl) ?_
          try simp only [Act.put, List.setIfInBounds_toArray, List.set_cons_zero, List.set_cons_succ]
          refine PF.pf_take0 6 (by kernel_rfl) rfl (fun _ _ _ _ _ h => h) (by kernel_rfl) (fun u => by go_simp; try rfl) ?_
          try simp only [Act.put, List.setIfInBounds_toArray, List.set_cons_zero, List.set_cons_succ]
          refine PF.pf_take1 7 (PF.Same (b) _) (by kernel_rfl) rfl (fun _ _ _ _ _ h => h) (by kernel_rfl) (PF.Same.refl _ _) (fun u hu => by have hcu := hu.cell; go_simp; try rfl) ?_
          try simp only [Act.put, List.setIfInBounds_toArray, List.set_cons_zero, List.set_cons_succ]
          refine PF.pf_take0 8 (by kernel_rfl) rfl (fun _ _ _ _ _ h => h) (by kernel_rfl) (fun u => by go_simp; try rfl) ?_
          try simp only [Act.put, List.setIfInBounds_toArray, List.set_cons_zero, List.set_cons_succ]
          refine PF.pf_take1 9 (PF.Same (w.heap.size) _) (by kernel_rfl) rfl (fun _ _ _ _ _ h => h) (by kernel_rfl) (PF.Same.refl _ _) (fun u hu => by have hcu := hu.cell; go_simp; try rfl) ?_
          try simp only [Act.put, List.setIfInBounds_toArray, List.set_cons_zero, List.set_cons_succ]
          refine PF.pf_take0 10 (by kernel_rfl) rfl (fun _ _ _ _ _ h => h) (by kernel_rfl) (fun u => by go_simp; try rfl) ?_
          try simp only [Act.put, List.setIfInBounds_toArray, List.set_cons_zero, List.set_cons_succ]
          refine PF.pf_take0 11 (by kernel_rfl) rfl (fun _ _ _ _ _ h => h) (by kernel_rfl) (fun u => by go_simp; try rfl) ?_
          try simp only [Act.put, List.setIfInBounds_toArray, List.set_cons_zero, List.set_cons_succ]
          refine PF.pf_done (by kernel_rfl) ?_
          clear hgt q0 q1 e0 e1 r0 r1
          have hr3 := Reads.block2 wr.drew 89 (.string ⟨q.1.toArray⟩) (.slice q.2.1.1 q.2.1.2.1 q.2.1.2.2)
          have hone3 := fcells_one q
          have hoa3 := hod.alloc (.cells #[.string ⟨q.1.toArray⟩, .slice q.2.1.1 q.2.1.2.1 q.2.1.2.2] 89)
          have hba3 := hbd.alloc hbd.size (.cells #[.string ⟨q.1.toArray⟩, .slice q.2.1.1 q.2.1.2.1 q.2.1.2.2] 89)
          unfold fcells sv at hone3
          go_wp2_with (at_builtin; refine app_list file_ty rfl (s := .tmp 35) (x := .tmp 40) rfl hoa3 rfl hr3 rfl hone3 (by omega) hba3.size ?_; intro v3 w3 ho3 hg3 _; refine Hid.out ?_)
          have hb3 := hba3.grown hg3 hba3.size (own_ge hod)
          obtain ⟨A3, c3, rfl, _, _⟩ := own_slice ho3
          clear hr3 hone3 hoa3 hba3 hg3
          refine Lib.hid ?_
          go_wp2_with fail
          go_roundw
          case rel =>
            refine ⟨k + 1, O ++ [q], false, by omega, by rw [List.length_append]; show O.length + 1 ≤ k + 1; omega, by go_num, rfl, hb3, ?_, HX.out, fun z hz => ?_⟩
            · rw [frow_snoc, List.length_append]
              exact ho3
            · simp only [List.mem_append, List.mem_singleton] at hz
              rcases hz with hz | rfl
              · exact HMM.out z hz
              · exact .inr HQ.out
          case measure => simp [intOf]; omega
        · rw [hbt] at hgt
          have HX := Lib.hid (HI2.out O HD.out hbt)
          clear hbt
          go_wp2_with fail
          refine PF.pf_begin (by kernel_rfl) ?_
          refine PF.pf_take0 0 (by kernel_rfl) rfl (fun _ _ _ _ _ h => h) (by kernel_rfl) (fun u => by go_simp; try rfl) ?_
          try simp only [Act.put, List.setIfInBounds_toArray, List.set_cons_zero, List.set_cons_succ]
          refine PF.pf_take0 1 (by kernel_rfl) rfl (fun _ _ _ _ _ h => h) (by kernel_rfl) (fun u => by go_simp; try rfl) ?_
          try simp only [Act.put, List.setIfInBounds_toArray, List.set_cons_zero, List.set_cons_succ]
          refine PF.pf_take0 2 (by kernel_rfl) rfl (fun _ _ _ _ _ h => h) (by kernel_rfl) (fun u => by go_simp; try rfl) ?_
          try simp only [Act.put, List.setIfInBounds_toArray, List.set_cons_zero, List.set_cons_succ]
          refine PF.pf_take0 3 (by kernel_rfl) rfl (fun _ _ _ _ _ h => h) (by kernel_rfl) (fun u => by go_simp; try rfl) ?_
          try simp only [Act.put, List.setIfInBounds_toArray, List.set_cons_zero, List.set_cons_succ]
          refine PF.pf_take0 4 (by kernel_rfl) rfl (fun _ _ _ _ _ h => h) (by kernel_rfl) (fun u => by go_simp; try rfl) ?_
          try simp only [Act.put, List.setIfInBounds_toArray, List.set_cons_zero, List.set_cons_succ]
          refine PF.pf_take0 5 (by kernel_rfl) rfl (fun _ _ _ _ _ h => h) (by kernel_rfl) (fun u => by go_simp; try rfl) ?_
          try simp only [Act.put, List.setIfInBounds_toArray, List.set_cons_zero, List.set_cons_succ]
          refine PF.pf_take0 6 (by kernel_rfl) rfl (fun _ _ _ _ _ h => h) (by kernel_rfl) (fun u => by go_simp; try rfl) ?_
          try simp only [Act.put, List.setIfInBounds_toArray, List.set_cons_zero, List.set_cons_succ]
          refine PF.pf_take1 7 (PF.Same (b) _) (by kernel_rfl) rfl (fun _ _ _ _ _ h => h) (by kernel_rfl) (PF.Same.refl _ _) (fun u hu => by have hcu := hu.cell; go_simp; try rfl) ?_
          try simp only [Act.put, List.setIfInBounds_toArray, List.set_cons_zero, List.set_cons_succ]
          refine PF.pf_take0 8 (by kernel_rfl) rfl (fun _ _ _ _ _ h => h) (by kernel_rfl) (fun u => by go_simp; try rfl) ?_
          try simp only [Act.put, List.setIfInBounds_toArray, List.set_cons_zero, List.set_cons_succ]
          refine PF.pf_take1 9 (PF.Same (w.heap.size) _) (by kernel_rfl) rfl (fun _ _ _ _ _ h => h) (by kernel_rfl) (PF.Same.refl _ _) (fun u hu => by have hcu := hu.cell; go_simp; try rfl) ?_
          try simp only [Act.put, List.setIfInBounds_toArray, List.set_cons_zero, List.set_cons_succ]
          refine PF.pf_take0 10 (by kernel_rfl) rfl (fun _ _ _ _ _ h => h) (by kernel_rfl) (fun u => by go_simp; try rfl) ?_
          try simp only [Act.put, List.setIfInBounds_toArray, List.set_cons_zero, List.set_cons_succ]
          refine PF.pf_take0 11 (by kernel_rfl) rfl (fun _ _ _ _ _ h => h) (by kernel_rfl) (fun u => by go_simp; try rfl) ?_
          try simp only [Act.put, List.setIfInBounds_toArray, List.set_cons_zero, List.set_cons_succ]
          refine PF.pf_done (by kernel_rfl) ?_
          clear hgt q0 q1 e0 e1
          have hr3 := Reads.block2 wr.drew 89 (.string ⟨p.1.toArray⟩) (.slice p.2.1.1 p.2.1.2.1 p.2.1.2.2)
          have hone3 := fcells_one p
          have hoa3 := hod.alloc (.cells #[.string ⟨p.1.toArray⟩, .slice p.2.1.1 p.2.1.2.1 p.2.1.2.2] 89)
          have hba3 := hbd.alloc hbd.size (.cells #[.string ⟨p.1.toArray⟩, .slice p.2.1.1 p.2.1.2.1 p.2.1.2.2] 89)
          unfold fcells sv at hone3
          go_wp2_with (at_builtin; refine app_list file_ty rfl (s := .tmp 31) (x := .tmp 33) rfl hoa3 rfl hr3 rfl hone3 (by omega) hba3.size ?_; intro v3 w3 ho3 hg3 _; refine Hid.out ?_)
          have hb3 := hba3.grown hg3 hba3.size (own_ge hod)
          obtain ⟨A3, c3, rfl, _, _⟩ := own_slice ho3
          clear hr3 hone3 hoa3 hba3 hg3
          refine Lib.hid ?_
          clear d0 d1 r0 r1
          have d0 := (hb3.cell (p := ⟨b, o + k * 2, none⟩) hbl).trans c0
          have d1 := (hb3.cell (p := ⟨b, o + k * 2 + 1, none⟩) hbl).trans c1
          have hr4 := Reads.block2 w3 89 (.string ⟨q.1.toArray⟩) (.slice q.2.1.1 q.2.1.2.1 q.2.1.2.2)
          have hone4 := fcells_one q
          have hoa4 := ho3.alloc (.cells #[.string ⟨q.1.toArray⟩, .slice q.2.1.1 q.2.1.2.1 q.2.1.2.2] 89)
          have hba4 := hb3.alloc hb3.size (.cells #[.string ⟨q.1.toArray⟩, .slice q.2.1.1 q.2.1.2.1 q.2.1.2.2] 89)
          unfold fcells sv at hone4
          go_wp2_with (at_builtin; refine app_list file_ty rfl (s := .tmp 35) (x := .tmp 40) rfl hoa4 rfl hr4 rfl hone4 (by omega) hba4.size ?_; intro v4 w4 ho4 hg4 _; refine Hid.out ?_)
          have hb4 := hba4.grown hg4 hba4.size (own_ge ho3)
          obtain ⟨A4, c4, rfl, _, _⟩ := own_slice ho4
          clear hr4 hone4 hoa4 hba4 hg4
          refine Lib.hid ?_
          go_wp2_with fail
          go_roundw
          case rel =>
            refine ⟨k + 1, (O ++ [p]) ++ [q], true, by omega, by rw [List.length_append, List.length_append]; show O.length + 1 + 1 ≤ k + 1 + 1; omega, by go_num, rfl, hb4, ?_, HX.out, fun z hz => ?_⟩
            · rw [frow_snoc, frow_snoc, List.length_append, List.length_append]
              exact ho4
            · simp only [List.mem_append, List.mem_singleton] at hz
              rcases hz with (hz | rfl) | rfl
              · exact HMM.out z hz
              · exact .inl rfl
              · exact .inr HQ.out
          case measure => simp [intOf]; omega
      · have hO' : O.length ≤ k + 1 := hO
        have HX := Lib.hid (HI1.out O HD.out)
        clear hgt
        go_wp2_with fail
        refine PF.pf_begin (by kernel_rfl) ?_
        refine PF.pf_take0 0 (by kernel_rfl) rfl (fun _ _ _ _ _ h => h) (by kernel_rfl) (fun u => by go_simp; try rfl) ?_
        try simp only [Act.put, List.setIfInBounds_toArray, List.set_cons_zero, List.set_cons_succ]
        refine PF.pf_take0 1 (by kernel_rfl) rfl (fun _ _ _ _ _ h => h) (by kernel_rfl) (fun u => by go_simp; try rfl) ?_
        try simp only [Act.put, List.setIfInBounds_toArray, List.set_cons_zero, List.set_cons_succ]
        refine PF.pf_take0 2 (by kernel_rfl) rfl (fun _ _ _ _ _ h => h) (by kernel_rfl) (fun u => by go_simp; try rfl) ?_
        try simp only [Act.put, List.setIfInBounds_toArray, List.set_cons_zero, List.set_cons_succ]
        refine PF.pf_skip0 3 (by kernel_rfl) rfl (fun _ _ _ _ _ h => h) (by kernel_rfl) ?_
        try simp only [Act.put, List.setIfInBounds_toArray, List.set_cons_zero, List.set_cons_succ]
        refine PF.pf_skip0 4 (by kernel_rfl) rfl (fun _ _ _ _ _ h => h) (by kernel_rfl) ?_
        try simp only [Act.put, List.setIfInBounds_toArray, List.set_cons_zero, List.set_cons_succ]
        refine PF.pf_skip0 5 (by kernel_rfl) rfl (fun _ _ _ _ _ h => h) (by kernel_rfl) ?_
        try simp only [Act.put, List.setIfInBounds_toArray, List.set_cons_zero, List.set_cons_succ]
        refine PF.pf_skip0 6 (by kernel_rfl) rfl (fun _ _ _ _ _ h => h) (by kernel_rfl) ?_
        try simp only [Act.put, List.setIfInBounds_toArray, List.set_cons_zero, List.set_cons_succ]
        refine PF.pf_skip0 7 (by kernel_rfl) rfl (fun _ _ _ _ _ h => h) (by kernel_rfl) ?_
        try simp only [Act.put, List.setIfInBounds_toArray, List.set_cons_zero, List.set_cons_succ]
        refine PF.pf_skip0 8 (by kernel_rfl) rfl (fun _ _ _ _ _ h => h) (by kernel_rfl) ?_
        try simp only [Act.put, List.setIfInBounds_toArray, List.set_cons_zero, List.set_cons_succ]
        refine PF.pf_skip0 9 (by kernel_rfl) rfl (fun _ _ _ _ _ h => h) (by kernel_rfl) ?_
        try simp only [Act.put, List.setIfInBounds_toArray, List.set_cons_zero, List.set_cons_succ]
        refine PF.pf_skip0 10 (by kernel_rfl) rfl (fun _ _ _ _ _ h => h) (by kernel_rfl) ?_
        try simp only [Act.put, List.setIfInBounds_toArray, List.set_cons_zero, List.set_cons_succ]
        refine PF.pf_take0 11 (by kernel_rfl) rfl (fun _ _ _ _ _ h => h) (by kernel_rfl) (fun u => by go_simp; try rfl) ?_
        try simp only [Act.put, List.setIfInBounds_toArray, List.set_cons_zero, List.set_cons_succ]
        refine PF.pf_done (by kernel_rfl) ?_
        clear q0 q1 e0 e1 r0 r1
        have hr3 := Reads.block2 wr.drew 89 (.string ⟨q.1.toArray⟩) (.slice q.2.1.1 q.2.1.2.1 q.2.1.2.2)
        have hone3 := fcells_one q
        have hoa3 := hod.alloc (.cells #[.string ⟨q.1.toArray⟩, .slice q.2.1.1 q.2.1.2.1 q.2.1.2.2] 89)
        have hba3 := hbd.alloc hbd.size (.cells #[.string ⟨q.1.toArray⟩, .slice q.2.1.1 q.2.1.2.1 q.2.1.2.2] 89)
        unfold fcells sv at hone3
        go_wp2_with (at_builtin; refine app_list file_ty rfl (s := .tmp 35) (x := .tmp 40) rfl hoa3 rfl hr3 rfl hone3 (by omega) hba3.size ?_; intro v3 w3 ho3 hg3 _; refine Hid.out ?_)
        have hb3 := hba3.grown hg3 hba3.size (own_ge hod)
        obtain ⟨A3, c3, rfl, _, _⟩ := own_slice ho3
        clear hr3 hone3 hoa3 hba3 hg3
        refine Lib.hid ?_
        go_wp2_with fail
        go_roundw
        case rel =>
          refine ⟨k + 1, O ++ [q], true, by omega, by rw [List.length_append]; show O.length + 1 ≤ k + 1 + 1; omega, by go_num, rfl, hb3, ?_, HX.out, fun z hz => ?_⟩
          · rw [frow_snoc, List.length_append]
            exact ho3
          · simp only [List.mem_append, List.mem_singleton] at hz
            rcases hz with hz | rfl
            · exact HMM.out z hz
            · exact .inr HQ.out
        case measure => simp [intOf]; omega
    · obtain rfl : k = D.length := by omega
      have hfin : ∀ (u : World) (v : Value) (n : Nat) (O' : List (Nm × Sb)), O' = fins p D → (∀ z ∈ O', z = p ∨ z ∈ D) → u.ownsRow w1.heap.size 89 2 v n (frow O') → n = O'.length → Below w1.heap.size w1 u → RowPost w R (fput p.1 p.2 E) (.returned v) u := fun u v n O' e1 e2 e3 e4 e5 => by
        have hz := HB1.out.size
        refine RowPost.mk (e1.trans HPUT.out.symm) (base_le e3 hz) e4 (HB1.out.trans (e5.mono hz)) fun z hz' => ?_
        rcases e2 z hz' with rfl | hh
        · exact hp
        · exact h.rows z (HM.out z hh).1
      have HFIN := Lib.hid hfin
      have HMM := Lib.hid hm
      obtain ⟨A2, c2, rfl, _, _⟩ := own_slice hown
      cases pt
      · have hO' : O.length ≤ D.length := hO
        have HX : Hid (O ++ [p] = fins p D) := by
          have : fins p D = _ := hd
          rw [if_neg (by simp), List.drop_length] at this
          exact this.symm
        have r0 := (Blk.below kb1 hb kb1.lt).cell 0
        have r1 := (Blk.below kb1 hb kb1.lt).cell 1
        simp only [List.getElem?_toArray, List.getElem?_cons_zero, List.getElem?_cons_succ] at r0 r1
        clear hd hm hfin
        have hr3 := Reads.block2 wr 89 (.string ⟨p.1.toArray⟩) (.slice p.2.1.1 p.2.1.2.1 p.2.1.2.2)
        have hone3 := fcells_one p
        have hoa3 := hown.alloc (.cells #[.string ⟨p.1.toArray⟩, .slice p.2.1.1 p.2.1.2.1 p.2.1.2.2] 89)
        have hba3 := hb.alloc hb.size (.cells #[.string ⟨p.1.toArray⟩, .slice p.2.1.1 p.2.1.2.1 p.2.1.2.2] 89)
        unfold fcells sv at hone3
        go_wp2_with (at_builtin; refine app_list file_ty rfl (s := .tmp 44) (x := .tmp 46) rfl hoa3 rfl hr3 rfl hone3 (by omega) hba3.size ?_; intro v3 w3 ho3 hg3 _; refine Hid.out ?_)
        have hb3 := hba3.grown hg3 hba3.size (own_ge hown)
        obtain ⟨A3, c3, rfl, _, _⟩ := own_slice ho3
        clear hr3 hone3 hoa3 hba3 hg3
        refine Lib.hid ?_
        go_wp2_with fail
        go_ret
        refine HFIN.out _ _ _ _ HX.out (fun z hz => ?_) (by rw [frow_snoc]; exact ho3) (by simp) hb3
        simp only [List.mem_append, List.mem_singleton] at hz
        rcases hz with hz | rfl
        · exact HMM.out z hz
        · exact .inl rfl
      · have HX : Hid (O = fins p D) := by
          have : fins p D = _ := hd
          rw [if_pos rfl, List.drop_length, List.append_nil] at this
          exact this.symm
        clear hd hm hfin
        go_wp2_with fail
        go_ret
        exact HFIN.out _ _ _ _ HX.out HMM.out hown rfl hb
end Go.Proofs.Ytggdkhgpkedbkaa
