/- Joined texts: WireR2, WireS2, WireT2, WireU2. -/
import Derived.Test.YtdckdjkkaangmaaDoorWireC2
import Derived.Test.YtdckdjkkaangmaaDoorJI
import Derived.Test.YtdckdjkkaangmaaDoorSumF
import Derived.Test.YtdckdjkkaangmaaDoorWireL2
/- The document's reading of a packet's parts. -/
namespace Go.Proofs.YtdckdjkkaangmaaDoor
set_option linter.unusedVariables false
set_option linter.unusedSimpArgs false
set_option maxRecDepth 100000
open Go.RowKit

/-- No cell is a byte. -/
def NoU8 (cs : Array Value) : Prop := ∀ (i : Nat) (x : Int), cs[i]? ≠ some (Value.int .u8 x)
theorem Good.nou8 {cs : Array Value} (h : Good cs) : NoU8 cs := by
  intro i x e
  have hs : i < 56 := by
    have := (Array.getElem?_eq_some_iff.1 e).1
    rw [h.size] at this
    exact this
  have hall : ∀ i < 56, i = 0 ∨ i ∈ intOffs ∨ i ∈ numOffs ∨ i ∈ txtOffs ∨ i = 28 := by decide
  rcases hall i hs with rfl | h1 | h1 | h1 | rfl
  · obtain ⟨k, hk, _⟩ := h.kind
    rw [hk] at e
    injection e with e
    injection e with e
    cases e
  · obtain ⟨n, hn, _⟩ := h.ints i h1
    rw [hn] at e
    injection e with e
    injection e with e
    cases e
  · obtain ⟨n, hn, _⟩ := h.nums i h1
    rw [hn] at e
    injection e with e
    injection e with e
    cases e
  · rw [h.txts i h1] at e
    cases e
  · rw [h.keep] at e
    cases e
theorem NoU8.slice {cs : Array Value} (h : NoU8 cs) (o : Nat) (A : Option Addr) (n c : Nat) : NoU8 (cs.setIfInBounds o (.slice A n c)) := by
  intro i x e
  rw [Array.getElem?_setIfInBounds] at e
  split at e
  · split at e <;> cases e
  · exact h i x e
/-- The document's reader in block m, at work on block pb. -/
structure DSt (w : World) (base : Nat → Prop) (m pb : Nat) (t : List UInt8) (S : RS) : Prop where
  rd : Rf base w m (t.drop S.2.1) S.2.2
  pk : Blk w pb 44 S.1
  ne : m ≠ pb
  bs : ∀ k, w.heap.size ≤ k → base k
  no : NoU8 S.1
theorem Rf.put {base : Nat → Prop} {w : World} {m pb : Nat} {xs : List UInt8} {f : Bool} (h : Rf base w m xs f) {cs : Array Value} (hB : Blk w pb 44 cs) (hne : m ≠ pb) (hno : NoU8 cs) {w' : World} (hm : Mod (fun b => b = pb) w w') : Rf base w' m xs f := by
  obtain ⟨A, c, h1, h2, h3, h4, h5, h6⟩ := h
  refine ⟨A, c, h1.mod hm hne, ?_, h3, h4, h5, h6⟩
  rcases Nat.eq_zero_or_pos xs.length with h0 | h0
  · obtain rfl := List.eq_nil_of_length_eq_zero h0
    exact Bytes.nil_ _ _
  · refine h2.mod hm fun ad ea e => ?_
    obtain ⟨b, o, ea', _, hc⟩ := h2.flat h0
    rw [ea] at ea'
    injection ea' with ea'
    subst ea'
    simp only at e
    subst e
    have hc0 := hc 0 h0
    rw [hB.cell] at hc0
    exact hno _ _ hc0
theorem DSt.put {w1 : World} {base : Nat → Prop} {m pb : Nat} {t : List UInt8} {cs : Array Value} {s : Nat × Bool} (hr : Rf base w1 m (t.drop s.1) s.2) (hB : Blk w1 pb 44 cs) (hne : m ≠ pb) (hb : ∀ k, w1.heap.size ≤ k → base k) (hno : NoU8 cs) (o : Nat) (v : Value) (hno2 : NoU8 (cs.setIfInBounds o v)) :
    DSt (w1.setCell ⟨pb, o, none⟩ v) base m pb t (cs.setIfInBounds o v, s) := by
  have hm : Mod (fun b => b = pb) w1 (w1.setCell ⟨pb, o, none⟩ v) := Mod.set (S := fun b => b = pb) (Mod.refl _ _) (p := ⟨pb, o, none⟩) (fun _ => rfl) _
  exact ⟨hr.put hB hne hno hm, hB.put o v, hne, by simpa using hb, hno2⟩
/-- What a reading leaves. -/
def DTo (w : World) (base : Nat → Prop) (m pb : Nat) (t : List UInt8) (cs : Array Value) (s : Nat × Bool) (w' : World) : Prop := DSt w' base m pb t (cs, s) ∧ Mod (fun b => b = m) w w'
theorem DSt.to {w w' : World} {base : Nat → Prop} {m pb : Nat} {t : List UInt8} {S : RS} (h : DSt w base m pb t S) {k most : Int} (hr : Rft base m (t.drop S.2.1) (stepP k most (t.drop S.2.1) S.2.2) w w') :
    DTo w base m pb t S.1 (S.2.1 + (stepP k most (t.drop S.2.1) S.2.2).2.2.1, (stepP k most (t.drop S.2.1) S.2.2).2.2.2) w' := by
  obtain ⟨h1, h2⟩ := hr
  rw [List.drop_drop] at h1
  exact ⟨⟨h1, h.pk.mod h2 fun e => h.ne e.symm, h.ne, fun k hk => h.bs k (Nat.le_trans h2.size hk), h.no⟩, h2⟩
theorem drop_le {t : List UInt8} {p : Nat} (h : t.length ≤ 1000000) : (t.drop p).length ≤ 140737488355328 := by rw [List.length_drop]; omega
section
variable {w : World} {base : Nat → Prop} {m pb : Nat} {t : List UInt8} {S : RS}
theorem duint_any (h : DSt w base m pb t S) (hl : t.length ≤ 1000000) :
    Calls Tryd.prog 29 #[.pointer (some ⟨m, 0, none⟩)] w fun e w' => e = .returned (.int .u64 ((rUint t S.2).1 : Int)) ∧ DTo w base m pb t S.1 (rUint t S.2).2 w' :=
  (runint_any base w m _ _ h.rd (drop_le hl) h.bs).mono fun e w' ⟨h1, h2⟩ => ⟨h1, h.to h2⟩
set_option maxHeartbeats 4000000 in
theorem dsmall_any (h : DSt w base m pb t S) (hl : t.length ≤ 1000000) :
    Calls Tryd.prog 25 #[.pointer (some ⟨m, 0, none⟩)] w fun e w' => e = .returned (.int .i64 ((rInt t S.2).1 : Int)) ∧ DTo w base m pb t S.1 (rInt t S.2).2 w' := by
  have HU := Lib.hid (duint_any h hl)
  have hlt := rUint_lt t S.2
  clear h
  by_cases hg : 255 < (rUint t S.2).1
  · have hI : rInt t S.2 = (0, ((rUint t S.2).2.1, true)) := by unfold rInt; rw [if_pos hg]
    have HI := Lib.hid hI
    have hd : decide ((255 : Int) < ((rUint t S.2).1 : Int)) = true := decide_eq_true (by omega)
    clear hI hg
    generalize rUint t S.2 = R at *
    go_enter Tryd.func25, Tryd.ntmps25
    go_wp2_with fail
    refine HU.out.mono ?_
    rintro e w1 ⟨rfl, hd1, hm1⟩
    obtain ⟨A, c, r1, r2, r3, r4, r5, r6⟩ := hd1.rd
    have c1 := r1.cell 1
    have f1 := r1.free 1
    simp only [List.getElem?_toArray, List.getElem?_cons_zero, List.getElem?_cons_succ] at c1
    have hm2 : Mod (fun b => b = m) w1 (w1.setCell ⟨m, 1, none⟩ (.bool true)) := Mod.set (S := fun b => b = m) (Mod.refl _ _) (p := ⟨m, 1, none⟩) (fun _ => rfl) _
    have HM := Lib.hid (hm1.trans hm2)
    have HD : Hid (DSt (w1.setCell ⟨m, 1, none⟩ (.bool true)) base m pb t (S.1, (R.2.1, true))) := by
      refine ⟨⟨A, c, r1.put 1 (.bool true), r2.modp hm2 fun ad ea h0 => (r6 ad ea h0).2, r3, r4, r5, r6⟩, hd1.pk.mod hm2 fun e => hd1.ne e.symm, hd1.ne, by simpa using hd1.bs, hd1.no⟩
    clear hd1 hm1 hm2 r1 r2 r3 r4 r5 r6
    go_wp2_with fail
    go_ret
    rw [HI.out]
    exact ⟨rfl, HD.out, HM.out⟩
  · have hI : rInt t S.2 = rUint t S.2 := by unfold rInt; rw [if_neg hg]
    have HI := Lib.hid hI
    have hd : decide ((255 : Int) < ((rUint t S.2).1 : Int)) = false := decide_eq_false (by omega)
    have hw : IntKind.i64.wrap ((rUint t S.2).1 : Int) = ((rUint t S.2).1 : Int) := by rw [IntKind.wrap_i64]; omega
    clear hI hg
    generalize rUint t S.2 = R at *
    go_enter Tryd.func25, Tryd.ntmps25
    go_wp2_with fail
    refine HU.out.mono ?_
    rintro e w1 ⟨rfl, hd1⟩
    have HD := Lib.hid hd1
    clear hd1
    go_wp2_with fail
    go_ret
    rw [HI.out]
    exact ⟨rfl, HD.out⟩
end
end Go.Proofs.YtdckdjkkaangmaaDoor

/- The document's reading of ballots, places, texts. -/
namespace Go.Proofs.YtdckdjkkaangmaaDoor
set_option linter.unusedVariables false
set_option linter.unusedSimpArgs false
set_option maxRecDepth 100000
open Go.RowKit

theorem DSt.below {w w' : World} {base : Nat → Prop} {m pb : Nat} {t : List UInt8} {S : RS} (h : DSt w base m pb t S) (hb : Below w.heap.size w w') : DSt w' base m pb t S :=
  ⟨h.rd.below hb, h.pk.below hb h.pk.lt, h.ne, fun k hk => h.bs k (Nat.le_trans hb.size hk), h.no⟩
theorem zero_bal (w : World) : (zeroValue 26).run Tryd.prog w = .ok (.agg #[.int .u64 0, .int .i64 0, .int .u64 0]) w := (zero_of_info (n := 3) (by kernel_rfl)).1 w
theorem zero_pla (w : World) : (zeroValue 32).run Tryd.prog w = .ok (.agg #[.int .i64 0, .int .u64 0]) w := (zero_of_info (n := 2) (by kernel_rfl)).1 w
theorem info_bal : (Tryd.prog.info? 26).map (·.size) = some 3 := by kernel_rfl
theorem info_pla : (Tryd.prog.info? 32).map (·.size) = some 2 := by kernel_rfl
theorem Rf.own {base : Nat → Prop} {w : World} {m : Nat} {xs : List UInt8} {f : Bool} (h : Rf base w m xs f) {g : Nat} {T : TypeId} {cs : Array Value} (hB : Blk w g T cs) (hne : m ≠ g) (hno : NoU8 cs) {w' : World} (hm : Mod (fun b => b = g) w w') : Rf base w' m xs f := by
  obtain ⟨A, c, h1, h2, h3, h4, h5, h6⟩ := h
  refine ⟨A, c, h1.mod hm hne, ?_, h3, h4, h5, h6⟩
  rcases Nat.eq_zero_or_pos xs.length with h0 | h0
  · obtain rfl := List.eq_nil_of_length_eq_zero h0
    exact Bytes.nil_ _ _
  · refine h2.mod hm fun ad ea e => ?_
    obtain ⟨b, o, ea', _, hc⟩ := h2.flat h0
    rw [ea] at ea'
    injection ea' with ea'
    subst ea'
    simp only at e
    subst e
    have hc0 := hc 0 h0
    rw [hB.cell] at hc0
    exact hno _ _ hc0
theorem nou8_bal {a b c : Int} : NoU8 #[.int .u64 a, .int .i64 b, .int .u64 c] := by
  intro i x e
  rcases i with _ | _ | _ | i
  · injection e with e; injection e with e; cases e
  · injection e with e; injection e with e; cases e
  · injection e with e; injection e with e; cases e
  · simp at e
theorem nou8_pla {a b : Int} : NoU8 #[.int .i64 a, .int .u64 b] := by
  intro i x e
  rcases i with _ | _ | i
  · injection e with e; injection e with e; cases e
  · injection e with e; injection e with e; cases e
  · simp at e
theorem DSt.own {w w' : World} {base : Nat → Prop} {m pb : Nat} {t : List UInt8} {S : RS} (h : DSt w base m pb t S) {g : Nat} {T : TypeId} {cs : Array Value} (hB : Blk w g T cs) (hm1 : m ≠ g) (hp1 : pb ≠ g) (hno : NoU8 cs) (hm : Mod (fun b => b = g) w w') : DSt w' base m pb t S :=
  ⟨h.rd.own hB hm1 hno hm, h.pk.mod hm hp1, h.ne, fun k hk => h.bs k (Nat.le_trans hm.size hk), h.no⟩
theorem DSt.lt {w : World} {base : Nat → Prop} {m pb : Nat} {t : List UInt8} {S : RS} (h : DSt w base m pb t S) : m < w.heap.size ∧ pb < w.heap.size := ⟨h.rd.lt, h.pk.lt⟩
section
variable {w : World} {base : Nat → Prop} {m pb : Nat} {t : List UInt8} {S : RS}
set_option maxHeartbeats 4000000 in
theorem dballot_any (h : DSt w base m pb t S) (hl : t.length ≤ 1000000) :
    Calls Tryd.prog 26 #[.pointer (some ⟨m, 0, none⟩)] w fun e w' => e = .returned (.agg #[.int .u64 ((rUint t S.2).1 : Int), .int .i64 ((rInt t (rUint t S.2).2).1 : Int), .int .u64 ((rUint t (rInt t (rUint t S.2).2).2).1 : Int)]) ∧ DTo w base m pb t S.1 (rUint t (rInt t (rUint t S.2).2).2).2 w' := by
  have HH := Lib.hid h
  have HL := Lib.hid hl
  have hlt := h.lt
  clear h hl
  go_enter Tryd.func26, Tryd.ntmps26
  go_wp2_with (refine wpList_alloc_blk rfl rfl zero_bal ?_; rintro g w1 hg hG hb1; refine Hid.out ?_)
  refine Lib.hid ?_
  have h1 := HH.out.below hb1
  have HC := Lib.hid (duint_any h1 HL.out)
  have HG := Lib.hid hG
  have HB1 := Lib.hid hb1
  have HGE : Hid (m ≠ g ∧ pb ≠ g ∧ w.heap.size = g) := ⟨by omega, by omega, hg⟩
  clear hG hb1 hg h1 hlt
  go_wp2_with fail
  refine HC.out.mono ?_
  rintro e w2 ⟨rfl, hd, hm⟩
  have HC2 := Lib.hid (dsmall_any hd HL.out)
  have HG2 := Lib.hid (HG.out.mod hm fun e => HGE.out.1 e.symm)
  have HM2 := Lib.hid hm
  clear HC HG hd hm
  go_wp2_with fail
  refine HC2.out.mono ?_
  rintro e w3 ⟨rfl, hd, hm⟩
  have HC3 := Lib.hid (duint_any hd HL.out)
  have HG3 := Lib.hid (HG2.out.mod hm fun e => HGE.out.1 e.symm)
  have HM3 := Lib.hid (HM2.out.trans hm)
  clear HC2 HG2 HM2 hd hm
  go_wp2_with fail
  refine HC3.out.mono ?_
  rintro e w4 ⟨rfl, hd, hm⟩
  have HD := Lib.hid hd
  have HG4 := Lib.hid (HG3.out.mod hm fun e => HGE.out.1 e.symm)
  have HM4 := Lib.hid (HM3.out.trans hm)
  clear HC3 HG3 HM3 hd hm
  go_wp2_with (refine wpList_store_blk rfl rfl rfl rfl HG4.out rfl info_bal (by intro v hv; simp only [List.mem_cons, List.not_mem_nil, or_false] at hv; rcases hv with rfl | rfl | rfl <;> rfl) ?_; rintro w5 hB5 hm5; refine Hid.out ?_)
  refine Lib.hid ?_
  go_wp2_with fail
  refine bodyPost_ret (results_blk Tryd.results26 _ hB5 rfl Tryd.underlying26 rfl info_bal) rfl ?_
  have hge := HGE.out
  exact ⟨rfl, HD.out.own HG4.out hge.1 hge.2.1 nou8_bal hm5, ((Mod.below HB1.out (Nat.le_refl _)).trans (HM4.out)).join hm5 fun b hb e => by omega⟩
set_option maxHeartbeats 4000000 in
theorem dplace_any (h : DSt w base m pb t S) (hl : t.length ≤ 1000000) :
    Calls Tryd.prog 28 #[.pointer (some ⟨m, 0, none⟩)] w fun e w' => e = .returned (.agg #[.int .i64 ((rInt t S.2).1 : Int), .int .u64 ((rUint t (rInt t S.2).2).1 : Int)]) ∧ DTo w base m pb t S.1 (rUint t (rInt t S.2).2).2 w' := by
  have HH := Lib.hid h
  have HL := Lib.hid hl
  have hlt := h.lt
  clear h hl
  go_enter Tryd.func28, Tryd.ntmps28
  go_wp2_with (refine wpList_alloc_blk rfl rfl zero_pla ?_; rintro g w1 hg hG hb1; refine Hid.out ?_)
  refine Lib.hid ?_
  have h1 := HH.out.below hb1
  have HC := Lib.hid (dsmall_any h1 HL.out)
  have HG := Lib.hid hG
  have HB1 := Lib.hid hb1
  have HGE : Hid (m ≠ g ∧ pb ≠ g ∧ w.heap.size = g) := ⟨by omega, by omega, hg⟩
  clear hG hb1 hg h1 hlt
  go_wp2_with fail
  refine HC.out.mono ?_
  rintro e w2 ⟨rfl, hd, hm⟩
  have HC2 := Lib.hid (duint_any hd HL.out)
  have HG2 := Lib.hid (HG.out.mod hm fun e => HGE.out.1 e.symm)
  have HM2 := Lib.hid hm
  clear HC HG hd hm
  go_wp2_with fail
  refine HC2.out.mono ?_
  rintro e w4 ⟨rfl, hd, hm⟩
  have HD := Lib.hid hd
  have HG4 := Lib.hid (HG2.out.mod hm fun e => HGE.out.1 e.symm)
  have HM4 := Lib.hid (HM2.out.trans hm)
  clear HC2 HG2 HM2 hd hm
  go_wp2_with (refine wpList_store_blk rfl rfl rfl rfl HG4.out rfl info_pla (by intro v hv; simp only [List.mem_cons, List.not_mem_nil, or_false] at hv; rcases hv with rfl | rfl <;> rfl) ?_; rintro w5 hB5 hm5; refine Hid.out ?_)
  refine Lib.hid ?_
  go_wp2_with fail
  refine bodyPost_ret (results_blk Tryd.results28 _ hB5 rfl Tryd.underlying32 rfl info_pla) rfl ?_
  have hge := HGE.out
  exact ⟨rfl, HD.out.own HG4.out hge.1 hge.2.1 nou8_pla hm5, ((Mod.below HB1.out (Nat.le_refl _)).trans (HM4.out)).join hm5 fun b hb e => by omega⟩
set_option maxHeartbeats 4000000 in
theorem dtext_any (h : DSt w base m pb t S) (hl : t.length ≤ 1000000) :
    Calls Tryd.prog 27 #[.pointer (some ⟨m, 0, none⟩)] w fun e w' => (∃ g c, e = .returned (.slice (some ⟨g, 0, none⟩) (rText t S.2).1.length c) ∧ WRow w' g (rText t S.2).1 ∧ (rText t S.2).1.length ≤ c ∧ c ≤ 9223372036854775807 ∧ w.heap.size ≤ g) ∧ DTo w base m pb t S.1 (rText t S.2).2 w' := by
  have HC := Lib.hid ((rtextr_any base w m _ _ 16384 (by decide) (by decide) h.rd (drop_le hl) h.bs).mono (R' := fun e w' => e = .returned (.string ⟨(rText t S.2).1.toArray⟩) ∧ DTo w base m pb t S.1 (rText t S.2).2 w') fun e w' ⟨h1, h2⟩ => ⟨h1, h.to h2⟩)
  have hmx := rText_max t S.2
  clear h
  go_enter Tryd.func27, Tryd.ntmps27
  go_wp2_with fail
  refine HC.out.mono ?_
  rintro e w1 ⟨rfl, hd, hm⟩
  have HD := Lib.hid hd
  have HM := Lib.hid hm
  clear hd hm
  go_wp2_with (refine str_own_list rfl rfl Tryd.underlying9 Tryd.underlying22 Tryd.underlying5 (l := (rText t S.2).1) (by omega) rfl ?_; intro c w2 hw h1 h2 hb; refine Hid.out ?_)
  refine Lib.hid ?_
  have HW := Lib.hid hw
  have HB := Lib.hid hb
  have HS : Hid (w.heap.size ≤ w1.heap.size) := HM.out.size
  clear hw hb
  go_wp2_with fail
  go_ret
  exact ⟨⟨w1.heap.size, c, rfl, HW.out, h1, h2, HS.out⟩, HD.out.below HB.out, HM.out.trans (Mod.below HB.out (Nat.le_refl _))⟩
end
end Go.Proofs.YtdckdjkkaangmaaDoor

/- A slice from its second byte on. -/
namespace Go.Proofs.YtdckdjkkaangmaaDoor
set_option linter.unusedVariables false
set_option linter.unusedSimpArgs false
set_option maxRecDepth 100000
open Go.RowKit

theorem wpList_slice1 {P : Program} {ops : Array Oper} {rest : List Oper} {op : Oper} {a : Act} {w : World} {Q : Exit → Act → World → Prop} (hgd : op.guard = none) {T e : TypeId} {x : Operand} (ho : op.op = .slice T x (some (.const (.int .i64 1))) none none) {gi n c : Nat} (hx : a.eval x = .slice (some ⟨gi, 0, none⟩) (n + 1) c) (hc : n + 1 ≤ c) (hu : P.underlying T = some (.slice e)) (hs : (P.info? e).map (·.size) = some 1)
    (h : ∀ A2 c2, (c = 1 ∧ A2 = some ⟨gi, 0, none⟩ ∧ c2 = 0 ∨ c ≠ 1 ∧ A2 = some ⟨gi, 1, none⟩ ∧ c2 = c - 1) → wpList P ops Q rest (a.put op.dst (.slice A2 n c2)) w) : wpList P ops Q (op :: rest) a w :=
  wpList_plain hgd fun _ hK => by
    have hK2 := fun A2 c2 hh => hK _ _ (h A2 c2 hh)
    clear h hK
    unfold Oper.wp execOp
    have he : a.eval (.const (.int .i64 1)) = .int .i64 1 := rfl
    have hsz : ∃ i, P.info? e = some i ∧ i.size = 1 := by
      cases hq : P.info? e with
      | none => rw [hq] at hs; cases hs
      | some i => rw [hq] at hs; exact ⟨i, rfl, by simpa using hs⟩
    obtain ⟨i, hi, hi1⟩ := hsz
    have hsr : ∀ w, (sizeOf e).run P w = .ok 1 w := fun w => by simp [sizeOf, typeInfo, hi, hi1]
    clear hi hi1 hs
    simp only [ho, hx]
    by_cases h1 : c = 1
    · have hn : n = 0 := by omega
      subst h1 hn
      have hk := hK2 _ _ (.inl ⟨rfl, rfl, rfl⟩)
      clear hK2
      go_simp
      first | exact hk | simpa using hk
    · have hk := hK2 _ _ (.inr ⟨h1, rfl, rfl⟩)
      have h1n : (1 : Int) ≤ (n : Int) + 1 := by omega
      clear hK2
      go_simp
      first | exact hk | simpa using hk
end Go.Proofs.YtdckdjkkaangmaaDoor

/- The document's Decode: what it answers. -/
namespace Go.Proofs.YtdckdjkkaangmaaDoor
set_option linter.unusedVariables false
set_option linter.unusedSimpArgs false
set_option maxRecDepth 100000
open Go.RowKit

def DDec (l : List UInt8) (e : Ending) (w' : World) : Prop := match dec l with
  | none => e = .returned (.tuple #[.agg zPk, .int .i64 2])
  | some P => ∃ cs, e = .returned (.tuple #[.agg cs, .int .i64 0]) ∧ PkV w' cs P
theorem ddec_none {l : List UInt8} {w' : World} (h : dec l = none) : DDec l (.returned (.tuple #[.agg zPk, .int .i64 2])) w' := by
  unfold DDec
  rw [h]
theorem decK_head (c : UInt8) (t : List UInt8) : decK (c :: t) = c.toNat := by
  unfold decK stepP
  rw [if_neg (by decide)]
  unfold getP
  rw [if_pos rfl, if_pos (by simp)]
  simp [leN]
theorem dec0_head (c : UInt8) (t : List UInt8) : dec0 (c :: t) = (decC (c :: t), (1, false)) := by
  unfold dec0 stepP
  rw [if_neg (by decide)]
  unfold getP
  rw [if_pos rfl, if_pos (by simp)]
theorem dec_fin {l t : List UInt8} (ho : Crc.opened l = some t) (hb : ¬ 16384 < l.length) : dec l = decT t := by unfold dec; rw [ho]; simp only; rw [if_neg hb]
theorem drop_left {t : List UInt8} {p : Nat} : decide (0 < (t.drop p).length) = decide (p < t.length) := by rw [List.length_drop]; exact decide_eq_decide.2 (by omega)
theorem NoU8.i64 {cs : Array Value} (h : NoU8 cs) (o : Nat) (n : Int) : NoU8 (cs.setIfInBounds o (.int .i64 n)) := by
  intro i x e
  rw [Array.getElem?_setIfInBounds] at e
  split at e
  · split at e
    · injection e with e; injection e with e; cases e
    · cases e
  · exact h i x e
theorem NoU8.u64 {cs : Array Value} (h : NoU8 cs) (o : Nat) (n : Int) : NoU8 (cs.setIfInBounds o (.int .u64 n)) := by
  intro i x e
  rw [Array.getElem?_setIfInBounds] at e
  split at e
  · split at e
    · injection e with e; injection e with e; cases e
    · cases e
  · exact h i x e
theorem DSt.put3 {w : World} {base : Nat → Prop} {m pb : Nat} {t : List UInt8} {cs : Array Value} {s : Nat × Bool} (h : DSt w base m pb t (cs, s)) (o : Nat) (a b c : Int) :
    DSt (w.setCells pb o [.int .u64 a, .int .i64 b, .int .u64 c]) base m pb t (((cs.setIfInBounds o (.int .u64 a)).setIfInBounds (o + 1) (.int .i64 b)).setIfInBounds (o + 2) (.int .u64 c), s) := by
  have h1 := DSt.put h.rd h.pk h.ne h.bs h.no o (.int .u64 a) (h.no.u64 o a)
  have h2 := DSt.put h1.rd h1.pk h1.ne h1.bs h1.no (o + 1) (.int .i64 b) (h1.no.i64 (o + 1) b)
  exact DSt.put h2.rd h2.pk h2.ne h2.bs h2.no (o + 2) (.int .u64 c) (h2.no.u64 (o + 2) c)
theorem DSt.put2 {w : World} {base : Nat → Prop} {m pb : Nat} {t : List UInt8} {cs : Array Value} {s : Nat × Bool} (h : DSt w base m pb t (cs, s)) (o : Nat) (a b : Int) :
    DSt (w.setCells pb o [.int .i64 a, .int .u64 b]) base m pb t ((cs.setIfInBounds o (.int .i64 a)).setIfInBounds (o + 1) (.int .u64 b), s) := by
  have h1 := DSt.put h.rd h.pk h.ne h.bs h.no o (.int .i64 a) (h.no.i64 o a)
  exact DSt.put h1.rd h1.pk h1.ne h1.bs h1.no (o + 1) (.int .u64 b) (h1.no.u64 (o + 1) b)

set_option maxRecDepth 100000 in
set_option maxHeartbeats 16000000 in
theorem ddec_shut (A : Option Addr) (cap : Nat) (l : List UInt8) (w : World) (hp : Bytes w A l) (hn : l.length ≤ 1000000) (hc1 : l.length ≤ cap) (ho : Crc.opened l = none) :
    Calls Tryd.prog 9 #[.slice A l.length cap] w fun e w' => DDec l e w' ∧ Below w.heap.size w w' := by
  have hd : dec l = none := by unfold dec; rw [ho]
  have HD := Lib.hid hd
  have HO := Lib.hid ho
  clear hd ho
  go_enter Tryd.func9, Tryd.ntmps9
  go_wp2_with (refine wpList_alloc_blk rfl rfl zero_pk ?_; rintro g w0 hg hB0 hb0; refine Hid.out ?_)
  refine Lib.hid ?_
  go_wp2_with fail
  refine (refopen_any A cap l w0 (hp.below hb0) hn hc1).mono ?_
  rintro e w1 ⟨hop, hb1⟩
  rw [HO.out] at hop
  have HG1 := Lib.hid (hB0.below hb1 hB0.lt)
  have HT1 := Lib.hid (below_call hb0 hb0.size hb1)
  have HGL : Hid (w.heap.size = g ∧ g < w1.heap.size) := ⟨hg, by have := hB0.lt; have := hb1.size; omega⟩
  have HW0 : Hid (w.heap.size ≤ w0.heap.size) := hb0.size
  clear hB0 hb0 hb1 hg hp
  obtain rfl : _ = _ := hop
  go_wp2_with (refine wpList_build_pk0 ?_; refine Hid.out ?_)
  refine Lib.hid ?_
  go_wp2_with (refine wpList_store_blk rfl rfl rfl rfl HG1.out rfl info_pk zPk_oneL ?_; rintro wz hBz hmz; refine Hid.out ?_)
  refine Lib.hid ?_
  go_wp2_with fail
  refine bodyPost_ret (v := .tuple #[.agg zPk, .int .i64 2]) (results_blk_tmp Tryd.results9 _ hBz rfl Tryd.underlying44 rfl info_pk rfl) rfl ?_
  exact ⟨ddec_none HD.out, HT1.out.trans (hmz.to_below HT1.out.size fun b hb e => by have := HGL.out.1; omega)⟩
set_option maxRecDepth 100000 in
set_option maxHeartbeats 16000000 in
theorem ddec_big (A : Option Addr) (cap : Nat) (l : List UInt8) (w : World) (hp : Bytes w A l) (hn : l.length ≤ 1000000) (hc1 : l.length ≤ cap) {t : List UInt8} (ho : Crc.opened l = some t) (hbig : 16384 < l.length) :
    Calls Tryd.prog 9 #[.slice A l.length cap] w fun e w' => DDec l e w' ∧ Below w.heap.size w w' := by
  have hd : dec l = none := by unfold dec; rw [ho]; simp only; rw [if_pos hbig]
  have HD := Lib.hid hd
  have HO := Lib.hid ho
  have hgt : decide ((16384 : Int) < (l.length : Int)) = true := decide_eq_true (by omega)
  clear hd ho hbig
  go_enter Tryd.func9, Tryd.ntmps9
  go_wp2_with (refine wpList_alloc_blk rfl rfl zero_pk ?_; rintro g w0 hg hB0 hb0; refine Hid.out ?_)
  refine Lib.hid ?_
  go_wp2_with fail
  refine (refopen_any A cap l w0 (hp.below hb0) hn hc1).mono ?_
  rintro e w1 ⟨hop, hb1⟩
  rw [HO.out] at hop
  have HG1 := Lib.hid (hB0.below hb1 hB0.lt)
  have HT1 := Lib.hid (below_call hb0 hb0.size hb1)
  have HGL : Hid (w.heap.size = g ∧ g < w1.heap.size) := ⟨hg, by have := hB0.lt; have := hb1.size; omega⟩
  have HW0 : Hid (w.heap.size ≤ w0.heap.size) := hb0.size
  clear hB0 hb0 hb1 hg hp
  obtain ⟨v, rfl, hown⟩ := hop
  obtain ⟨A1, c1, rfl, _, _⟩ := own_slice hown
  clear hown
  go_wp2_with (refine wpList_build_pk0 ?_; refine Hid.out ?_)
  refine Lib.hid ?_
  go_wp2_with (refine wpList_store_blk rfl rfl rfl rfl HG1.out rfl info_pk zPk_oneL ?_; rintro wz hBz hmz; refine Hid.out ?_)
  refine Lib.hid ?_
  go_wp2_with fail
  refine bodyPost_ret (v := .tuple #[.agg zPk, .int .i64 2]) (results_blk_tmp Tryd.results9 _ hBz rfl Tryd.underlying44 rfl info_pk rfl) rfl ?_
  exact ⟨ddec_none HD.out, HT1.out.trans (hmz.to_below HT1.out.size fun b hb e => by have := HGL.out.1; omega)⟩
set_option maxRecDepth 100000 in
set_option maxHeartbeats 16000000 in
theorem ddec_empty (A : Option Addr) (cap : Nat) (l : List UInt8) (w : World) (hp : Bytes w A l) (hn : l.length ≤ 1000000) (hc1 : l.length ≤ cap) (ho : Crc.opened l = some []) (hbig : ¬ 16384 < l.length) :
    Calls Tryd.prog 9 #[.slice A l.length cap] w fun e w' => DDec l e w' ∧ Below w.heap.size w w' := by
  have hd : dec l = none := by rw [dec_fin ho hbig]; rfl
  have HD := Lib.hid hd
  have HO := Lib.hid ho
  have hgt : decide ((16384 : Int) < (l.length : Int)) = false := decide_eq_false (by omega)
  clear hd ho hbig
  go_enter Tryd.func9, Tryd.ntmps9
  go_wp2_with (refine wpList_alloc_blk rfl rfl zero_pk ?_; rintro g w0 hg hB0 hb0; refine Hid.out ?_)
  refine Lib.hid ?_
  go_wp2_with fail
  refine (refopen_any A cap l w0 (hp.below hb0) hn hc1).mono ?_
  rintro e w1 ⟨hop, hb1⟩
  rw [HO.out] at hop
  have HG1 := Lib.hid (hB0.below hb1 hB0.lt)
  have HT1 := Lib.hid (below_call hb0 hb0.size hb1)
  have HGL : Hid (w.heap.size = g ∧ g < w1.heap.size) := ⟨hg, by have := hB0.lt; have := hb1.size; omega⟩
  have HW0 : Hid (w.heap.size ≤ w0.heap.size) := hb0.size
  clear hB0 hb0 hb1 hg hp
  obtain ⟨v, rfl, hown⟩ := hop
  obtain ⟨A1, c1, rfl, _, _⟩ := own_slice hown
  clear hown
  go_wp2_with (refine wpList_build_pk0 ?_; refine Hid.out ?_)
  refine Lib.hid ?_
  go_wp2_with (refine wpList_store_blk rfl rfl rfl rfl HG1.out rfl info_pk zPk_oneL ?_; rintro wz hBz hmz; refine Hid.out ?_)
  refine Lib.hid ?_
  go_wp2_with fail
  refine bodyPost_ret (v := .tuple #[.agg zPk, .int .i64 2]) (results_blk_tmp Tryd.results9 _ hBz rfl Tryd.underlying44 rfl info_pk rfl) rfl ?_
  exact ⟨ddec_none HD.out, HT1.out.trans (hmz.to_below HT1.out.size fun b hb e => by have := HGL.out.1; omega)⟩
end Go.Proofs.YtdckdjkkaangmaaDoor
