/- The document's disk: Do. -/
import Derived.Test.YtggdkhgpkedbkaaRdH
namespace Go.Proofs.Ytggdkhgpkedbkaa
open Go.RowKit

theorem chg_row_ty : SliceTy Try.prog 64 84 4 64 := SliceTy.mk Try.underlying64 (z := .agg #[.int .i64 0, .string .empty, .string .empty, .slice none 0 0]) (by kernel_rfl) rfl
theorem chg_size {F : Files} (h : Srt F) (c : Rc) (hc : c.fit) : fsize (c.chg.done F) ≤ fsize F + c.l.length := by
  unfold Rc.chg
  split
  · have hp := fsize_put h c.n ((fget c.n F).getD [] ++ c.l)
    rw [List.length_append] at hp
    unfold flen at hp
    simp only [Chg.done]
    omega
  split
  · have hp := fsize_put h c.n c.l
    simp only [Chg.done]
    omega
  split
  · rename_i h2
    have := ren_size h (hc.ne h2)
    omega
  · have hd := fsize_del h c.n
    simp only [Chg.done]
    omega
theorem crow_snoc (l : List Rc) (c : Rc) : crow (l ++ [c]) = crow l ++ c.cells := by simp [crow]
theorem rcells_one (c : Rc) : ∀ u ∈ c.cells, u.oneCell' = true := by
  intro u hu
  simp only [Rc.cells, sv, List.mem_cons, List.not_mem_nil, or_false] at hu
  rcases hu with rfl | rfl | rfl | rfl <;> rfl
theorem crow_one (l : List Rc) : ∀ u ∈ crow l, u.oneCell' = true := by
  intro u hu
  obtain ⟨c, _, hc⟩ := List.mem_flatMap.1 hu
  exact rcells_one c u hc
theorem Reads.block4 (w : World) (t : TypeId) (a b c d : Value) : Reads (w.alloc (.cells #[a, b, c, d] t)) 4 (some ⟨w.heap.size, 0, none⟩) 1 [a, b, c, d] := by
  refine ⟨rfl, fun _ => ⟨_, rfl, by simp, fun j u hu => ?_⟩⟩
  rw [add_flat]
  have := (Blk.new w t #[a, b, c, d]).cell (0 + j)
  rw [this]
  simpa using hu
theorem RAt.below {w w' : World} {m : Nat} {R : Nat → Prop} {x : Dk} {A B : Option Addr} {c g : Nat} {E : List (Nm × Sb)} {l : List Rc} (h : RAt w m R x A c E B g l) (hb : Below w.heap.size w w') : RAt w' m R x A c E B g l :=
  ⟨h.blk.below hb h.blk.lt, h.files.below hb, h.last, h.chgs.below hb, h.waits, fun b hR => ⟨Nat.lt_of_lt_of_le (h.off b hR).1 hb.size, (h.off b hR).2⟩⟩
/-- One more change waits. -/
theorem does_fin {w w9 : World} {m : Nat} {R : Nat → Prop} {x : Dk} {A B : Option Addr} {ca g : Nat} {E : List (Nm × Sb)} {l : List Rc} (h : Rat w m R x) (hR : RAt w m R x A ca E B g l) (hb9 : Below w.heap.size w w9) {A9 : Option Addr} {c9 n5 : Nat} {c' : Rc}
    (hc' : BytesIn w9 (From w.heap.size w9) c'.s c'.l) (hfit : c'.fit) (hn5 : w.heap.size ≤ n5) (ho : w9.ownsRow n5 84 4 (.slice A9 (l.length + 1) c9) (l.length + 1) (crow l ++ c'.cells)) {p : Chg} (hp : c'.chg = p) :
    Rst w m R (x.does p) (w9.setCell ⟨m, 1, none⟩ (.slice A9 (l.length + 1) c9)) := by
  have hlt := h.lt
  have hz9 := hb9.size
  have kbm := hR.blk.below hb9 hR.blk.lt
  have hm1 : Mod (· = m) w9 (w9.setCell ⟨m, 1, none⟩ (.slice A9 (l.length + 1) c9)) := (Mod.refl _ _).setm _ _
  have hm := (Mod.below (S := fun b => b = m) hb9 (Nat.le_refl _)).trans hm1
  have hne : ∀ b, (R b ∨ From w.heap.size w9 b) → ¬ b = m := fun b hb => by
    rcases hb with hb | hb
    · exact (h.off b hb).2
    · have := hb.1
      intro e
      omega
  have hup : ∀ b, (R b ∨ From w.heap.size w9 b) → R b ∨ From w.heap.size (w9.setCell ⟨m, 1, none⟩ (.slice A9 (l.length + 1) c9)) b := fun b hb => by
    rcases hb with hb | hb
    · exact .inl hb
    · exact .inr ⟨hb.1, Nat.lt_of_lt_of_le hb.2 hm1.size⟩
  have hrow : CRow w9 (fun b => R b ∨ From w.heap.size w9 b) A9 (l ++ [c']) := by
    refine ⟨by rw [List.length_append, crow_snoc]; exact Reads.of_own ho, fun c hc => ?_, fun ad e => ?_, fun c hc => ?_⟩
    · rcases List.mem_append.1 hc with hc | hc
      · exact ((hR.chgs.below hb9).rows c hc).mono fun b => .inl
      · rw [List.mem_singleton] at hc
        subst hc
        exact hc'.mono fun b => .inr
    · have h1 := own_from ho ad e
      exact .inr ⟨Nat.le_trans hn5 h1.1, h1.2⟩
    · rcases List.mem_append.1 hc with hc | hc
      · exact hR.chgs.fits c hc
      · rw [List.mem_singleton] at hc
        subst hc
        exact hfit
  refine Rst.mk (x' := x.does p) (l := l ++ [c']) (A := A) (B := A9) (c := ca) (g := c9) (E := E) h hm ?_ ((((hR.files.below hb9).mono (R' := fun b => R b ∨ From w.heap.size w9 b) fun b => .inl).mod hm1 hne).mono hup) hR.last ((hrow.mod hm1 hne).mono hup) ?_
  · rw [List.length_append]
    exact kbm.put 1 _
  · rw [List.map_append, hR.waits]
    simp [hp, Dk.does]
theorem RDid.same {w w' : World} {m : Nat} {R : Nat → Prop} {x : Dk} {r : Int × Dk} {q : Int} (hr : r = (q, x)) (h : Rat w m R x) (hb : Below w.heap.size w w') : RDid w m R r (.returned (.int .i64 q)) w' := by
  subst hr
  exact ⟨rfl, Rst.same h hb⟩
set_option maxRecDepth 100000 in
set_option maxHeartbeats 8000000 in
theorem rdo_any {w : World} {m : Nat} {R : Nat → Prop} {x : Dk} (h : Rat w m R x) {N : Nat} (hx : Fine N x) (hN : N ≤ 999999) (c : Rc) {V : Nat → Prop} (hc : BytesIn w V c.s c.l) (hcl : c.l.length ≤ 1000000) (hcn : Nok c.n) (hct : Nok c.t) (h0 : 0 ≤ c.k) :
    Calls Try.prog 50 #[.pointer (some ⟨m, 0, none⟩), c.val] w (RDid w m R (rdo x c)) := by
  obtain ⟨W, hWW⟩ : ∃ W, W = w.alloc (.cells c.cells.toArray 84) := ⟨_, rfl⟩
  have hbx : Below w.heap.size w W := by rw [hWW]; exact below_new w _
  have kb : Blk W w.heap.size 84 c.cells.toArray := by rw [hWW]; exact Blk.new w _ _
  obtain ⟨A, ca, E, B, g, l, hR0⟩ := h
  have h : Rat w m R x := ⟨A, ca, E, B, g, l, hR0⟩
  have hR := hR0.below hbx
  have hW : Rat W m R x := ⟨A, ca, E, B, g, l, hR⟩
  have HR0 := Lib.hid hR0
  have hll : l.length ≤ 1000000 := by have h1 := hx.nw; have h2 : l.length = x.waits.length := by rw [← hR0.waits, List.length_map]
                                      omega
  clear hR0
  have hcW := hc.below_ hbx
  have hml := h.lt
  have hse := seen_any hW hx (by omega)
  have hn1 := rnamed_any (w := W) c.n hcn
  have hn2 := rnamed_any (w := W) c.t hct
  have hxl : x.seen.length ≤ 1000000 := (hx.small (by omega)).ns
  have HH := Lib.hid h
  have HC := Lib.hid hc
  have HRD : Hid (∀ r, r = rdo x c → ∀ e w', RDid w m R r e w' → RDid w m R (rdo x c) e w') := fun r hr e w' h => by rw [← hr]; exact h
  have q4 := hR.blk.cell 4
  have b0 := kb.cell 0
  have b1 := kb.cell 1
  have b2 := kb.cell 2
  obtain ⟨ck, cn, ct, ⟨cA, cm, cc⟩, cl⟩ := c
  obtain rfl : cm = cl.length := hc.len
  unfold Rc.val Rc.cells sv at *
  simp only [List.getElem?_toArray, List.getElem?_cons_zero, List.getElem?_cons_succ] at q4 b0 b1 b2
  simp only at hn1 hn2 hcl hcn hct h0 hc hcW
  have HWW := Lib.hid hWW
  clear hWW hc h
  cases hdn : x.down
  · rw [hdn] at q4
    have HD := Lib.hid hdn
    clear hdn
    cases hin : isName cn
    · rw [hin] at hn1
      have HI := Lib.hid hin
      clear hin
      go_enter Try.func50, Try.ntmps50
      have hWW := HWW.out
      rw [hWW] at q4 b0 b1 hn1
      go_wp2_with fail
      refine hn1.mono ?_
      rintro e w1 ⟨rfl, rfl⟩
      go_wp2_with fail
      go_ret
      exact RDid.same (rdo_bad HD.out (.inl HI.out)) HH.out (by rw [← hWW]; exact hbx)
    · rw [hin] at hn1
      have HI := Lib.hid hin
      clear hin
      by_cases k2 : ck = 2
      · subst k2
        cases hit : isName ct
        · rw [hit] at hn2
          have HT := Lib.hid hit
          clear hit hse
          go_enter Try.func50, Try.ntmps50
          have hWW := HWW.out
          subst hWW
          go_wp2_with fail
          refine hn1.mono ?_
          rintro e w1 ⟨rfl, rfl⟩
          go_wp2_with fail
          refine hn2.mono ?_
          rintro e w1 ⟨rfl, rfl⟩
          go_wp2_with fail
          go_ret
          exact RDid.same (rdo_bad HD.out (.inr ⟨rfl, HT.out⟩)) HH.out hbx
        · rw [hit] at hn2
          have HT := Lib.hid hit
          have HK : Hid ((2 : Int) ≤ 2) := Int.le_refl _
          clear hit
          go_enter Try.func50, Try.ntmps50
          have hWW := HWW.out
          subst hWW
          go_wp2_with fail
          refine hn1.mono ?_
          rintro e w1 ⟨rfl, rfl⟩
          go_wp2_with fail
          refine hn2.mono ?_
          rintro e w1 ⟨rfl, rfl⟩
          go_wp2_with fail
          refine hse.mono ?_
          rintro e w1 ⟨E1, hf1, ⟨A1, c1, rfl, hE1⟩, hb1⟩
          have HF1 := Lib.hid hf1
          have hl1 : E1.length ≤ 1000000 := by rw [← fil_len, hf1]; exact hxl
          have kb1 := kb.below hb1 kb.lt
          have b0 := kb1.cell 0
          have b1 := kb1.cell 1
          have b2 := kb1.cell 2
          have b3 := kb1.cell 3
          simp only [List.getElem?_toArray, List.getElem?_cons_zero, List.getElem?_cons_succ] at b0 b1 b2 b3
          have hbw : Below w.heap.size w w1 := hbx.trans (hb1.mono hbx.size)
          clear hse hf1 q4
          have hfi := find_any c1 hE1 (by omega) cn
          go_wp2_with fail
          refine hfi.mono ?_
          rintro e w2 ⟨⟨q, rfl, ⟨rfl, hg⟩ | ⟨j, hj, rfl, hne, hg⟩⟩, rfl⟩
          · have HG := Lib.hid hg
            clear hg hfi
            go_wp2_with fail
            go_ret
            exact RDid.same (rdo_none HD.out HI.out (fun _ => HT.out) HK.out (by rw [← HF1.out, fil_get, HG.out]; rfl)) HH.out hbw
          have HG : Hid (fget cn x.seen ≠ none) := by
            show _ ≠ _
            rw [← HF1.out, fil_get, hg]
            simp
          clear hg hfi hne
          by_cases hct' : cn = ct
          · subst hct'
            go_wp2_with fail
            go_ret
            exact RDid.same (rdo_self HD.out HI.out (fun _ => HT.out) rfl HG.out rfl) HH.out hbw
          have hcc : (cn == ct) = false := by simpa using hct'
          have hgl : ((fget cn (fil E1)).getD []).length ≤ 1000000 := by
            rw [HF1.out]
            have h1 := flen_le hx.srts cn
            have h2 := hx.seen_le
            have h3 := hx.c1
            unfold flen at h1
            omega
          have hbd : Below w1.heap.size w1 w1.drew := (Below.refl _ _).drew
          have hdo := done_any c1 (hE1.below hbd) hl1 ⟨2, cn, ct, (cA, cl.length, cc), cl⟩ ((hcW.below_ hb1).below_ hbd) hcl hgl
          have hfit : Rc.fit ⟨2, cn, ct, (cA, cl.length, cc), cl⟩ := ⟨fun _ => hct', hcl⟩
          have hsr : Srt (fil E1) := by rw [HF1.out]; exact hx.srts
          rw [Rc.done_eq hsr hfit.ne, HF1.out] at hdo
          have hsz := chg_size hx.srts _ hfit
          have hle := hx.seen_le
          have hc1 := hx.c1
          have hln := done_len x.seen (Rc.chg ⟨2, cn, ct, (cA, cl.length, cc), cl⟩)
          unfold Rc.val sv at hdo
          simp only at hdo hsz
          have r0 := (Blk.below kb1 hbd kb1.lt).cell 0
          have r1 := (Blk.below kb1 hbd kb1.lt).cell 1
          have r2 := (Blk.below kb1 hbd kb1.lt).cell 2
          have r3 := (Blk.below kb1 hbd kb1.lt).cell 3
          simp only [List.getElem?_toArray, List.getElem?_cons_zero, List.getElem?_cons_succ] at r0 r1 r2 r3
          have hbm := hR.blk.below hb1 hR.blk.lt
          have m2 := hbm.cell 2
          have m2' := (Blk.below hbm hbd hbm.lt).cell 2
          simp only [List.getElem?_toArray, List.getElem?_cons_zero, List.getElem?_cons_succ] at m2 m2'
          go_wp2_with fail
          refine PF.pf_begin (by kernel_rfl) ?_
          refine PF.pf_take0 0 (by kernel_rfl) rfl (fun _ _ _ _ _ h => h) (by kernel_rfl) (fun u => by go_simp; try rfl) ?_
          try simp only [Act.put, List.setIfInBounds_toArray, List.set_cons_zero, List.set_cons_succ]
          refine PF.pf_take1 1 (PF.Same (w.heap.size) _) (by kernel_rfl) rfl (fun _ _ _ _ _ h => h) (by kernel_rfl) (PF.Same.refl _ _) (fun u hu => by have hcu := hu.cell; go_simp; try rfl) ?_
          try simp only [Act.put, List.setIfInBounds_toArray, List.set_cons_zero, List.set_cons_succ]
          refine PF.pf_take0 4 (by kernel_rfl) rfl (fun _ _ _ _ _ h => h) (by kernel_rfl) (fun u => by go_simp; try rfl) ?_
          try simp only [Act.put, List.setIfInBounds_toArray, List.set_cons_zero, List.set_cons_succ]
          refine PF.pf_take0 5 (by kernel_rfl) rfl (fun _ _ _ _ _ h => h) (by kernel_rfl) (fun u => by go_simp; try rfl) ?_
          try simp only [Act.put, List.setIfInBounds_toArray, List.set_cons_zero, List.set_cons_succ]
          refine PF.pf_take0 6 (by kernel_rfl) rfl (fun _ _ _ _ _ h => h) (by kernel_rfl) (fun u => by go_simp; try rfl) ?_
          try simp only [Act.put, List.setIfInBounds_toArray, List.set_cons_zero, List.set_cons_succ]
          refine PF.pf_take1 7 (PF.Same (m) _) (by kernel_rfl) rfl (fun _ _ _ _ _ h => h) (by kernel_rfl) (PF.Same.refl _ _) (fun u hu => by have hcu := hu.cell; go_simp; try rfl) ?_
          try simp only [Act.put, List.setIfInBounds_toArray, List.set_cons_zero, List.set_cons_succ]
          refine PF.pf_exec 2 (by kernel_rfl) rfl (by kernel_rfl) (fun K hK => ?_)
          go_simp
          refine hdo.mono ?_
          rintro e w2 ⟨E2, hf2, ⟨A2, c2, rfl, hE2⟩, hb2⟩
          have hsi := sizeof_any c2 hE2 (by rw [← fil_len, hf2]; omega) (by rw [hf2]; omega)
          rw [hf2] at hsi
          refine hK _ _ (by repeat (first | exact PF.owes_nil | refine PF.owes_left ?_ | refine PF.owes_no (by decide +kernel) ?_ | refine PF.owes_yes (by exact hb2.block _ hbm.lt) ?_)) ?_
          clear hK K
          try simp only [Act.put, List.setIfInBounds_toArray, List.set_cons_zero, List.set_cons_succ]
          refine PF.pf_exec 3 (by kernel_rfl) rfl (by kernel_rfl) (fun K hK => ?_)
          go_simp
          refine hsi.mono ?_
          rintro e w3 ⟨rfl, rfl⟩
          refine hK _ _ (by repeat (first | exact PF.owes_nil | refine PF.owes_left ?_ | refine PF.owes_no (by decide +kernel) ?_ | refine PF.owes_yes (by exact hb2.block _ hbm.lt) ?_)) ?_
          clear hK K
          try simp only [Act.put, List.setIfInBounds_toArray, List.set_cons_zero, List.set_cons_succ]
          refine PF.pf_take0 8 (by kernel_rfl) rfl (fun _ _ _ _ _ h => h) (by kernel_rfl) (fun u => by go_simp; try rfl) ?_
          try simp only [Act.put, List.setIfInBounds_toArray, List.set_cons_zero, List.set_cons_succ]
          refine PF.pf_done (by kernel_rfl) ?_
          have hful := rdo_full hx HD.out (c := ⟨2, cn, ct, (cA, cl.length, cc), cl⟩) HI.out (fun _ => HT.out) (fun _ => HG.out) hfit.ne h0
          have hbw2 : Below w.heap.size w w2 := hbw.trans ((hbd.trans hb2).mono hbw.size)
          generalize hF2 : (Rc.chg ⟨2, cn, ct, (cA, cl.length, cc), cl⟩).done x.seen = F2 at *
          have HF2 := Lib.hid hF2
          have HF2' := Lib.hid hf2
          clear hF2 hf2
          by_cases hfu : x.cap < (fsize F2 : Int)
          · have hd1 : decide (x.cap < (fsize F2 : Int)) = true := decide_eq_true hfu
            rw [hd1]
            rw [if_pos hfu] at hful
            have HFUL := Lib.hid hful
            clear hful hfu
            go_wp2_with fail
            go_ret
            exact RDid.same HFUL.out HH.out hbw2
          have hd1 : decide (x.cap < (fsize F2 : Int)) = false := decide_eq_false hfu
          rw [hd1]
          clear hd1
          rw [if_neg hfu] at hful
          have HFUL := Lib.hid hful
          clear hful hfu
          have HFIT := Lib.hid hfit
          have hb12 : Below w1.heap.size w1 w2 := hbd.trans hb2
          have kb2 := kb1.below hb12 kb1.lt
          have hbe : Below w2.heap.size w2 (w2.alloc (.cells #[] 5)) := below_new w2 _
          have hownb : (w2.alloc (.cells #[] 5)).ownsRow w2.heap.size 5 1 (.slice (some ⟨w2.heap.size, 0, none⟩) 0 0) 0 [] := World.ownsRow_made _ _ _ (Nat.le_refl _) (by simp [maxLen]) rfl
          have hcb : Reads (w2.alloc (.cells #[] 5)) 1 cA cl.length (cl.map bv) := (((hcW.below_ hb1).below_ hb12).below_ hbe).bytes
          have z3 := (kb2.below hbe kb2.lt).cell 3
          simp only [List.getElem?_toArray, List.getElem?_cons_zero, List.getElem?_cons_succ] at z3
          clear r0 r1 r2 r3 m2 m2' b0 b1 b2 b3 hdo hsi hfit
          go_wp2_with (at_builtin; refine app_list bytes_ty rfl (s := .tmp 56) (x := .tmp 58) rfl hownb rfl hcb rfl (bv_one cl) (by omega) hbe.size ?_; intro v4 w4 ho4 hg4 _; refine Hid.out ?_)
          have hb4 : Below w2.heap.size w2 w4 := hbe.grown hg4 hbe.size (own_ge hownb)
          obtain ⟨A4, c4, rfl, _, _⟩ := own_slice ho4
          simp only [Nat.zero_add, List.nil_append] at ho4 ⊢
          refine Lib.hid ?_
          have kb4 := kb2.below hb4 kb2.lt
          have z4 := kb4.cell 3
          have g4 := kb4.free 3
          simp only [List.getElem?_toArray, List.getElem?_cons_zero, List.getElem?_cons_succ] at z4
          clear z3 hownb hcb hbe hg4
          go_wp2_with fail
          have hlw := kb4.lt
          have hw24 := hbw2.size
          have hb5 : Below w.heap.size w (w4.setCell ⟨w.heap.size, 3, none⟩ (.slice A4 cl.length c4)) := ((Mod.below (S := fun _ => False) (hbw2.trans (hb4.mono hbw2.size)) (Nat.le_refl _)).set (p := ⟨w.heap.size, 3, none⟩) (fun h => absurd h (Nat.lt_irrefl _)) _).to_below (Nat.le_refl _) fun _ _ h => h
          have hm5 : Mod (fun b => b = w.heap.size) w4 (w4.setCell ⟨w.heap.size, 3, none⟩ (.slice A4 cl.length c4)) := (Mod.refl _ _).setm _ _
          have kb5 : Blk (w4.setCell ⟨w.heap.size, 3, none⟩ (.slice A4 cl.length c4)) w.heap.size 84 #[.int .i64 2, .string ⟨cn.toArray⟩, .string ⟨ct.toArray⟩, .slice A4 cl.length c4] := kb4.put 3 _
          have hbi5 : BytesIn (w4.setCell ⟨w.heap.size, 3, none⟩ (.slice A4 cl.length c4)) (From w2.heap.size w4) (A4, cl.length, c4) cl := (BytesIn.of_own ho4 fun b h1 h2 => ⟨h1, h2⟩).mod hm5 fun b hb e => by have := hb.1; have := kb2.lt; omega
          have hz5 : w4.heap.size ≤ (w4.setCell ⟨w.heap.size, 3, none⟩ (.slice A4 cl.length c4)).heap.size := hm5.size
          generalize w4.setCell ⟨w.heap.size, 3, none⟩ (.slice A4 cl.length c4) = w5 at *
          have hbm5 := HR0.out.blk.below hb5 HR0.out.blk.lt
          have hch5 := HR0.out.chgs.below hb5
          have hbd5 : Below w5.heap.size w5 w5.drew := (Below.refl _ _).drew
          have e1 := (Blk.below hbm5 hbd5 hbm5.lt).cell 1
          have p0 := (Blk.below kb5 hbd5 kb5.lt).cell 0
          have p1 := (Blk.below kb5 hbd5 kb5.lt).cell 1
          have p2 := (Blk.below kb5 hbd5 kb5.lt).cell 2
          have p3 := (Blk.below kb5 hbd5 kb5.lt).cell 3
          simp only [List.getElem?_toArray, List.getElem?_cons_zero, List.getElem?_cons_succ] at e1 p0 p1 p2 p3
          have HLM := Lib.hid hbm5.lt
          have HLB := Lib.hid kb5.lt
          clear hm5 z4 g4 ho4
          refine PF.pf_begin (by kernel_rfl) ?_
          refine PF.pf_take0 0 (by kernel_rfl) rfl (fun _ _ _ _ _ h => h) (by kernel_rfl) (fun u => by go_simp; try rfl) ?_
          try simp only [Act.put, List.setIfInBounds_toArray, List.set_cons_zero, List.set_cons_succ]
          refine PF.pf_take0 2 (by kernel_rfl) rfl (fun _ _ _ _ _ h => h) (by kernel_rfl) (fun u => by go_simp; try rfl) ?_
          try simp only [Act.put, List.setIfInBounds_toArray, List.set_cons_zero, List.set_cons_succ]
          refine PF.pf_take0 3 (by kernel_rfl) rfl (fun _ _ _ _ _ h => h) (by kernel_rfl) (fun u => by go_simp; try rfl) ?_
          try simp only [Act.put, List.setIfInBounds_toArray, List.set_cons_zero, List.set_cons_succ]
          refine PF.pf_take0 4 (by kernel_rfl) rfl (fun _ _ _ _ _ h => h) (by kernel_rfl) (fun u => by go_simp; try rfl) ?_
          try simp only [Act.put, List.setIfInBounds_toArray, List.set_cons_zero, List.set_cons_succ]
          refine PF.pf_take1 5 (PF.Same (m) _) (by kernel_rfl) rfl (fun _ _ _ _ _ h => h) (by kernel_rfl) (PF.Same.refl _ _) (fun u hu => by have hcu := hu.cell; go_simp; try rfl) ?_
          try simp only [Act.put, List.setIfInBounds_toArray, List.set_cons_zero, List.set_cons_succ]
          refine PF.pf_take1 7 (PF.Same (w.heap.size) _) (by kernel_rfl) rfl (fun _ _ _ _ _ h => h) (by kernel_rfl) (PF.Same.refl _ _) (fun u hu => by have hcu := hu.cell; go_simp; try rfl) ?_
          try simp only [Act.put, List.setIfInBounds_toArray, List.set_cons_zero, List.set_cons_succ]
          refine PF.pf_fork [1, 8] (by kernel_rfl) rfl (PF.fork_cons ?_ (PF.fork_cons ?_ PF.fork_nil))
          -- number 1 first
          · refine PF.step_one rfl (by kernel_rfl) (fun K hK => ?_)
            go_simp
            have hba : Below w5.heap.size w5 (w5.alloc (.cells #[] 84)).drew := (below_new w5 _).drew
            have ho1 : (w5.alloc (.cells #[] 84)).drew.ownsRow w5.heap.size 84 4 (.slice (some ⟨w5.heap.size, 0, none⟩) 0 0) 0 [] := World.ownsRow_made _ _ _ (Nat.le_refl _) (by simp [maxLen]) rfl
            have hrl := (hch5.below hba).row
            refine hK _ _ (by repeat (first | exact PF.owes_nil | refine PF.owes_left ?_ | refine PF.owes_no (by decide +kernel) ?_ | refine PF.owes_yes (by first | exact hba.block _ HLM.out | exact hba.block _ HLB.out | exact hbb.block _ HLM.out | exact hbb.block _ HLB.out) ?_)) ?_
            clear hK K
            try simp only [Act.put, List.setIfInBounds_toArray, List.set_cons_zero, List.set_cons_succ]
            refine PF.pf_fork [6, 8] (by kernel_rfl) rfl (PF.fork_cons ?_ (PF.fork_cons ?_ PF.fork_nil))
            -- number 6 first
            · refine PF.step_one rfl (by kernel_rfl) (fun K hK => ?_)
              refine app_wp chg_row_ty rfl ho1 rfl hrl rfl (crow_one l) (by omega) hba.size ?_
              intro v6 w6 ho6 hg6 _
              obtain ⟨A6, c6, rfl, _, _⟩ := own_slice ho6
              simp only [Nat.zero_add, List.nil_append] at ho6 ⊢
              have hb6 := hba.grown hg6 hba.size (own_ge ho1)
              refine hK _ _ (by repeat (first | exact PF.owes_nil | refine PF.owes_left ?_ | refine PF.owes_no (by decide +kernel) ?_ | refine PF.owes_yes (by first | exact hb6.block _ HLM.out | exact hb6.block _ HLB.out) ?_)) ?_
              clear hK K
              try simp only [Act.put, List.setIfInBounds_toArray, List.set_cons_zero, List.set_cons_succ]
              refine PF.pf_exec 8 (by kernel_rfl) rfl (by kernel_rfl) (fun K hK => ?_)
              go_simp
              have hr8 := Reads.block4 w6 84 (.int .i64 2) (.string ⟨cn.toArray⟩) (.string ⟨ct.toArray⟩) (.slice A4 cl.length c4)
              have hoF := ho6.alloc (.cells #[.int .i64 2, .string ⟨cn.toArray⟩, .string ⟨ct.toArray⟩, .slice A4 cl.length c4] 84)
              have hbF := hb6.alloc hb6.size (.cells #[.int .i64 2, .string ⟨cn.toArray⟩, .string ⟨ct.toArray⟩, .slice A4 cl.length c4] 84)
              refine hK _ _ (by repeat (first | exact PF.owes_nil | refine PF.owes_left ?_ | refine PF.owes_no (by decide +kernel) ?_ | refine PF.owes_yes (by first | exact hbF.block _ HLM.out | exact hbF.block _ HLB.out | exact hbb.block _ HLM.out | exact hbb.block _ HLB.out | exact hb8.block _ HLM.out | exact hb8.block _ HLB.out) ?_)) ?_
              clear hK K
              try simp only [Act.put, List.setIfInBounds_toArray, List.set_cons_zero, List.set_cons_succ]
              refine PF.pf_exec 9 (by kernel_rfl) rfl (by kernel_rfl) (fun K hK => ?_)
              refine app_wp chg_row_ty rfl hoF rfl hr8 rfl (rcells_one ⟨2, cn, ct, (A4, cl.length, c4), cl⟩) (by omega) hbF.size ?_
              intro v9 w9 ho9 hg9 _
              obtain ⟨A9, c9, rfl, _, _⟩ := own_slice ho9
              have hb9 := hbF.grown hg9 hbF.size (own_ge hoF)
              have kb9 := hbm5.below hb9 hbm5.lt
              have q9 := kb9.cell 1
              have f9 := kb9.free 1
              simp only [List.getElem?_toArray, List.getElem?_cons_zero, List.getElem?_cons_succ] at q9
              refine hK _ _ (by repeat (first | exact PF.owes_nil | refine PF.owes_left ?_ | refine PF.owes_no (by decide +kernel) ?_ | refine PF.owes_yes (by first | exact hb9.block _ HLM.out | exact hb9.block _ HLB.out) ?_)) ?_
              clear hK K
              try simp only [Act.put, List.setIfInBounds_toArray, List.set_cons_zero, List.set_cons_succ]
              refine PF.pf_take0 10 (by kernel_rfl) rfl (fun _ _ _ _ _ h => h) (by kernel_rfl) (fun u => by go_simp; try rfl) ?_
              try simp only [Act.put, List.setIfInBounds_toArray, List.set_cons_zero, List.set_cons_succ]
              refine PF.pf_take0 11 (by kernel_rfl) rfl (fun _ _ _ _ _ h => h) (by kernel_rfl) (fun u => by go_simp; try rfl) ?_
              try simp only [Act.put, List.setIfInBounds_toArray, List.set_cons_zero, List.set_cons_succ]
              refine PF.pf_exec 12 (by kernel_rfl) rfl (by kernel_rfl) (fun K hK => ?_)
              go_simp
              refine hK _ _ (by repeat (first | exact PF.owes_nil | refine PF.owes_left ?_ | refine PF.owes_no (by decide +kernel) ?_ | refine PF.owes_yes (by first | rfl | assumption | go_simp) ?_)) ?_
              clear hK K
              try simp only [Act.put, List.setIfInBounds_toArray, List.set_cons_zero, List.set_cons_succ]
              refine PF.pf_done (by kernel_rfl) ?_
              go_wp2_with fail
              go_ret
              rw [HFUL.out]
              exact ⟨rfl, does_fin (c' := ⟨2, cn, ct, (A4, cl.length, c4), cl⟩) HH.out HR0.out (hb5.trans (hb9.mono hb5.size)) ((hbi5.below_ hb9).mono fun b h => ⟨by have := h.1; omega, by have := h.2; have := hb9.size; omega⟩) ⟨HFIT.out.ne, HFIT.out.small⟩ hb5.size ho9 rfl⟩
            -- number 8 first
            · refine PF.step_one rfl (by kernel_rfl) (fun K hK => ?_)
              go_simp
              have hbb : Below w5.heap.size w5 ((w5.alloc (.cells #[] 84)).alloc (.cells #[.int .i64 2, .string ⟨cn.toArray⟩, .string ⟨ct.toArray⟩, .slice A4 cl.length c4] 84)).drew := ((below_new w5 _).alloc (below_new w5 (.cells #[] 84)).size _).drew
              have ho1' : ((w5.alloc (.cells #[] 84)).alloc (.cells #[.int .i64 2, .string ⟨cn.toArray⟩, .string ⟨ct.toArray⟩, .slice A4 cl.length c4] 84)).drew.ownsRow w5.heap.size 84 4 (.slice (some ⟨w5.heap.size, 0, none⟩) 0 0) 0 [] := World.ownsRow.alloc (w := w5.alloc (.cells #[] 84)) ho1 (.cells #[.int .i64 2, .string ⟨cn.toArray⟩, .string ⟨ct.toArray⟩, .slice A4 cl.length c4] 84)
              have hrl' := (hch5.below hbb).row
              have hr8' : Reads ((w5.alloc (.cells #[] 84)).alloc (.cells #[.int .i64 2, .string ⟨cn.toArray⟩, .string ⟨ct.toArray⟩, .slice A4 cl.length c4] 84)).drew 4 (some ⟨w5.heap.size + 1, 0, none⟩) 1 [.int .i64 2, .string ⟨cn.toArray⟩, .string ⟨ct.toArray⟩, .slice A4 cl.length c4] := by have this := Reads.block4 (w5.alloc (.cells #[] 84)) 84 (.int .i64 2) (.string ⟨cn.toArray⟩) (.string ⟨ct.toArray⟩) (.slice A4 cl.length c4); rw [show (w5.alloc (.cells #[] 84)).heap.size = w5.heap.size + 1 by simp] at this; exact this
              have HKR : Hid (∀ u, ((w5.alloc (.cells #[] 84)).alloc (.cells #[.int .i64 2, .string ⟨cn.toArray⟩, .string ⟨ct.toArray⟩, .slice A4 cl.length c4] 84)).drew.grownBy u (Value.ownBlock (.slice (some ⟨w5.heap.size, 0, none⟩) 0 0)) → Reads u 4 (some ⟨w5.heap.size + 1, 0, none⟩) 1 [.int .i64 2, .string ⟨cn.toArray⟩, .string ⟨ct.toArray⟩, .slice A4 cl.length c4]) := fun u hg => Reads.mod hr8' (Mod.grown (S := fun b => b = w5.heap.size) hg (by intro g e _; injection e with e; exact e.symm)) (by intro ad e; injection e with e; subst e; show ¬ w5.heap.size + 1 = w5.heap.size; omega)
              refine hK _ _ (by repeat (first | exact PF.owes_nil | refine PF.owes_left ?_ | refine PF.owes_no (by decide +kernel) ?_ | refine PF.owes_yes (by first | exact hbF.block _ HLM.out | exact hbF.block _ HLB.out | exact hbb.block _ HLM.out | exact hbb.block _ HLB.out | exact hb8.block _ HLM.out | exact hb8.block _ HLB.out) ?_)) ?_
              clear hK K
              try simp only [Act.put, List.setIfInBounds_toArray, List.set_cons_zero, List.set_cons_succ]
              refine PF.pf_exec 6 (by kernel_rfl) rfl (by kernel_rfl) (fun K hK => ?_)
              refine app_wp chg_row_ty rfl ho1' rfl hrl' rfl (crow_one l) (by omega) hbb.size ?_
              intro v6 w6 ho6 hg6 _
              obtain ⟨A6, c6, rfl, _, _⟩ := own_slice ho6
              simp only [Nat.zero_add, List.nil_append] at ho6 ⊢
              have hb6 := hbb.grown hg6 hbb.size (own_ge ho1')
              have hr8 := HKR.out _ hg6
              have hoF := ho6
              have hbF := hb6
              refine hK _ _ (by repeat (first | exact PF.owes_nil | refine PF.owes_left ?_ | refine PF.owes_no (by decide +kernel) ?_ | refine PF.owes_yes (by first | exact hb6.block _ HLM.out | exact hb6.block _ HLB.out) ?_)) ?_
              clear hK K
              try simp only [Act.put, List.setIfInBounds_toArray, List.set_cons_zero, List.set_cons_succ]
              refine PF.pf_exec 9 (by kernel_rfl) rfl (by kernel_rfl) (fun K hK => ?_)
              refine app_wp chg_row_ty rfl hoF rfl hr8 rfl (rcells_one ⟨2, cn, ct, (A4, cl.length, c4), cl⟩) (by omega) hbF.size ?_
              intro v9 w9 ho9 hg9 _
              obtain ⟨A9, c9, rfl, _, _⟩ := own_slice ho9
              have hb9 := hbF.grown hg9 hbF.size (own_ge hoF)
              have kb9 := hbm5.below hb9 hbm5.lt
              have q9 := kb9.cell 1
              have f9 := kb9.free 1
              simp only [List.getElem?_toArray, List.getElem?_cons_zero, List.getElem?_cons_succ] at q9
              refine hK _ _ (by repeat (first | exact PF.owes_nil | refine PF.owes_left ?_ | refine PF.owes_no (by decide +kernel) ?_ | refine PF.owes_yes (by first | exact hb9.block _ HLM.out | exact hb9.block _ HLB.out) ?_)) ?_
              clear hK K
              try simp only [Act.put, List.setIfInBounds_toArray, List.set_cons_zero, List.set_cons_succ]
              refine PF.pf_take0 10 (by kernel_rfl) rfl (fun _ _ _ _ _ h => h) (by kernel_rfl) (fun u => by go_simp; try rfl) ?_
              try simp only [Act.put, List.setIfInBounds_toArray, List.set_cons_zero, List.set_cons_succ]
              refine PF.pf_take0 11 (by kernel_rfl) rfl (fun _ _ _ _ _ h => h) (by kernel_rfl) (fun u => by go_simp; try rfl) ?_
              try simp only [Act.put, List.setIfInBounds_toArray, List.set_cons_zero, List.set_cons_succ]
              refine PF.pf_exec 12 (by kernel_rfl) rfl (by kernel_rfl) (fun K hK => ?_)
              go_simp
              refine hK _ _ (by repeat (first | exact PF.owes_nil | refine PF.owes_left ?_ | refine PF.owes_no (by decide +kernel) ?_ | refine PF.owes_yes (by first | rfl | assumption | go_simp) ?_)) ?_
              clear hK K
              try simp only [Act.put, List.setIfInBounds_toArray, List.set_cons_zero, List.set_cons_succ]
              refine PF.pf_done (by kernel_rfl) ?_
              go_wp2_with fail
              go_ret
              rw [HFUL.out]
              exact ⟨rfl, does_fin (c' := ⟨2, cn, ct, (A4, cl.length, c4), cl⟩) HH.out HR0.out (hb5.trans (hb9.mono hb5.size)) ((hbi5.below_ hb9).mono fun b h => ⟨by have := h.1; omega, by have := h.2; have := hb9.size; omega⟩) ⟨HFIT.out.ne, HFIT.out.small⟩ hb5.size ho9 rfl⟩
          -- number 8 first
          · refine PF.step_one rfl (by kernel_rfl) (fun K hK => ?_)
            go_simp
            have hb8 : Below w5.heap.size w5 (w5.alloc (.cells #[.int .i64 2, .string ⟨cn.toArray⟩, .string ⟨ct.toArray⟩, .slice A4 cl.length c4] 84)).drew := (below_new w5 _).drew
            refine hK _ _ (by repeat (first | exact PF.owes_nil | refine PF.owes_left ?_ | refine PF.owes_no (by decide +kernel) ?_ | refine PF.owes_yes (by first | exact hbF.block _ HLM.out | exact hbF.block _ HLB.out | exact hbb.block _ HLM.out | exact hbb.block _ HLB.out | exact hb8.block _ HLM.out | exact hb8.block _ HLB.out) ?_)) ?_
            clear hK K
            try simp only [Act.put, List.setIfInBounds_toArray, List.set_cons_zero, List.set_cons_succ]
            refine PF.pf_exec 1 (by kernel_rfl) rfl (by kernel_rfl) (fun K hK => ?_)
            go_simp
            have hbb : Below w5.heap.size w5 ((w5.alloc (.cells #[.int .i64 2, .string ⟨cn.toArray⟩, .string ⟨ct.toArray⟩, .slice A4 cl.length c4] 84)).alloc (.cells #[] 84)).drew := ((below_new w5 _).alloc (below_new w5 (.cells #[.int .i64 2, .string ⟨cn.toArray⟩, .string ⟨ct.toArray⟩, .slice A4 cl.length c4] 84)).size _).drew
            have ho1' : ((w5.alloc (.cells #[.int .i64 2, .string ⟨cn.toArray⟩, .string ⟨ct.toArray⟩, .slice A4 cl.length c4] 84)).alloc (.cells #[] 84)).drew.ownsRow w5.heap.size 84 4 (.slice (some ⟨w5.heap.size + 1, 0, none⟩) 0 0) 0 [] := by have this := World.ownsRow_made (base := w5.heap.size) (size := 4) (e := 84) (w5.alloc (.cells #[.int .i64 2, .string ⟨cn.toArray⟩, .string ⟨ct.toArray⟩, .slice A4 cl.length c4] 84)) #[] 0 (by simp) (by simp [maxLen]) rfl; rw [show (w5.alloc (.cells #[.int .i64 2, .string ⟨cn.toArray⟩, .string ⟨ct.toArray⟩, .slice A4 cl.length c4] 84)).heap.size = w5.heap.size + 1 by simp] at this; exact this
            have hrl' := (hch5.below hbb).row
            have hr8' : Reads ((w5.alloc (.cells #[.int .i64 2, .string ⟨cn.toArray⟩, .string ⟨ct.toArray⟩, .slice A4 cl.length c4] 84)).alloc (.cells #[] 84)).drew 4 (some ⟨w5.heap.size, 0, none⟩) 1 [.int .i64 2, .string ⟨cn.toArray⟩, .string ⟨ct.toArray⟩, .slice A4 cl.length c4] := (Reads.block4 w5 84 (.int .i64 2) (.string ⟨cn.toArray⟩) (.string ⟨ct.toArray⟩) (.slice A4 cl.length c4)).below (below_new (w5.alloc (.cells #[.int .i64 2, .string ⟨cn.toArray⟩, .string ⟨ct.toArray⟩, .slice A4 cl.length c4] 84)) (.cells #[] 84)).drew
            have HKR : Hid (∀ u, ((w5.alloc (.cells #[.int .i64 2, .string ⟨cn.toArray⟩, .string ⟨ct.toArray⟩, .slice A4 cl.length c4] 84)).alloc (.cells #[] 84)).drew.grownBy u (Value.ownBlock (.slice (some ⟨w5.heap.size + 1, 0, none⟩) 0 0)) → Reads u 4 (some ⟨w5.heap.size, 0, none⟩) 1 [.int .i64 2, .string ⟨cn.toArray⟩, .string ⟨ct.toArray⟩, .slice A4 cl.length c4]) := fun u hg => Reads.mod hr8' (Mod.grown (S := fun b => b = w5.heap.size + 1) hg (by intro g e _; injection e with e; exact e.symm)) (by intro ad e; injection e with e; subst e; show ¬ w5.heap.size = w5.heap.size + 1; omega)
            refine hK _ _ (by repeat (first | exact PF.owes_nil | refine PF.owes_left ?_ | refine PF.owes_no (by decide +kernel) ?_ | refine PF.owes_yes (by first | exact hba.block _ HLM.out | exact hba.block _ HLB.out | exact hbb.block _ HLM.out | exact hbb.block _ HLB.out) ?_)) ?_
            clear hK K
            try simp only [Act.put, List.setIfInBounds_toArray, List.set_cons_zero, List.set_cons_succ]
            refine PF.pf_exec 6 (by kernel_rfl) rfl (by kernel_rfl) (fun K hK => ?_)
            refine app_wp chg_row_ty rfl ho1' rfl hrl' rfl (crow_one l) (by omega) hbb.size ?_
            intro v6 w6 ho6 hg6 _
            obtain ⟨A6, c6, rfl, _, _⟩ := own_slice ho6
            simp only [Nat.zero_add, List.nil_append] at ho6 ⊢
            have hb6 := hbb.grown hg6 hbb.size (own_ge ho1')
            have hr8 := HKR.out _ hg6
            have hoF := ho6
            have hbF := hb6
            refine hK _ _ (by repeat (first | exact PF.owes_nil | refine PF.owes_left ?_ | refine PF.owes_no (by decide +kernel) ?_ | refine PF.owes_yes (by first | exact hb6.block _ HLM.out | exact hb6.block _ HLB.out) ?_)) ?_
            clear hK K
            try simp only [Act.put, List.setIfInBounds_toArray, List.set_cons_zero, List.set_cons_succ]
            refine PF.pf_exec 9 (by kernel_rfl) rfl (by kernel_rfl) (fun K hK => ?_)
            refine app_wp chg_row_ty rfl hoF rfl hr8 rfl (rcells_one ⟨2, cn, ct, (A4, cl.length, c4), cl⟩) (by omega) hbF.size ?_
            intro v9 w9 ho9 hg9 _
            obtain ⟨A9, c9, rfl, _, _⟩ := own_slice ho9
            have hb9 := hbF.grown hg9 hbF.size (own_ge hoF)
            have kb9 := hbm5.below hb9 hbm5.lt
            have q9 := kb9.cell 1
            have f9 := kb9.free 1
            simp only [List.getElem?_toArray, List.getElem?_cons_zero, List.getElem?_cons_succ] at q9
            refine hK _ _ (by repeat (first | exact PF.owes_nil | refine PF.owes_left ?_ | refine PF.owes_no (by decide +kernel) ?_ | refine PF.owes_yes (by first | exact hb9.block _ HLM.out | exact hb9.block _ HLB.out) ?_)) ?_
            clear hK K
            try simp only [Act.put, List.setIfInBounds_toArray, List.set_cons_zero, List.set_cons_succ]
            refine PF.pf_take0 10 (by kernel_rfl) rfl (fun _ _ _ _ _ h => h) (by kernel_rfl) (fun u => by go_simp; try rfl) ?_
            try simp only [Act.put, List.setIfInBounds_toArray, List.set_cons_zero, List.set_cons_succ]
            refine PF.pf_take0 11 (by kernel_rfl) rfl (fun _ _ _ _ _ h => h) (by kernel_rfl) (fun u => by go_simp; try rfl) ?_
            try simp only [Act.put, List.setIfInBounds_toArray, List.set_cons_zero, List.set_cons_succ]
            refine PF.pf_exec 12 (by kernel_rfl) rfl (by kernel_rfl) (fun K hK => ?_)
            go_simp
            refine hK _ _ (by repeat (first | exact PF.owes_nil | refine PF.owes_left ?_ | refine PF.owes_no (by decide +kernel) ?_ | refine PF.owes_yes (by first | rfl | assumption | go_simp) ?_)) ?_
            clear hK K
            try simp only [Act.put, List.setIfInBounds_toArray, List.set_cons_zero, List.set_cons_succ]
            refine PF.pf_done (by kernel_rfl) ?_
            go_wp2_with fail
            go_ret
            rw [HFUL.out]
            exact ⟨rfl, does_fin (c' := ⟨2, cn, ct, (A4, cl.length, c4), cl⟩) HH.out HR0.out (hb5.trans (hb9.mono hb5.size)) ((hbi5.below_ hb9).mono fun b h => ⟨by have := h.1; omega, by have := h.2; have := hb9.size; omega⟩) ⟨HFIT.out.ne, HFIT.out.small⟩ hb5.size ho9 rfl⟩
      have f2 : (ck == 2) = false := by simpa using k2
      have HT : Hid (ck = 2 → isName ct = true) := fun e => absurd e k2
      by_cases k3 : 2 ≤ ck
      · have f3 : decide (2 ≤ ck) = true := decide_eq_true k3
        have HK := Lib.hid k3
        have HK2 := Lib.hid k2
        clear k2 k3 hn2
        go_enter Try.func50, Try.ntmps50
        have hWW := HWW.out
        subst hWW
        go_wp2_with fail
        refine hn1.mono ?_
        rintro e w1 ⟨rfl, rfl⟩
        go_wp2_with fail
        refine hse.mono ?_
        rintro e w1 ⟨E1, hf1, ⟨A1, c1, rfl, hE1⟩, hb1⟩
        have HF1 := Lib.hid hf1
        have hl1 : E1.length ≤ 1000000 := by rw [← fil_len, hf1]; exact hxl
        have kb1 := kb.below hb1 kb.lt
        have b0 := kb1.cell 0
        have b1 := kb1.cell 1
        have b2 := kb1.cell 2
        have b3 := kb1.cell 3
        simp only [List.getElem?_toArray, List.getElem?_cons_zero, List.getElem?_cons_succ] at b0 b1 b2 b3
        have hbw : Below w.heap.size w w1 := hbx.trans (hb1.mono hbx.size)
        clear hse hf1 q4
        have hfi := find_any c1 hE1 (by omega) cn
        go_wp2_with fail
        refine hfi.mono ?_
        rintro e w2 ⟨⟨q, rfl, ⟨rfl, hg⟩ | ⟨j, hj, rfl, hne, hg⟩⟩, rfl⟩
        · have HG := Lib.hid hg
          clear hg hfi
          go_wp2_with fail
          go_ret
          exact RDid.same (rdo_none HD.out HI.out HT.out HK.out (by rw [← HF1.out, fil_get, HG.out]; rfl)) HH.out hbw
        have HG : Hid (fget cn x.seen ≠ none) := by
          show _ ≠ _
          rw [← HF1.out, fil_get, hg]
          simp
        clear hg hfi hne
        have hgl : ((fget cn (fil E1)).getD []).length ≤ 1000000 := by
          rw [HF1.out]
          have h1 := flen_le hx.srts cn
          have h2 := hx.seen_le
          have h3 := hx.c1
          unfold flen at h1
          omega
        have hbd : Below w1.heap.size w1 w1.drew := (Below.refl _ _).drew
        have hdo := done_any c1 (hE1.below hbd) hl1 ⟨ck, cn, ct, (cA, cl.length, cc), cl⟩ ((hcW.below_ hb1).below_ hbd) hcl hgl
        have hfit : Rc.fit ⟨ck, cn, ct, (cA, cl.length, cc), cl⟩ := ⟨fun e => absurd e HK2.out, hcl⟩
        have hsr : Srt (fil E1) := by rw [HF1.out]; exact hx.srts
        rw [Rc.done_eq hsr hfit.ne, HF1.out] at hdo
        have hsz := chg_size hx.srts _ hfit
        have hle := hx.seen_le
        have hc1 := hx.c1
        have hln := done_len x.seen (Rc.chg ⟨ck, cn, ct, (cA, cl.length, cc), cl⟩)
        unfold Rc.val sv at hdo
        simp only at hdo hsz
        have r0 := (Blk.below kb1 hbd kb1.lt).cell 0
        have r1 := (Blk.below kb1 hbd kb1.lt).cell 1
        have r2 := (Blk.below kb1 hbd kb1.lt).cell 2
        have r3 := (Blk.below kb1 hbd kb1.lt).cell 3
        simp only [List.getElem?_toArray, List.getElem?_cons_zero, List.getElem?_cons_succ] at r0 r1 r2 r3
        have hbm := hR.blk.below hb1 hR.blk.lt
        have m2 := hbm.cell 2
        have m2' := (Blk.below hbm hbd hbm.lt).cell 2
        simp only [List.getElem?_toArray, List.getElem?_cons_zero, List.getElem?_cons_succ] at m2 m2'
        go_wp2_with fail
        refine PF.pf_begin (by kernel_rfl) ?_
        refine PF.pf_take0 0 (by kernel_rfl) rfl (fun _ _ _ _ _ h => h) (by kernel_rfl) (fun u => by go_simp; try rfl) ?_
        try simp only [Act.put, List.setIfInBounds_toArray, List.set_cons_zero, List.set_cons_succ]
        refine PF.pf_take1 1 (PF.Same (w.heap.size) _) (by kernel_rfl) rfl (fun _ _ _ _ _ h => h) (by kernel_rfl) (PF.Same.refl _ _) (fun u hu => by have hcu := hu.cell; go_simp; try rfl) ?_
        try simp only [Act.put, List.setIfInBounds_toArray, List.set_cons_zero, List.set_cons_succ]
        refine PF.pf_take0 4 (by kernel_rfl) rfl (fun _ _ _ _ _ h => h) (by kernel_rfl) (fun u => by go_simp; try rfl) ?_
        try simp only [Act.put, List.setIfInBounds_toArray, List.set_cons_zero, List.set_cons_succ]
        refine PF.pf_take0 5 (by kernel_rfl) rfl (fun _ _ _ _ _ h => h) (by kernel_rfl) (fun u => by go_simp; try rfl) ?_
        try simp only [Act.put, List.setIfInBounds_toArray, List.set_cons_zero, List.set_cons_succ]
        refine PF.pf_take0 6 (by kernel_rfl) rfl (fun _ _ _ _ _ h => h) (by kernel_rfl) (fun u => by go_simp; try rfl) ?_
        try simp only [Act.put, List.setIfInBounds_toArray, List.set_cons_zero, List.set_cons_succ]
        refine PF.pf_take1 7 (PF.Same (m) _) (by kernel_rfl) rfl (fun _ _ _ _ _ h => h) (by kernel_rfl) (PF.Same.refl _ _) (fun u hu => by have hcu := hu.cell; go_simp; try rfl) ?_
        try simp only [Act.put, List.setIfInBounds_toArray, List.set_cons_zero, List.set_cons_succ]
        refine PF.pf_exec 2 (by kernel_rfl) rfl (by kernel_rfl) (fun K hK => ?_)
        go_simp
        refine hdo.mono ?_
        rintro e w2 ⟨E2, hf2, ⟨A2, c2, rfl, hE2⟩, hb2⟩
        have hsi := sizeof_any c2 hE2 (by rw [← fil_len, hf2]; omega) (by rw [hf2]; omega)
        rw [hf2] at hsi
        refine hK _ _ (by repeat (first | exact PF.owes_nil | refine PF.owes_left ?_ | refine PF.owes_no (by decide +kernel) ?_ | refine PF.owes_yes (by exact hb2.block _ hbm.lt) ?_)) ?_
        clear hK K
        try simp only [Act.put, List.setIfInBounds_toArray, List.set_cons_zero, List.set_cons_succ]
        refine PF.pf_exec 3 (by kernel_rfl) rfl (by kernel_rfl) (fun K hK => ?_)
        go_simp
        refine hsi.mono ?_
        rintro e w3 ⟨rfl, rfl⟩
        refine hK _ _ (by repeat (first | exact PF.owes_nil | refine PF.owes_left ?_ | refine PF.owes_no (by decide +kernel) ?_ | refine PF.owes_yes (by exact hb2.block _ hbm.lt) ?_)) ?_
        clear hK K
        try simp only [Act.put, List.setIfInBounds_toArray, List.set_cons_zero, List.set_cons_succ]
        refine PF.pf_take0 8 (by kernel_rfl) rfl (fun _ _ _ _ _ h => h) (by kernel_rfl) (fun u => by go_simp; try rfl) ?_
        try simp only [Act.put, List.setIfInBounds_toArray, List.set_cons_zero, List.set_cons_succ]
        refine PF.pf_done (by kernel_rfl) ?_
        have hful := rdo_full hx HD.out (c := ⟨ck, cn, ct, (cA, cl.length, cc), cl⟩) HI.out (HT.out) (fun _ => HG.out) hfit.ne h0
        have hbw2 : Below w.heap.size w w2 := hbw.trans ((hbd.trans hb2).mono hbw.size)
        generalize hF2 : (Rc.chg ⟨ck, cn, ct, (cA, cl.length, cc), cl⟩).done x.seen = F2 at *
        have HF2 := Lib.hid hF2
        have HF2' := Lib.hid hf2
        clear hF2 hf2
        by_cases hfu : x.cap < (fsize F2 : Int)
        · have hd1 : decide (x.cap < (fsize F2 : Int)) = true := decide_eq_true hfu
          rw [hd1]
          rw [if_pos hfu] at hful
          have HFUL := Lib.hid hful
          clear hful hfu
          go_wp2_with fail
          go_ret
          exact RDid.same HFUL.out HH.out hbw2
        have hd1 : decide (x.cap < (fsize F2 : Int)) = false := decide_eq_false hfu
        rw [hd1]
        clear hd1
        rw [if_neg hfu] at hful
        have HFUL := Lib.hid hful
        clear hful hfu
        have HFIT := Lib.hid hfit
        have hb12 : Below w1.heap.size w1 w2 := hbd.trans hb2
        have kb2 := kb1.below hb12 kb1.lt
        have hbe : Below w2.heap.size w2 (w2.alloc (.cells #[] 5)) := below_new w2 _
        have hownb : (w2.alloc (.cells #[] 5)).ownsRow w2.heap.size 5 1 (.slice (some ⟨w2.heap.size, 0, none⟩) 0 0) 0 [] := World.ownsRow_made _ _ _ (Nat.le_refl _) (by simp [maxLen]) rfl
        have hcb : Reads (w2.alloc (.cells #[] 5)) 1 cA cl.length (cl.map bv) := (((hcW.below_ hb1).below_ hb12).below_ hbe).bytes
        have z3 := (kb2.below hbe kb2.lt).cell 3
        simp only [List.getElem?_toArray, List.getElem?_cons_zero, List.getElem?_cons_succ] at z3
        clear r0 r1 r2 r3 m2 m2' b0 b1 b2 b3 hdo hsi hfit
        go_wp2_with (at_builtin; refine app_list bytes_ty rfl (s := .tmp 56) (x := .tmp 58) rfl hownb rfl hcb rfl (bv_one cl) (by omega) hbe.size ?_; intro v4 w4 ho4 hg4 _; refine Hid.out ?_)
        have hb4 : Below w2.heap.size w2 w4 := hbe.grown hg4 hbe.size (own_ge hownb)
        obtain ⟨A4, c4, rfl, _, _⟩ := own_slice ho4
        simp only [Nat.zero_add, List.nil_append] at ho4 ⊢
        refine Lib.hid ?_
        have kb4 := kb2.below hb4 kb2.lt
        have z4 := kb4.cell 3
        have g4 := kb4.free 3
        simp only [List.getElem?_toArray, List.getElem?_cons_zero, List.getElem?_cons_succ] at z4
        clear z3 hownb hcb hbe hg4
        go_wp2_with fail
        have hlw := kb4.lt
        have hw24 := hbw2.size
        have hb5 : Below w.heap.size w (w4.setCell ⟨w.heap.size, 3, none⟩ (.slice A4 cl.length c4)) := ((Mod.below (S := fun _ => False) (hbw2.trans (hb4.mono hbw2.size)) (Nat.le_refl _)).set (p := ⟨w.heap.size, 3, none⟩) (fun h => absurd h (Nat.lt_irrefl _)) _).to_below (Nat.le_refl _) fun _ _ h => h
        have hm5 : Mod (fun b => b = w.heap.size) w4 (w4.setCell ⟨w.heap.size, 3, none⟩ (.slice A4 cl.length c4)) := (Mod.refl _ _).setm _ _
        have kb5 : Blk (w4.setCell ⟨w.heap.size, 3, none⟩ (.slice A4 cl.length c4)) w.heap.size 84 #[.int .i64 ck, .string ⟨cn.toArray⟩, .string ⟨ct.toArray⟩, .slice A4 cl.length c4] := kb4.put 3 _
        have hbi5 : BytesIn (w4.setCell ⟨w.heap.size, 3, none⟩ (.slice A4 cl.length c4)) (From w2.heap.size w4) (A4, cl.length, c4) cl := (BytesIn.of_own ho4 fun b h1 h2 => ⟨h1, h2⟩).mod hm5 fun b hb e => by have := hb.1; have := kb2.lt; omega
        have hz5 : w4.heap.size ≤ (w4.setCell ⟨w.heap.size, 3, none⟩ (.slice A4 cl.length c4)).heap.size := hm5.size
        generalize w4.setCell ⟨w.heap.size, 3, none⟩ (.slice A4 cl.length c4) = w5 at *
        have hbm5 := HR0.out.blk.below hb5 HR0.out.blk.lt
        have hch5 := HR0.out.chgs.below hb5
        have hbd5 : Below w5.heap.size w5 w5.drew := (Below.refl _ _).drew
        have e1 := (Blk.below hbm5 hbd5 hbm5.lt).cell 1
        have p0 := (Blk.below kb5 hbd5 kb5.lt).cell 0
        have p1 := (Blk.below kb5 hbd5 kb5.lt).cell 1
        have p2 := (Blk.below kb5 hbd5 kb5.lt).cell 2
        have p3 := (Blk.below kb5 hbd5 kb5.lt).cell 3
        simp only [List.getElem?_toArray, List.getElem?_cons_zero, List.getElem?_cons_succ] at e1 p0 p1 p2 p3
        have HLM := Lib.hid hbm5.lt
        have HLB := Lib.hid kb5.lt
        clear hm5 z4 g4 ho4
        refine PF.pf_begin (by kernel_rfl) ?_
        refine PF.pf_take0 0 (by kernel_rfl) rfl (fun _ _ _ _ _ h => h) (by kernel_rfl) (fun u => by go_simp; try rfl) ?_
        try simp only [Act.put, List.setIfInBounds_toArray, List.set_cons_zero, List.set_cons_succ]
        refine PF.pf_take0 2 (by kernel_rfl) rfl (fun _ _ _ _ _ h => h) (by kernel_rfl) (fun u => by go_simp; try rfl) ?_
        try simp only [Act.put, List.setIfInBounds_toArray, List.set_cons_zero, List.set_cons_succ]
        refine PF.pf_take0 3 (by kernel_rfl) rfl (fun _ _ _ _ _ h => h) (by kernel_rfl) (fun u => by go_simp; try rfl) ?_
        try simp only [Act.put, List.setIfInBounds_toArray, List.set_cons_zero, List.set_cons_succ]
        refine PF.pf_take0 4 (by kernel_rfl) rfl (fun _ _ _ _ _ h => h) (by kernel_rfl) (fun u => by go_simp; try rfl) ?_
        try simp only [Act.put, List.setIfInBounds_toArray, List.set_cons_zero, List.set_cons_succ]
        refine PF.pf_take1 5 (PF.Same (m) _) (by kernel_rfl) rfl (fun _ _ _ _ _ h => h) (by kernel_rfl) (PF.Same.refl _ _) (fun u hu => by have hcu := hu.cell; go_simp; try rfl) ?_
        try simp only [Act.put, List.setIfInBounds_toArray, List.set_cons_zero, List.set_cons_succ]
        refine PF.pf_take1 7 (PF.Same (w.heap.size) _) (by kernel_rfl) rfl (fun _ _ _ _ _ h => h) (by kernel_rfl) (PF.Same.refl _ _) (fun u hu => by have hcu := hu.cell; go_simp; try rfl) ?_
        try simp only [Act.put, List.setIfInBounds_toArray, List.set_cons_zero, List.set_cons_succ]
        refine PF.pf_fork [1, 8] (by kernel_rfl) rfl (PF.fork_cons ?_ (PF.fork_cons ?_ PF.fork_nil))
        -- number 1 first
        · refine PF.step_one rfl (by kernel_rfl) (fun K hK => ?_)
          go_simp
          have hba : Below w5.heap.size w5 (w5.alloc (.cells #[] 84)).drew := (below_new w5 _).drew
          have ho1 : (w5.alloc (.cells #[] 84)).drew.ownsRow w5.heap.size 84 4 (.slice (some ⟨w5.heap.size, 0, none⟩) 0 0) 0 [] := World.ownsRow_made _ _ _ (Nat.le_refl _) (by simp [maxLen]) rfl
          have hrl := (hch5.below hba).row
          refine hK _ _ (by repeat (first | exact PF.owes_nil | refine PF.owes_left ?_ | refine PF.owes_no (by decide +kernel) ?_ | refine PF.owes_yes (by first | exact hba.block _ HLM.out | exact hba.block _ HLB.out | exact hbb.block _ HLM.out | exact hbb.block _ HLB.out) ?_)) ?_
          clear hK K
          try simp only [Act.put, List.setIfInBounds_toArray, List.set_cons_zero, List.set_cons_succ]
          refine PF.pf_fork [6, 8] (by kernel_rfl) rfl (PF.fork_cons ?_ (PF.fork_cons ?_ PF.fork_nil))
          -- number 6 first
          · refine PF.step_one rfl (by kernel_rfl) (fun K hK => ?_)
            refine app_wp chg_row_ty rfl ho1 rfl hrl rfl (crow_one l) (by omega) hba.size ?_
            intro v6 w6 ho6 hg6 _
            obtain ⟨A6, c6, rfl, _, _⟩ := own_slice ho6
            simp only [Nat.zero_add, List.nil_append] at ho6 ⊢
            have hb6 := hba.grown hg6 hba.size (own_ge ho1)
            refine hK _ _ (by repeat (first | exact PF.owes_nil | refine PF.owes_left ?_ | refine PF.owes_no (by decide +kernel) ?_ | refine PF.owes_yes (by first | exact hb6.block _ HLM.out | exact hb6.block _ HLB.out) ?_)) ?_
            clear hK K
            try simp only [Act.put, List.setIfInBounds_toArray, List.set_cons_zero, List.set_cons_succ]
            refine PF.pf_exec 8 (by kernel_rfl) rfl (by kernel_rfl) (fun K hK => ?_)
            go_simp
            have hr8 := Reads.block4 w6 84 (.int .i64 ck) (.string ⟨cn.toArray⟩) (.string ⟨ct.toArray⟩) (.slice A4 cl.length c4)
            have hoF := ho6.alloc (.cells #[.int .i64 ck, .string ⟨cn.toArray⟩, .string ⟨ct.toArray⟩, .slice A4 cl.length c4] 84)
            have hbF := hb6.alloc hb6.size (.cells #[.int .i64 ck, .string ⟨cn.toArray⟩, .string ⟨ct.toArray⟩, .slice A4 cl.length c4] 84)
            refine hK _ _ (by repeat (first | exact PF.owes_nil | refine PF.owes_left ?_ | refine PF.owes_no (by decide +kernel) ?_ | refine PF.owes_yes (by first | exact hbF.block _ HLM.out | exact hbF.block _ HLB.out | exact hbb.block _ HLM.out | exact hbb.block _ HLB.out | exact hb8.block _ HLM.out | exact hb8.block _ HLB.out) ?_)) ?_
            clear hK K
            try simp only [Act.put, List.setIfInBounds_toArray, List.set_cons_zero, List.set_cons_succ]
            refine PF.pf_exec 9 (by kernel_rfl) rfl (by kernel_rfl) (fun K hK => ?_)
            refine app_wp chg_row_ty rfl hoF rfl hr8 rfl (rcells_one ⟨ck, cn, ct, (A4, cl.length, c4), cl⟩) (by omega) hbF.size ?_
            intro v9 w9 ho9 hg9 _
            obtain ⟨A9, c9, rfl, _, _⟩ := own_slice ho9
            have hb9 := hbF.grown hg9 hbF.size (own_ge hoF)
            have kb9 := hbm5.below hb9 hbm5.lt
            have q9 := kb9.cell 1
            have f9 := kb9.free 1
            simp only [List.getElem?_toArray, List.getElem?_cons_zero, List.getElem?_cons_succ] at q9
            refine hK _ _ (by repeat (first | exact PF.owes_nil | refine PF.owes_left ?_ | refine PF.owes_no (by decide +kernel) ?_ | refine PF.owes_yes (by first | exact hb9.block _ HLM.out | exact hb9.block _ HLB.out) ?_)) ?_
            clear hK K
            try simp only [Act.put, List.setIfInBounds_toArray, List.set_cons_zero, List.set_cons_succ]
            refine PF.pf_take0 10 (by kernel_rfl) rfl (fun _ _ _ _ _ h => h) (by kernel_rfl) (fun u => by go_simp; try rfl) ?_
            try simp only [Act.put, List.setIfInBounds_toArray, List.set_cons_zero, List.set_cons_succ]
            refine PF.pf_take0 11 (by kernel_rfl) rfl (fun _ _ _ _ _ h => h) (by kernel_rfl) (fun u => by go_simp; try rfl) ?_
            try simp only [Act.put, List.setIfInBounds_toArray, List.set_cons_zero, List.set_cons_succ]
            refine PF.pf_exec 12 (by kernel_rfl) rfl (by kernel_rfl) (fun K hK => ?_)
            go_simp
            refine hK _ _ (by repeat (first | exact PF.owes_nil | refine PF.owes_left ?_ | refine PF.owes_no (by decide +kernel) ?_ | refine PF.owes_yes (by first | rfl | assumption | go_simp) ?_)) ?_
            clear hK K
            try simp only [Act.put, List.setIfInBounds_toArray, List.set_cons_zero, List.set_cons_succ]
            refine PF.pf_done (by kernel_rfl) ?_
            go_wp2_with fail
            go_ret
            rw [HFUL.out]
            exact ⟨rfl, does_fin (c' := ⟨ck, cn, ct, (A4, cl.length, c4), cl⟩) HH.out HR0.out (hb5.trans (hb9.mono hb5.size)) ((hbi5.below_ hb9).mono fun b h => ⟨by have := h.1; omega, by have := h.2; have := hb9.size; omega⟩) ⟨HFIT.out.ne, HFIT.out.small⟩ hb5.size ho9 rfl⟩
          -- number 8 first
          · refine PF.step_one rfl (by kernel_rfl) (fun K hK => ?_)
            go_simp
            have hbb : Below w5.heap.size w5 ((w5.alloc (.cells #[] 84)).alloc (.cells #[.int .i64 ck, .string ⟨cn.toArray⟩, .string ⟨ct.toArray⟩, .slice A4 cl.length c4] 84)).drew := ((below_new w5 _).alloc (below_new w5 (.cells #[] 84)).size _).drew
            have ho1' : ((w5.alloc (.cells #[] 84)).alloc (.cells #[.int .i64 ck, .string ⟨cn.toArray⟩, .string ⟨ct.toArray⟩, .slice A4 cl.length c4] 84)).drew.ownsRow w5.heap.size 84 4 (.slice (some ⟨w5.heap.size, 0, none⟩) 0 0) 0 [] := World.ownsRow.alloc (w := w5.alloc (.cells #[] 84)) ho1 (.cells #[.int .i64 ck, .string ⟨cn.toArray⟩, .string ⟨ct.toArray⟩, .slice A4 cl.length c4] 84)
            have hrl' := (hch5.below hbb).row
            have hr8' : Reads ((w5.alloc (.cells #[] 84)).alloc (.cells #[.int .i64 ck, .string ⟨cn.toArray⟩, .string ⟨ct.toArray⟩, .slice A4 cl.length c4] 84)).drew 4 (some ⟨w5.heap.size + 1, 0, none⟩) 1 [.int .i64 ck, .string ⟨cn.toArray⟩, .string ⟨ct.toArray⟩, .slice A4 cl.length c4] := by have this := Reads.block4 (w5.alloc (.cells #[] 84)) 84 (.int .i64 ck) (.string ⟨cn.toArray⟩) (.string ⟨ct.toArray⟩) (.slice A4 cl.length c4); rw [show (w5.alloc (.cells #[] 84)).heap.size = w5.heap.size + 1 by simp] at this; exact this
            have HKR : Hid (∀ u, ((w5.alloc (.cells #[] 84)).alloc (.cells #[.int .i64 ck, .string ⟨cn.toArray⟩, .string ⟨ct.toArray⟩, .slice A4 cl.length c4] 84)).drew.grownBy u (Value.ownBlock (.slice (some ⟨w5.heap.size, 0, none⟩) 0 0)) → Reads u 4 (some ⟨w5.heap.size + 1, 0, none⟩) 1 [.int .i64 ck, .string ⟨cn.toArray⟩, .string ⟨ct.toArray⟩, .slice A4 cl.length c4]) := fun u hg => Reads.mod hr8' (Mod.grown (S := fun b => b = w5.heap.size) hg (by intro g e _; injection e with e; exact e.symm)) (by intro ad e; injection e with e; subst e; show ¬ w5.heap.size + 1 = w5.heap.size; omega)
            refine hK _ _ (by repeat (first | exact PF.owes_nil | refine PF.owes_left ?_ | refine PF.owes_no (by decide +kernel) ?_ | refine PF.owes_yes (by first | exact hbF.block _ HLM.out | exact hbF.block _ HLB.out | exact hbb.block _ HLM.out | exact hbb.block _ HLB.out | exact hb8.block _ HLM.out | exact hb8.block _ HLB.out) ?_)) ?_
            clear hK K
            try simp only [Act.put, List.setIfInBounds_toArray, List.set_cons_zero, List.set_cons_succ]
            refine PF.pf_exec 6 (by kernel_rfl) rfl (by kernel_rfl) (fun K hK => ?_)
            refine app_wp chg_row_ty rfl ho1' rfl hrl' rfl (crow_one l) (by omega) hbb.size ?_
            intro v6 w6 ho6 hg6 _
            obtain ⟨A6, c6, rfl, _, _⟩ := own_slice ho6
            simp only [Nat.zero_add, List.nil_append] at ho6 ⊢
            have hb6 := hbb.grown hg6 hbb.size (own_ge ho1')
            have hr8 := HKR.out _ hg6
            have hoF := ho6
            have hbF := hb6
            refine hK _ _ (by repeat (first | exact PF.owes_nil | refine PF.owes_left ?_ | refine PF.owes_no (by decide +kernel) ?_ | refine PF.owes_yes (by first | exact hb6.block _ HLM.out | exact hb6.block _ HLB.out) ?_)) ?_
            clear hK K
            try simp only [Act.put, List.setIfInBounds_toArray, List.set_cons_zero, List.set_cons_succ]
            refine PF.pf_exec 9 (by kernel_rfl) rfl (by kernel_rfl) (fun K hK => ?_)
            refine app_wp chg_row_ty rfl hoF rfl hr8 rfl (rcells_one ⟨ck, cn, ct, (A4, cl.length, c4), cl⟩) (by omega) hbF.size ?_
            intro v9 w9 ho9 hg9 _
            obtain ⟨A9, c9, rfl, _, _⟩ := own_slice ho9
            have hb9 := hbF.grown hg9 hbF.size (own_ge hoF)
            have kb9 := hbm5.below hb9 hbm5.lt
            have q9 := kb9.cell 1
            have f9 := kb9.free 1
            simp only [List.getElem?_toArray, List.getElem?_cons_zero, List.getElem?_cons_succ] at q9
            refine hK _ _ (by repeat (first | exact PF.owes_nil | refine PF.owes_left ?_ | refine PF.owes_no (by decide +kernel) ?_ | refine PF.owes_yes (by first | exact hb9.block _ HLM.out | exact hb9.block _ HLB.out) ?_)) ?_
            clear hK K
            try simp only [Act.put, List.setIfInBounds_toArray, List.set_cons_zero, List.set_cons_succ]
            refine PF.pf_take0 10 (by kernel_rfl) rfl (fun _ _ _ _ _ h => h) (by kernel_rfl) (fun u => by go_simp; try rfl) ?_
            try simp only [Act.put, List.setIfInBounds_toArray, List.set_cons_zero, List.set_cons_succ]
            refine PF.pf_take0 11 (by kernel_rfl) rfl (fun _ _ _ _ _ h => h) (by kernel_rfl) (fun u => by go_simp; try rfl) ?_
            try simp only [Act.put, List.setIfInBounds_toArray, List.set_cons_zero, List.set_cons_succ]
            refine PF.pf_exec 12 (by kernel_rfl) rfl (by kernel_rfl) (fun K hK => ?_)
            go_simp
            refine hK _ _ (by repeat (first | exact PF.owes_nil | refine PF.owes_left ?_ | refine PF.owes_no (by decide +kernel) ?_ | refine PF.owes_yes (by first | rfl | assumption | go_simp) ?_)) ?_
            clear hK K
            try simp only [Act.put, List.setIfInBounds_toArray, List.set_cons_zero, List.set_cons_succ]
            refine PF.pf_done (by kernel_rfl) ?_
            go_wp2_with fail
            go_ret
            rw [HFUL.out]
            exact ⟨rfl, does_fin (c' := ⟨ck, cn, ct, (A4, cl.length, c4), cl⟩) HH.out HR0.out (hb5.trans (hb9.mono hb5.size)) ((hbi5.below_ hb9).mono fun b h => ⟨by have := h.1; omega, by have := h.2; have := hb9.size; omega⟩) ⟨HFIT.out.ne, HFIT.out.small⟩ hb5.size ho9 rfl⟩
        -- number 8 first
        · refine PF.step_one rfl (by kernel_rfl) (fun K hK => ?_)
          go_simp
          have hb8 : Below w5.heap.size w5 (w5.alloc (.cells #[.int .i64 ck, .string ⟨cn.toArray⟩, .string ⟨ct.toArray⟩, .slice A4 cl.length c4] 84)).drew := (below_new w5 _).drew
          refine hK _ _ (by repeat (first | exact PF.owes_nil | refine PF.owes_left ?_ | refine PF.owes_no (by decide +kernel) ?_ | refine PF.owes_yes (by first | exact hbF.block _ HLM.out | exact hbF.block _ HLB.out | exact hbb.block _ HLM.out | exact hbb.block _ HLB.out | exact hb8.block _ HLM.out | exact hb8.block _ HLB.out) ?_)) ?_
          clear hK K
          try simp only [Act.put, List.setIfInBounds_toArray, List.set_cons_zero, List.set_cons_succ]
          refine PF.pf_exec 1 (by kernel_rfl) rfl (by kernel_rfl) (fun K hK => ?_)
          go_simp
          have hbb : Below w5.heap.size w5 ((w5.alloc (.cells #[.int .i64 ck, .string ⟨cn.toArray⟩, .string ⟨ct.toArray⟩, .slice A4 cl.length c4] 84)).alloc (.cells #[] 84)).drew := ((below_new w5 _).alloc (below_new w5 (.cells #[.int .i64 ck, .string ⟨cn.toArray⟩, .string ⟨ct.toArray⟩, .slice A4 cl.length c4] 84)).size _).drew
          have ho1' : ((w5.alloc (.cells #[.int .i64 ck, .string ⟨cn.toArray⟩, .string ⟨ct.toArray⟩, .slice A4 cl.length c4] 84)).alloc (.cells #[] 84)).drew.ownsRow w5.heap.size 84 4 (.slice (some ⟨w5.heap.size + 1, 0, none⟩) 0 0) 0 [] := by have this := World.ownsRow_made (base := w5.heap.size) (size := 4) (e := 84) (w5.alloc (.cells #[.int .i64 ck, .string ⟨cn.toArray⟩, .string ⟨ct.toArray⟩, .slice A4 cl.length c4] 84)) #[] 0 (by simp) (by simp [maxLen]) rfl; rw [show (w5.alloc (.cells #[.int .i64 ck, .string ⟨cn.toArray⟩, .string ⟨ct.toArray⟩, .slice A4 cl.length c4] 84)).heap.size = w5.heap.size + 1 by simp] at this; exact this
          have hrl' := (hch5.below hbb).row
          have hr8' : Reads ((w5.alloc (.cells #[.int .i64 ck, .string ⟨cn.toArray⟩, .string ⟨ct.toArray⟩, .slice A4 cl.length c4] 84)).alloc (.cells #[] 84)).drew 4 (some ⟨w5.heap.size, 0, none⟩) 1 [.int .i64 ck, .string ⟨cn.toArray⟩, .string ⟨ct.toArray⟩, .slice A4 cl.length c4] := (Reads.block4 w5 84 (.int .i64 ck) (.string ⟨cn.toArray⟩) (.string ⟨ct.toArray⟩) (.slice A4 cl.length c4)).below (below_new (w5.alloc (.cells #[.int .i64 ck, .string ⟨cn.toArray⟩, .string ⟨ct.toArray⟩, .slice A4 cl.length c4] 84)) (.cells #[] 84)).drew
          have HKR : Hid (∀ u, ((w5.alloc (.cells #[.int .i64 ck, .string ⟨cn.toArray⟩, .string ⟨ct.toArray⟩, .slice A4 cl.length c4] 84)).alloc (.cells #[] 84)).drew.grownBy u (Value.ownBlock (.slice (some ⟨w5.heap.size + 1, 0, none⟩) 0 0)) → Reads u 4 (some ⟨w5.heap.size, 0, none⟩) 1 [.int .i64 ck, .string ⟨cn.toArray⟩, .string ⟨ct.toArray⟩, .slice A4 cl.length c4]) := fun u hg => Reads.mod hr8' (Mod.grown (S := fun b => b = w5.heap.size + 1) hg (by intro g e _; injection e with e; exact e.symm)) (by intro ad e; injection e with e; subst e; show ¬ w5.heap.size = w5.heap.size + 1; omega)
          refine hK _ _ (by repeat (first | exact PF.owes_nil | refine PF.owes_left ?_ | refine PF.owes_no (by decide +kernel) ?_ | refine PF.owes_yes (by first | exact hba.block _ HLM.out | exact hba.block _ HLB.out | exact hbb.block _ HLM.out | exact hbb.block _ HLB.out) ?_)) ?_
          clear hK K
          try simp only [Act.put, List.setIfInBounds_toArray, List.set_cons_zero, List.set_cons_succ]
          refine PF.pf_exec 6 (by kernel_rfl) rfl (by kernel_rfl) (fun K hK => ?_)
          refine app_wp chg_row_ty rfl ho1' rfl hrl' rfl (crow_one l) (by omega) hbb.size ?_
          intro v6 w6 ho6 hg6 _
          obtain ⟨A6, c6, rfl, _, _⟩ := own_slice ho6
          simp only [Nat.zero_add, List.nil_append] at ho6 ⊢
          have hb6 := hbb.grown hg6 hbb.size (own_ge ho1')
          have hr8 := HKR.out _ hg6
          have hoF := ho6
          have hbF := hb6
          refine hK _ _ (by repeat (first | exact PF.owes_nil | refine PF.owes_left ?_ | refine PF.owes_no (by decide +kernel) ?_ | refine PF.owes_yes (by first | exact hb6.block _ HLM.out | exact hb6.block _ HLB.out) ?_)) ?_
          clear hK K
          try simp only [Act.put, List.setIfInBounds_toArray, List.set_cons_zero, List.set_cons_succ]
          refine PF.pf_exec 9 (by kernel_rfl) rfl (by kernel_rfl) (fun K hK => ?_)
          refine app_wp chg_row_ty rfl hoF rfl hr8 rfl (rcells_one ⟨ck, cn, ct, (A4, cl.length, c4), cl⟩) (by omega) hbF.size ?_
          intro v9 w9 ho9 hg9 _
          obtain ⟨A9, c9, rfl, _, _⟩ := own_slice ho9
          have hb9 := hbF.grown hg9 hbF.size (own_ge hoF)
          have kb9 := hbm5.below hb9 hbm5.lt
          have q9 := kb9.cell 1
          have f9 := kb9.free 1
          simp only [List.getElem?_toArray, List.getElem?_cons_zero, List.getElem?_cons_succ] at q9
          refine hK _ _ (by repeat (first | exact PF.owes_nil | refine PF.owes_left ?_ | refine PF.owes_no (by decide +kernel) ?_ | refine PF.owes_yes (by first | exact hb9.block _ HLM.out | exact hb9.block _ HLB.out) ?_)) ?_
          clear hK K
          try simp only [Act.put, List.setIfInBounds_toArray, List.set_cons_zero, List.set_cons_succ]
          refine PF.pf_take0 10 (by kernel_rfl) rfl (fun _ _ _ _ _ h => h) (by kernel_rfl) (fun u => by go_simp; try rfl) ?_
          try simp only [Act.put, List.setIfInBounds_toArray, List.set_cons_zero, List.set_cons_succ]
          refine PF.pf_take0 11 (by kernel_rfl) rfl (fun _ _ _ _ _ h => h) (by kernel_rfl) (fun u => by go_simp; try rfl) ?_
          try simp only [Act.put, List.setIfInBounds_toArray, List.set_cons_zero, List.set_cons_succ]
          refine PF.pf_exec 12 (by kernel_rfl) rfl (by kernel_rfl) (fun K hK => ?_)
          go_simp
          refine hK _ _ (by repeat (first | exact PF.owes_nil | refine PF.owes_left ?_ | refine PF.owes_no (by decide +kernel) ?_ | refine PF.owes_yes (by first | rfl | assumption | go_simp) ?_)) ?_
          clear hK K
          try simp only [Act.put, List.setIfInBounds_toArray, List.set_cons_zero, List.set_cons_succ]
          refine PF.pf_done (by kernel_rfl) ?_
          go_wp2_with fail
          go_ret
          rw [HFUL.out]
          exact ⟨rfl, does_fin (c' := ⟨ck, cn, ct, (A4, cl.length, c4), cl⟩) HH.out HR0.out (hb5.trans (hb9.mono hb5.size)) ((hbi5.below_ hb9).mono fun b h => ⟨by have := h.1; omega, by have := h.2; have := hb9.size; omega⟩) ⟨HFIT.out.ne, HFIT.out.small⟩ hb5.size ho9 rfl⟩
      · have f3 : decide (2 ≤ ck) = false := decide_eq_false k3
        have HK := Lib.hid k3
        have HK2 := Lib.hid k2
        clear k2 k3 hn2
        go_enter Try.func50, Try.ntmps50
        have hWW := HWW.out
        subst hWW
        go_wp2_with fail
        refine hn1.mono ?_
        rintro e w1 ⟨rfl, rfl⟩
        go_wp2_with fail
        refine hse.mono ?_
        rintro e w1 ⟨E1, hf1, ⟨A1, c1, rfl, hE1⟩, hb1⟩
        have HF1 := Lib.hid hf1
        have hl1 : E1.length ≤ 1000000 := by rw [← fil_len, hf1]; exact hxl
        have kb1 := kb.below hb1 kb.lt
        have b0 := kb1.cell 0
        have b1 := kb1.cell 1
        have b2 := kb1.cell 2
        have b3 := kb1.cell 3
        simp only [List.getElem?_toArray, List.getElem?_cons_zero, List.getElem?_cons_succ] at b0 b1 b2 b3
        have hbw : Below w.heap.size w w1 := hbx.trans (hb1.mono hbx.size)
        clear hse hf1 q4
        have hgl : ((fget cn (fil E1)).getD []).length ≤ 1000000 := by
          rw [HF1.out]
          have h1 := flen_le hx.srts cn
          have h2 := hx.seen_le
          have h3 := hx.c1
          unfold flen at h1
          omega
        have hbd : Below w1.heap.size w1 w1.drew := (Below.refl _ _).drew
        have hdo := done_any c1 (hE1.below hbd) hl1 ⟨ck, cn, ct, (cA, cl.length, cc), cl⟩ ((hcW.below_ hb1).below_ hbd) hcl hgl
        have hfit : Rc.fit ⟨ck, cn, ct, (cA, cl.length, cc), cl⟩ := ⟨fun e => absurd e HK2.out, hcl⟩
        have hsr : Srt (fil E1) := by rw [HF1.out]; exact hx.srts
        rw [Rc.done_eq hsr hfit.ne, HF1.out] at hdo
        have hsz := chg_size hx.srts _ hfit
        have hle := hx.seen_le
        have hc1 := hx.c1
        have hln := done_len x.seen (Rc.chg ⟨ck, cn, ct, (cA, cl.length, cc), cl⟩)
        unfold Rc.val sv at hdo
        simp only at hdo hsz
        have r0 := (Blk.below kb1 hbd kb1.lt).cell 0
        have r1 := (Blk.below kb1 hbd kb1.lt).cell 1
        have r2 := (Blk.below kb1 hbd kb1.lt).cell 2
        have r3 := (Blk.below kb1 hbd kb1.lt).cell 3
        simp only [List.getElem?_toArray, List.getElem?_cons_zero, List.getElem?_cons_succ] at r0 r1 r2 r3
        have hbm := hR.blk.below hb1 hR.blk.lt
        have m2 := hbm.cell 2
        have m2' := (Blk.below hbm hbd hbm.lt).cell 2
        simp only [List.getElem?_toArray, List.getElem?_cons_zero, List.getElem?_cons_succ] at m2 m2'
        go_wp2_with fail
        refine PF.pf_begin (by kernel_rfl) ?_
        refine PF.pf_take0 0 (by kernel_rfl) rfl (fun _ _ _ _ _ h => h) (by kernel_rfl) (fun u => by go_simp; try rfl) ?_
        try simp only [Act.put, List.setIfInBounds_toArray, List.set_cons_zero, List.set_cons_succ]
        refine PF.pf_take1 1 (PF.Same (w.heap.size) _) (by kernel_rfl) rfl (fun _ _ _ _ _ h => h) (by kernel_rfl) (PF.Same.refl _ _) (fun u hu => by have hcu := hu.cell; go_simp; try rfl) ?_
        try simp only [Act.put, List.setIfInBounds_toArray, List.set_cons_zero, List.set_cons_succ]
        refine PF.pf_take0 4 (by kernel_rfl) rfl (fun _ _ _ _ _ h => h) (by kernel_rfl) (fun u => by go_simp; try rfl) ?_
        try simp only [Act.put, List.setIfInBounds_toArray, List.set_cons_zero, List.set_cons_succ]
        refine PF.pf_take0 5 (by kernel_rfl) rfl (fun _ _ _ _ _ h => h) (by kernel_rfl) (fun u => by go_simp; try rfl) ?_
        try simp only [Act.put, List.setIfInBounds_toArray, List.set_cons_zero, List.set_cons_succ]
        refine PF.pf_take0 6 (by kernel_rfl) rfl (fun _ _ _ _ _ h => h) (by kernel_rfl) (fun u => by go_simp; try rfl) ?_
        try simp only [Act.put, List.setIfInBounds_toArray, List.set_cons_zero, List.set_cons_succ]
        refine PF.pf_take1 7 (PF.Same (m) _) (by kernel_rfl) rfl (fun _ _ _ _ _ h => h) (by kernel_rfl) (PF.Same.refl _ _) (fun u hu => by have hcu := hu.cell; go_simp; try rfl) ?_
        try simp only [Act.put, List.setIfInBounds_toArray, List.set_cons_zero, List.set_cons_succ]
        refine PF.pf_exec 2 (by kernel_rfl) rfl (by kernel_rfl) (fun K hK => ?_)
        go_simp
        refine hdo.mono ?_
        rintro e w2 ⟨E2, hf2, ⟨A2, c2, rfl, hE2⟩, hb2⟩
        have hsi := sizeof_any c2 hE2 (by rw [← fil_len, hf2]; omega) (by rw [hf2]; omega)
        rw [hf2] at hsi
        refine hK _ _ (by repeat (first | exact PF.owes_nil | refine PF.owes_left ?_ | refine PF.owes_no (by decide +kernel) ?_ | refine PF.owes_yes (by exact hb2.block _ hbm.lt) ?_)) ?_
        clear hK K
        try simp only [Act.put, List.setIfInBounds_toArray, List.set_cons_zero, List.set_cons_succ]
        refine PF.pf_exec 3 (by kernel_rfl) rfl (by kernel_rfl) (fun K hK => ?_)
        go_simp
        refine hsi.mono ?_
        rintro e w3 ⟨rfl, rfl⟩
        refine hK _ _ (by repeat (first | exact PF.owes_nil | refine PF.owes_left ?_ | refine PF.owes_no (by decide +kernel) ?_ | refine PF.owes_yes (by exact hb2.block _ hbm.lt) ?_)) ?_
        clear hK K
        try simp only [Act.put, List.setIfInBounds_toArray, List.set_cons_zero, List.set_cons_succ]
        refine PF.pf_take0 8 (by kernel_rfl) rfl (fun _ _ _ _ _ h => h) (by kernel_rfl) (fun u => by go_simp; try rfl) ?_
        try simp only [Act.put, List.setIfInBounds_toArray, List.set_cons_zero, List.set_cons_succ]
        refine PF.pf_done (by kernel_rfl) ?_
        have hful := rdo_full hx HD.out (c := ⟨ck, cn, ct, (cA, cl.length, cc), cl⟩) HI.out (HT.out) (fun e => absurd e (Int.not_le.2 HK.out)) hfit.ne h0
        have hbw2 : Below w.heap.size w w2 := hbw.trans ((hbd.trans hb2).mono hbw.size)
        generalize hF2 : (Rc.chg ⟨ck, cn, ct, (cA, cl.length, cc), cl⟩).done x.seen = F2 at *
        have HF2 := Lib.hid hF2
        have HF2' := Lib.hid hf2
        clear hF2 hf2
        by_cases hfu : x.cap < (fsize F2 : Int)
        · have hd1 : decide (x.cap < (fsize F2 : Int)) = true := decide_eq_true hfu
          rw [hd1]
          rw [if_pos hfu] at hful
          have HFUL := Lib.hid hful
          clear hful hfu
          go_wp2_with fail
          go_ret
          exact RDid.same HFUL.out HH.out hbw2
        have hd1 : decide (x.cap < (fsize F2 : Int)) = false := decide_eq_false hfu
        rw [hd1]
        clear hd1
        rw [if_neg hfu] at hful
        have HFUL := Lib.hid hful
        clear hful hfu
        have HFIT := Lib.hid hfit
        have hb12 : Below w1.heap.size w1 w2 := hbd.trans hb2
        have kb2 := kb1.below hb12 kb1.lt
        have hbe : Below w2.heap.size w2 (w2.alloc (.cells #[] 5)) := below_new w2 _
        have hownb : (w2.alloc (.cells #[] 5)).ownsRow w2.heap.size 5 1 (.slice (some ⟨w2.heap.size, 0, none⟩) 0 0) 0 [] := World.ownsRow_made _ _ _ (Nat.le_refl _) (by simp [maxLen]) rfl
        have hcb : Reads (w2.alloc (.cells #[] 5)) 1 cA cl.length (cl.map bv) := (((hcW.below_ hb1).below_ hb12).below_ hbe).bytes
        have z3 := (kb2.below hbe kb2.lt).cell 3
        simp only [List.getElem?_toArray, List.getElem?_cons_zero, List.getElem?_cons_succ] at z3
        clear r0 r1 r2 r3 m2 m2' b0 b1 b2 b3 hdo hsi hfit
        go_wp2_with (at_builtin; refine app_list bytes_ty rfl (s := .tmp 56) (x := .tmp 58) rfl hownb rfl hcb rfl (bv_one cl) (by omega) hbe.size ?_; intro v4 w4 ho4 hg4 _; refine Hid.out ?_)
        have hb4 : Below w2.heap.size w2 w4 := hbe.grown hg4 hbe.size (own_ge hownb)
        obtain ⟨A4, c4, rfl, _, _⟩ := own_slice ho4
        simp only [Nat.zero_add, List.nil_append] at ho4 ⊢
        refine Lib.hid ?_
        have kb4 := kb2.below hb4 kb2.lt
        have z4 := kb4.cell 3
        have g4 := kb4.free 3
        simp only [List.getElem?_toArray, List.getElem?_cons_zero, List.getElem?_cons_succ] at z4
        clear z3 hownb hcb hbe hg4
        go_wp2_with fail
        have hlw := kb4.lt
        have hw24 := hbw2.size
        have hb5 : Below w.heap.size w (w4.setCell ⟨w.heap.size, 3, none⟩ (.slice A4 cl.length c4)) := ((Mod.below (S := fun _ => False) (hbw2.trans (hb4.mono hbw2.size)) (Nat.le_refl _)).set (p := ⟨w.heap.size, 3, none⟩) (fun h => absurd h (Nat.lt_irrefl _)) _).to_below (Nat.le_refl _) fun _ _ h => h
        have hm5 : Mod (fun b => b = w.heap.size) w4 (w4.setCell ⟨w.heap.size, 3, none⟩ (.slice A4 cl.length c4)) := (Mod.refl _ _).setm _ _
        have kb5 : Blk (w4.setCell ⟨w.heap.size, 3, none⟩ (.slice A4 cl.length c4)) w.heap.size 84 #[.int .i64 ck, .string ⟨cn.toArray⟩, .string ⟨ct.toArray⟩, .slice A4 cl.length c4] := kb4.put 3 _
        have hbi5 : BytesIn (w4.setCell ⟨w.heap.size, 3, none⟩ (.slice A4 cl.length c4)) (From w2.heap.size w4) (A4, cl.length, c4) cl := (BytesIn.of_own ho4 fun b h1 h2 => ⟨h1, h2⟩).mod hm5 fun b hb e => by have := hb.1; have := kb2.lt; omega
        have hz5 : w4.heap.size ≤ (w4.setCell ⟨w.heap.size, 3, none⟩ (.slice A4 cl.length c4)).heap.size := hm5.size
        generalize w4.setCell ⟨w.heap.size, 3, none⟩ (.slice A4 cl.length c4) = w5 at *
        have hbm5 := HR0.out.blk.below hb5 HR0.out.blk.lt
        have hch5 := HR0.out.chgs.below hb5
        have hbd5 : Below w5.heap.size w5 w5.drew := (Below.refl _ _).drew
        have e1 := (Blk.below hbm5 hbd5 hbm5.lt).cell 1
        have p0 := (Blk.below kb5 hbd5 kb5.lt).cell 0
        have p1 := (Blk.below kb5 hbd5 kb5.lt).cell 1
        have p2 := (Blk.below kb5 hbd5 kb5.lt).cell 2
        have p3 := (Blk.below kb5 hbd5 kb5.lt).cell 3
        simp only [List.getElem?_toArray, List.getElem?_cons_zero, List.getElem?_cons_succ] at e1 p0 p1 p2 p3
        have HLM := Lib.hid hbm5.lt
        have HLB := Lib.hid kb5.lt
        clear hm5 z4 g4 ho4
        refine PF.pf_begin (by kernel_rfl) ?_
        refine PF.pf_take0 0 (by kernel_rfl) rfl (fun _ _ _ _ _ h => h) (by kernel_rfl) (fun u => by go_simp; try rfl) ?_
        try simp only [Act.put, List.setIfInBounds_toArray, List.set_cons_zero, List.set_cons_succ]
        refine PF.pf_take0 2 (by kernel_rfl) rfl (fun _ _ _ _ _ h => h) (by kernel_rfl) (fun u => by go_simp; try rfl) ?_
        try simp only [Act.put, List.setIfInBounds_toArray, List.set_cons_zero, List.set_cons_succ]
        refine PF.pf_take0 3 (by kernel_rfl) rfl (fun _ _ _ _ _ h => h) (by kernel_rfl) (fun u => by go_simp; try rfl) ?_
        try simp only [Act.put, List.setIfInBounds_toArray, List.set_cons_zero, List.set_cons_succ]
        refine PF.pf_take0 4 (by kernel_rfl) rfl (fun _ _ _ _ _ h => h) (by kernel_rfl) (fun u => by go_simp; try rfl) ?_
        try simp only [Act.put, List.setIfInBounds_toArray, List.set_cons_zero, List.set_cons_succ]
        refine PF.pf_take1 5 (PF.Same (m) _) (by kernel_rfl) rfl (fun _ _ _ _ _ h => h) (by kernel_rfl) (PF.Same.refl _ _) (fun u hu => by have hcu := hu.cell; go_simp; try rfl) ?_
        try simp only [Act.put, List.setIfInBounds_toArray, List.set_cons_zero, List.set_cons_succ]
        refine PF.pf_take1 7 (PF.Same (w.heap.size) _) (by kernel_rfl) rfl (fun _ _ _ _ _ h => h) (by kernel_rfl) (PF.Same.refl _ _) (fun u hu => by have hcu := hu.cell; go_simp; try rfl) ?_
        try simp only [Act.put, List.setIfInBounds_toArray, List.set_cons_zero, List.set_cons_succ]
        refine PF.pf_fork [1, 8] (by kernel_rfl) rfl (PF.fork_cons ?_ (PF.fork_cons ?_ PF.fork_nil))
        -- number 1 first
        · refine PF.step_one rfl (by kernel_rfl) (fun K hK => ?_)
          go_simp
          have hba : Below w5.heap.size w5 (w5.alloc (.cells #[] 84)).drew := (below_new w5 _).drew
          have ho1 : (w5.alloc (.cells #[] 84)).drew.ownsRow w5.heap.size 84 4 (.slice (some ⟨w5.heap.size, 0, none⟩) 0 0) 0 [] := World.ownsRow_made _ _ _ (Nat.le_refl _) (by simp [maxLen]) rfl
          have hrl := (hch5.below hba).row
          refine hK _ _ (by repeat (first | exact PF.owes_nil | refine PF.owes_left ?_ | refine PF.owes_no (by decide +kernel) ?_ | refine PF.owes_yes (by first | exact hba.block _ HLM.out | exact hba.block _ HLB.out | exact hbb.block _ HLM.out | exact hbb.block _ HLB.out) ?_)) ?_
          clear hK K
          try simp only [Act.put, List.setIfInBounds_toArray, List.set_cons_zero, List.set_cons_succ]
          refine PF.pf_fork [6, 8] (by kernel_rfl) rfl (PF.fork_cons ?_ (PF.fork_cons ?_ PF.fork_nil))
          -- number 6 first
          · refine PF.step_one rfl (by kernel_rfl) (fun K hK => ?_)
            refine app_wp chg_row_ty rfl ho1 rfl hrl rfl (crow_one l) (by omega) hba.size ?_
            intro v6 w6 ho6 hg6 _
            obtain ⟨A6, c6, rfl, _, _⟩ := own_slice ho6
            simp only [Nat.zero_add, List.nil_append] at ho6 ⊢
            have hb6 := hba.grown hg6 hba.size (own_ge ho1)
            refine hK _ _ (by repeat (first | exact PF.owes_nil | refine PF.owes_left ?_ | refine PF.owes_no (by decide +kernel) ?_ | refine PF.owes_yes (by first | exact hb6.block _ HLM.out | exact hb6.block _ HLB.out) ?_)) ?_
            clear hK K
            try simp only [Act.put, List.setIfInBounds_toArray, List.set_cons_zero, List.set_cons_succ]
            refine PF.pf_exec 8 (by kernel_rfl) rfl (by kernel_rfl) (fun K hK => ?_)
            go_simp
            have hr8 := Reads.block4 w6 84 (.int .i64 ck) (.string ⟨cn.toArray⟩) (.string ⟨ct.toArray⟩) (.slice A4 cl.length c4)
            have hoF := ho6.alloc (.cells #[.int .i64 ck, .string ⟨cn.toArray⟩, .string ⟨ct.toArray⟩, .slice A4 cl.length c4] 84)
            have hbF := hb6.alloc hb6.size (.cells #[.int .i64 ck, .string ⟨cn.toArray⟩, .string ⟨ct.toArray⟩, .slice A4 cl.length c4] 84)
            refine hK _ _ (by repeat (first | exact PF.owes_nil | refine PF.owes_left ?_ | refine PF.owes_no (by decide +kernel) ?_ | refine PF.owes_yes (by first | exact hbF.block _ HLM.out | exact hbF.block _ HLB.out | exact hbb.block _ HLM.out | exact hbb.block _ HLB.out | exact hb8.block _ HLM.out | exact hb8.block _ HLB.out) ?_)) ?_
            clear hK K
            try simp only [Act.put, List.setIfInBounds_toArray, List.set_cons_zero, List.set_cons_succ]
            refine PF.pf_exec 9 (by kernel_rfl) rfl (by kernel_rfl) (fun K hK => ?_)
            refine app_wp chg_row_ty rfl hoF rfl hr8 rfl (rcells_one ⟨ck, cn, ct, (A4, cl.length, c4), cl⟩) (by omega) hbF.size ?_
            intro v9 w9 ho9 hg9 _
            obtain ⟨A9, c9, rfl, _, _⟩ := own_slice ho9
            have hb9 := hbF.grown hg9 hbF.size (own_ge hoF)
            have kb9 := hbm5.below hb9 hbm5.lt
            have q9 := kb9.cell 1
            have f9 := kb9.free 1
            simp only [List.getElem?_toArray, List.getElem?_cons_zero, List.getElem?_cons_succ] at q9
            refine hK _ _ (by repeat (first | exact PF.owes_nil | refine PF.owes_left ?_ | refine PF.owes_no (by decide +kernel) ?_ | refine PF.owes_yes (by first | exact hb9.block _ HLM.out | exact hb9.block _ HLB.out) ?_)) ?_
            clear hK K
            try simp only [Act.put, List.setIfInBounds_toArray, List.set_cons_zero, List.set_cons_succ]
            refine PF.pf_take0 10 (by kernel_rfl) rfl (fun _ _ _ _ _ h => h) (by kernel_rfl) (fun u => by go_simp; try rfl) ?_
            try simp only [Act.put, List.setIfInBounds_toArray, List.set_cons_zero, List.set_cons_succ]
            refine PF.pf_take0 11 (by kernel_rfl) rfl (fun _ _ _ _ _ h => h) (by kernel_rfl) (fun u => by go_simp; try rfl) ?_
            try simp only [Act.put, List.setIfInBounds_toArray, List.set_cons_zero, List.set_cons_succ]
            refine PF.pf_exec 12 (by kernel_rfl) rfl (by kernel_rfl) (fun K hK => ?_)
            go_simp
            refine hK _ _ (by repeat (first | exact PF.owes_nil | refine PF.owes_left ?_ | refine PF.owes_no (by decide +kernel) ?_ | refine PF.owes_yes (by first | rfl | assumption | go_simp) ?_)) ?_
            clear hK K
            try simp only [Act.put, List.setIfInBounds_toArray, List.set_cons_zero, List.set_cons_succ]
            refine PF.pf_done (by kernel_rfl) ?_
            go_wp2_with fail
            go_ret
            rw [HFUL.out]
            exact ⟨rfl, does_fin (c' := ⟨ck, cn, ct, (A4, cl.length, c4), cl⟩) HH.out HR0.out (hb5.trans (hb9.mono hb5.size)) ((hbi5.below_ hb9).mono fun b h => ⟨by have := h.1; omega, by have := h.2; have := hb9.size; omega⟩) ⟨HFIT.out.ne, HFIT.out.small⟩ hb5.size ho9 rfl⟩
          -- number 8 first
          · refine PF.step_one rfl (by kernel_rfl) (fun K hK => ?_)
            go_simp
            have hbb : Below w5.heap.size w5 ((w5.alloc (.cells #[] 84)).alloc (.cells #[.int .i64 ck, .string ⟨cn.toArray⟩, .string ⟨ct.toArray⟩, .slice A4 cl.length c4] 84)).drew := ((below_new w5 _).alloc (below_new w5 (.cells #[] 84)).size _).drew
            have ho1' : ((w5.alloc (.cells #[] 84)).alloc (.cells #[.int .i64 ck, .string ⟨cn.toArray⟩, .string ⟨ct.toArray⟩, .slice A4 cl.length c4] 84)).drew.ownsRow w5.heap.size 84 4 (.slice (some ⟨w5.heap.size, 0, none⟩) 0 0) 0 [] := World.ownsRow.alloc (w := w5.alloc (.cells #[] 84)) ho1 (.cells #[.int .i64 ck, .string ⟨cn.toArray⟩, .string ⟨ct.toArray⟩, .slice A4 cl.length c4] 84)
            have hrl' := (hch5.below hbb).row
            have hr8' : Reads ((w5.alloc (.cells #[] 84)).alloc (.cells #[.int .i64 ck, .string ⟨cn.toArray⟩, .string ⟨ct.toArray⟩, .slice A4 cl.length c4] 84)).drew 4 (some ⟨w5.heap.size + 1, 0, none⟩) 1 [.int .i64 ck, .string ⟨cn.toArray⟩, .string ⟨ct.toArray⟩, .slice A4 cl.length c4] := by have this := Reads.block4 (w5.alloc (.cells #[] 84)) 84 (.int .i64 ck) (.string ⟨cn.toArray⟩) (.string ⟨ct.toArray⟩) (.slice A4 cl.length c4); rw [show (w5.alloc (.cells #[] 84)).heap.size = w5.heap.size + 1 by simp] at this; exact this
            have HKR : Hid (∀ u, ((w5.alloc (.cells #[] 84)).alloc (.cells #[.int .i64 ck, .string ⟨cn.toArray⟩, .string ⟨ct.toArray⟩, .slice A4 cl.length c4] 84)).drew.grownBy u (Value.ownBlock (.slice (some ⟨w5.heap.size, 0, none⟩) 0 0)) → Reads u 4 (some ⟨w5.heap.size + 1, 0, none⟩) 1 [.int .i64 ck, .string ⟨cn.toArray⟩, .string ⟨ct.toArray⟩, .slice A4 cl.length c4]) := fun u hg => Reads.mod hr8' (Mod.grown (S := fun b => b = w5.heap.size) hg (by intro g e _; injection e with e; exact e.symm)) (by intro ad e; injection e with e; subst e; show ¬ w5.heap.size + 1 = w5.heap.size; omega)
            refine hK _ _ (by repeat (first | exact PF.owes_nil | refine PF.owes_left ?_ | refine PF.owes_no (by decide +kernel) ?_ | refine PF.owes_yes (by first | exact hbF.block _ HLM.out | exact hbF.block _ HLB.out | exact hbb.block _ HLM.out | exact hbb.block _ HLB.out | exact hb8.block _ HLM.out | exact hb8.block _ HLB.out) ?_)) ?_
            clear hK K
            try simp only [Act.put, List.setIfInBounds_toArray, List.set_cons_zero, List.set_cons_succ]
            refine PF.pf_exec 6 (by kernel_rfl) rfl (by kernel_rfl) (fun K hK => ?_)
            refine app_wp chg_row_ty rfl ho1' rfl hrl' rfl (crow_one l) (by omega) hbb.size ?_
            intro v6 w6 ho6 hg6 _
            obtain ⟨A6, c6, rfl, _, _⟩ := own_slice ho6
            simp only [Nat.zero_add, List.nil_append] at ho6 ⊢
            have hb6 := hbb.grown hg6 hbb.size (own_ge ho1')
            have hr8 := HKR.out _ hg6
            have hoF := ho6
            have hbF := hb6
            refine hK _ _ (by repeat (first | exact PF.owes_nil | refine PF.owes_left ?_ | refine PF.owes_no (by decide +kernel) ?_ | refine PF.owes_yes (by first | exact hb6.block _ HLM.out | exact hb6.block _ HLB.out) ?_)) ?_
            clear hK K
            try simp only [Act.put, List.setIfInBounds_toArray, List.set_cons_zero, List.set_cons_succ]
            refine PF.pf_exec 9 (by kernel_rfl) rfl (by kernel_rfl) (fun K hK => ?_)
            refine app_wp chg_row_ty rfl hoF rfl hr8 rfl (rcells_one ⟨ck, cn, ct, (A4, cl.length, c4), cl⟩) (by omega) hbF.size ?_
            intro v9 w9 ho9 hg9 _
            obtain ⟨A9, c9, rfl, _, _⟩ := own_slice ho9
            have hb9 := hbF.grown hg9 hbF.size (own_ge hoF)
            have kb9 := hbm5.below hb9 hbm5.lt
            have q9 := kb9.cell 1
            have f9 := kb9.free 1
            simp only [List.getElem?_toArray, List.getElem?_cons_zero, List.getElem?_cons_succ] at q9
            refine hK _ _ (by repeat (first | exact PF.owes_nil | refine PF.owes_left ?_ | refine PF.owes_no (by decide +kernel) ?_ | refine PF.owes_yes (by first | exact hb9.block _ HLM.out | exact hb9.block _ HLB.out) ?_)) ?_
            clear hK K
            try simp only [Act.put, List.setIfInBounds_toArray, List.set_cons_zero, List.set_cons_succ]
            refine PF.pf_take0 10 (by kernel_rfl) rfl (fun _ _ _ _ _ h => h) (by kernel_rfl) (fun u => by go_simp; try rfl) ?_
            try simp only [Act.put, List.setIfInBounds_toArray, List.set_cons_zero, List.set_cons_succ]
            refine PF.pf_take0 11 (by kernel_rfl) rfl (fun _ _ _ _ _ h => h) (by kernel_rfl) (fun u => by go_simp; try rfl) ?_
            try simp only [Act.put, List.setIfInBounds_toArray, List.set_cons_zero, List.set_cons_succ]
            refine PF.pf_exec 12 (by kernel_rfl) rfl (by kernel_rfl) (fun K hK => ?_)
            go_simp
            refine hK _ _ (by repeat (first | exact PF.owes_nil | refine PF.owes_left ?_ | refine PF.owes_no (by decide +kernel) ?_ | refine PF.owes_yes (by first | rfl | assumption | go_simp) ?_)) ?_
            clear hK K
            try simp only [Act.put, List.setIfInBounds_toArray, List.set_cons_zero, List.set_cons_succ]
            refine PF.pf_done (by kernel_rfl) ?_
            go_wp2_with fail
            go_ret
            rw [HFUL.out]
            exact ⟨rfl, does_fin (c' := ⟨ck, cn, ct, (A4, cl.length, c4), cl⟩) HH.out HR0.out (hb5.trans (hb9.mono hb5.size)) ((hbi5.below_ hb9).mono fun b h => ⟨by have := h.1; omega, by have := h.2; have := hb9.size; omega⟩) ⟨HFIT.out.ne, HFIT.out.small⟩ hb5.size ho9 rfl⟩
        -- number 8 first
        · refine PF.step_one rfl (by kernel_rfl) (fun K hK => ?_)
          go_simp
          have hb8 : Below w5.heap.size w5 (w5.alloc (.cells #[.int .i64 ck, .string ⟨cn.toArray⟩, .string ⟨ct.toArray⟩, .slice A4 cl.length c4] 84)).drew := (below_new w5 _).drew
          refine hK _ _ (by repeat (first | exact PF.owes_nil | refine PF.owes_left ?_ | refine PF.owes_no (by decide +kernel) ?_ | refine PF.owes_yes (by first | exact hbF.block _ HLM.out | exact hbF.block _ HLB.out | exact hbb.block _ HLM.out | exact hbb.block _ HLB.out | exact hb8.block _ HLM.out | exact hb8.block _ HLB.out) ?_)) ?_
          clear hK K
          try simp only [Act.put, List.setIfInBounds_toArray, List.set_cons_zero, List.set_cons_succ]
          refine PF.pf_exec 1 (by kernel_rfl) rfl (by kernel_rfl) (fun K hK => ?_)
          go_simp
          have hbb : Below w5.heap.size w5 ((w5.alloc (.cells #[.int .i64 ck, .string ⟨cn.toArray⟩, .string ⟨ct.toArray⟩, .slice A4 cl.length c4] 84)).alloc (.cells #[] 84)).drew := ((below_new w5 _).alloc (below_new w5 (.cells #[.int .i64 ck, .string ⟨cn.toArray⟩, .string ⟨ct.toArray⟩, .slice A4 cl.length c4] 84)).size _).drew
          have ho1' : ((w5.alloc (.cells #[.int .i64 ck, .string ⟨cn.toArray⟩, .string ⟨ct.toArray⟩, .slice A4 cl.length c4] 84)).alloc (.cells #[] 84)).drew.ownsRow w5.heap.size 84 4 (.slice (some ⟨w5.heap.size + 1, 0, none⟩) 0 0) 0 [] := by have this := World.ownsRow_made (base := w5.heap.size) (size := 4) (e := 84) (w5.alloc (.cells #[.int .i64 ck, .string ⟨cn.toArray⟩, .string ⟨ct.toArray⟩, .slice A4 cl.length c4] 84)) #[] 0 (by simp) (by simp [maxLen]) rfl; rw [show (w5.alloc (.cells #[.int .i64 ck, .string ⟨cn.toArray⟩, .string ⟨ct.toArray⟩, .slice A4 cl.length c4] 84)).heap.size = w5.heap.size + 1 by simp] at this; exact this
          have hrl' := (hch5.below hbb).row
          have hr8' : Reads ((w5.alloc (.cells #[.int .i64 ck, .string ⟨cn.toArray⟩, .string ⟨ct.toArray⟩, .slice A4 cl.length c4] 84)).alloc (.cells #[] 84)).drew 4 (some ⟨w5.heap.size, 0, none⟩) 1 [.int .i64 ck, .string ⟨cn.toArray⟩, .string ⟨ct.toArray⟩, .slice A4 cl.length c4] := (Reads.block4 w5 84 (.int .i64 ck) (.string ⟨cn.toArray⟩) (.string ⟨ct.toArray⟩) (.slice A4 cl.length c4)).below (below_new (w5.alloc (.cells #[.int .i64 ck, .string ⟨cn.toArray⟩, .string ⟨ct.toArray⟩, .slice A4 cl.length c4] 84)) (.cells #[] 84)).drew
          have HKR : Hid (∀ u, ((w5.alloc (.cells #[.int .i64 ck, .string ⟨cn.toArray⟩, .string ⟨ct.toArray⟩, .slice A4 cl.length c4] 84)).alloc (.cells #[] 84)).drew.grownBy u (Value.ownBlock (.slice (some ⟨w5.heap.size + 1, 0, none⟩) 0 0)) → Reads u 4 (some ⟨w5.heap.size, 0, none⟩) 1 [.int .i64 ck, .string ⟨cn.toArray⟩, .string ⟨ct.toArray⟩, .slice A4 cl.length c4]) := fun u hg => Reads.mod hr8' (Mod.grown (S := fun b => b = w5.heap.size + 1) hg (by intro g e _; injection e with e; exact e.symm)) (by intro ad e; injection e with e; subst e; show ¬ w5.heap.size = w5.heap.size + 1; omega)
          refine hK _ _ (by repeat (first | exact PF.owes_nil | refine PF.owes_left ?_ | refine PF.owes_no (by decide +kernel) ?_ | refine PF.owes_yes (by first | exact hba.block _ HLM.out | exact hba.block _ HLB.out | exact hbb.block _ HLM.out | exact hbb.block _ HLB.out) ?_)) ?_
          clear hK K
          try simp only [Act.put, List.setIfInBounds_toArray, List.set_cons_zero, List.set_cons_succ]
          refine PF.pf_exec 6 (by kernel_rfl) rfl (by kernel_rfl) (fun K hK => ?_)
          refine app_wp chg_row_ty rfl ho1' rfl hrl' rfl (crow_one l) (by omega) hbb.size ?_
          intro v6 w6 ho6 hg6 _
          obtain ⟨A6, c6, rfl, _, _⟩ := own_slice ho6
          simp only [Nat.zero_add, List.nil_append] at ho6 ⊢
          have hb6 := hbb.grown hg6 hbb.size (own_ge ho1')
          have hr8 := HKR.out _ hg6
          have hoF := ho6
          have hbF := hb6
          refine hK _ _ (by repeat (first | exact PF.owes_nil | refine PF.owes_left ?_ | refine PF.owes_no (by decide +kernel) ?_ | refine PF.owes_yes (by first | exact hb6.block _ HLM.out | exact hb6.block _ HLB.out) ?_)) ?_
          clear hK K
          try simp only [Act.put, List.setIfInBounds_toArray, List.set_cons_zero, List.set_cons_succ]
          refine PF.pf_exec 9 (by kernel_rfl) rfl (by kernel_rfl) (fun K hK => ?_)
          refine app_wp chg_row_ty rfl hoF rfl hr8 rfl (rcells_one ⟨ck, cn, ct, (A4, cl.length, c4), cl⟩) (by omega) hbF.size ?_
          intro v9 w9 ho9 hg9 _
          obtain ⟨A9, c9, rfl, _, _⟩ := own_slice ho9
          have hb9 := hbF.grown hg9 hbF.size (own_ge hoF)
          have kb9 := hbm5.below hb9 hbm5.lt
          have q9 := kb9.cell 1
          have f9 := kb9.free 1
          simp only [List.getElem?_toArray, List.getElem?_cons_zero, List.getElem?_cons_succ] at q9
          refine hK _ _ (by repeat (first | exact PF.owes_nil | refine PF.owes_left ?_ | refine PF.owes_no (by decide +kernel) ?_ | refine PF.owes_yes (by first | exact hb9.block _ HLM.out | exact hb9.block _ HLB.out) ?_)) ?_
          clear hK K
          try simp only [Act.put, List.setIfInBounds_toArray, List.set_cons_zero, List.set_cons_succ]
          refine PF.pf_take0 10 (by kernel_rfl) rfl (fun _ _ _ _ _ h => h) (by kernel_rfl) (fun u => by go_simp; try rfl) ?_
          try simp only [Act.put, List.setIfInBounds_toArray, List.set_cons_zero, List.set_cons_succ]
          refine PF.pf_take0 11 (by kernel_rfl) rfl (fun _ _ _ _ _ h => h) (by kernel_rfl) (fun u => by go_simp; try rfl) ?_
          try simp only [Act.put, List.setIfInBounds_toArray, List.set_cons_zero, List.set_cons_succ]
          refine PF.pf_exec 12 (by kernel_rfl) rfl (by kernel_rfl) (fun K hK => ?_)
          go_simp
          refine hK _ _ (by repeat (first | exact PF.owes_nil | refine PF.owes_left ?_ | refine PF.owes_no (by decide +kernel) ?_ | refine PF.owes_yes (by first | rfl | assumption | go_simp) ?_)) ?_
          clear hK K
          try simp only [Act.put, List.setIfInBounds_toArray, List.set_cons_zero, List.set_cons_succ]
          refine PF.pf_done (by kernel_rfl) ?_
          go_wp2_with fail
          go_ret
          rw [HFUL.out]
          exact ⟨rfl, does_fin (c' := ⟨ck, cn, ct, (A4, cl.length, c4), cl⟩) HH.out HR0.out (hb5.trans (hb9.mono hb5.size)) ((hbi5.below_ hb9).mono fun b h => ⟨by have := h.1; omega, by have := h.2; have := hb9.size; omega⟩) ⟨HFIT.out.ne, HFIT.out.small⟩ hb5.size ho9 rfl⟩
  · rw [hdn] at q4
    have HD := Lib.hid hdn
    clear hdn hn1 hn2 hse
    go_enter Try.func50, Try.ntmps50
    have hWW := HWW.out
    rw [hWW] at q4
    go_wp2_with fail
    go_ret
    exact RDid.same (rdo_down HD.out _) HH.out (by rw [← hWW]; exact hbx)
end Go.Proofs.Ytggdkhgpkedbkaa
