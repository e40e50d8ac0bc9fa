/- The document's Own. -/
import Derived.Test.YtpjmolnkmlpfeaaGreatDoorJZ
namespace Go.Proofs.YtpjmolnkmlpfeaaGreatDoor
set_option linter.unusedVariables false
set_option linter.unusedSimpArgs false
set_option maxRecDepth 100000
open Go.RowKit

namespace Jd
/-- A region's end, once for all its forks; two places were made in it. -/
def Norm2 (A : Nat → Nat → Act) (S : Nat → Nat → World → Prop) (e : Exit) (b : Act) (w' : World) : Prop := match e with | .normal => ∃ g h, b = A g h ∧ S g h w' | _ => False
theorem share2 {P : Program} {c : Code} {Q : Exit → Act → World → Prop} {a : Act} {w : World} {S : Nat → Nat → World → Prop} {A : Nat → Nat → Act} (walk : c.wp P (Norm2 A S) a w) (rest : ∀ g h w', S g h w' → Q .normal (A g h) w') : c.wp P Q a w :=
 Code.wp_mono (fun e b w' h => by
  cases e with
  | normal => obtain ⟨g, k, rfl, hs⟩ := h; exact rest g k w' hs
  | _ => exact h.elim) walk
end Jd
section
variable {P : Program} {op : Oper} {a : Act} {w : World} {K : Act → World → Prop} {Q : Exit → Act → World → Prop}
theorem wp_u3 {p q r : Operand} (ho : op.op = .buildSlice 43 3 #[(0, p), (1, q), (2, r)]) {x y z : Nat} (hx : a.eval p = .int .u64 (x : Int)) (hy : a.eval q = .int .u64 (y : Int)) (hz : a.eval r = .int .u64 (z : Int))
  (h : ∀ g w', w.heap.size = g → Blk w' g 22 ([x, y, z].map u64v).toArray → Below w.heap.size w w' → K (a.put op.dst (.slice (some ⟨g, 0, none⟩) 3 3)) w') : op.wp Tryz.prog a w K Q := by
 have hb : (Instr.buildSlice 43 3 #[(0, .int .u64 (x : Int)), (1, .int .u64 (y : Int)), (2, .int .u64 (z : Int))]).run Tryz.prog w = .ok (.slice (some ⟨w.heap.size, 0, none⟩) 3 3) (w.alloc (.cells ([x, y, z].map u64v).toArray 22)) := by kernel_rfl
 unfold Oper.wp execOp
 simp only [ho, Sem.run_bind, List.map_toArray, List.map_cons, List.map_nil, hx, hy, hz, hb, Result.andThen_ok, Sem.run_pure]
 exact h _ _ rfl (Blk.new _ _ _) (below_new _ _)
theorem exec_buildJ2 {u : World} {E : Operand → Value} {ty : TypeId} {i j : Nat} {p q : Operand} (ho : op.op = .build ty #[(i, p), (j, q)]) {x y v : Value} (hx : E p = x) (hy : E q = y) (hb : (Instr.build ty #[(i, x), (j, y)]).run P u = .ok v u) :
  (execOp E op).run P u = .ok (.value v) u := by
 unfold execOp
 simp only [ho, Sem.run_bind, List.map_toArray, List.map_cons, List.map_nil, hx, hy, hb, Result.andThen_ok, Sem.run_pure]
end
/-- A model of the document's own: its cursors' place is its own alone. -/
def ROwn (B : Nat) (w : World) (v : Value) (M : Mdl) : Prop := ∃ vl g, v = .agg (mdL M vl (.slice (some ⟨g, 0, none⟩) 3 3)).toArray ∧ SlE (fun b => B ≤ b ∧ b ≠ g) w vl M.log ∧ Blk w g 22 (M.cur.map u64v).toArray ∧ M.cur.length = 3 ∧ B ≤ g
theorem ROwn.mdv {B : Nat} {w : World} {v : Value} {M : Mdl} (h : ROwn B w v M) : MdV (fun b => B ≤ b) w v M := by
 obtain ⟨vl, g, e, h1, h2, h3, h4⟩ := h
 exact ⟨vl, _, e, h1.weak fun b _ h => h.1, some ⟨g, 0, none⟩, 3, by rw [h3], by have := blk_reads h2 (n := M.cur.length) (by rw [List.length_map]); exact this, by omega, by decide, fun _ ad ea => by injection ea with ea; subst ea; exact h4⟩
theorem build_tc (t g : Nat) (w : World) : (Instr.build 45 #[(1, .int .u64 (t : Int)), (2, .slice (some ⟨g, 0, none⟩) 3 3)]).run Tryz.prog w = .ok (.agg #[.slice none 0 0, .int .u64 (t : Int), .slice (some ⟨g, 0, none⟩) 3 3]) w := by kernel_rfl
theorem size_setCellJ (w : World) (p : Addr) (v : Value) : (w.setCell p v).heap.size = w.heap.size := by simp [World.setCell]
theorem curS_own {M : Mdl} : curS M 1 = M.cur.getD 0 0 ∧ curS M 2 = M.cur.getD 1 0 ∧ curS M 3 = M.cur.getD 2 0 := by
 unfold curS
 exact ⟨by rw [if_pos (by decide)]; rfl, by rw [if_pos (by decide)]; rfl, by rw [if_pos (by decide)]; rfl⟩
set_option maxHeartbeats 8000000 in
theorem rown_any {K : Nat → Prop} {w : World} {vl vc : Value} {M : Mdl} (h : MdF K w vl vc M) (hn : M.log.length ≤ 100000) (hbl : ∀ e ∈ M.log, e.body.length ≤ 1000000) :
  Calls Tryz.prog 21 #[.agg (mdL M vl vc).toArray] w fun e w' => (∃ v', e = .returned v' ∧ ROwn w.heap.size w' v' (ownM M)) ∧ Below w.heap.size w w' := by
 have hvc := h.2.one
 have HU := Lib.hid h.2
 obtain ⟨⟨A, c, E, rfl, hE, hr, hall, _⟩, _⟩ := h
 have hlE : M.log.length = E.length := by rw [← hE, List.length_map]
 have hen : E.length ≤ 100000 := by omega
 have HBE : Hid (∀ p ∈ E, p.1.body.length ≤ 1000000) := fun p hp => hbl _ (by rw [← hE]; exact List.mem_map.2 ⟨p, hp, rfl⟩)
 have HR := Lib.hid hr
 have HALL := Lib.hid hall
 have HE := Lib.hid hE
 have hB1 : Blk (w.alloc (.cells (mdL M (.slice A E.length c) vc).toArray 45)) w.heap.size 45 (mdL M (.slice A E.length c) vc).toArray := Blk.new _ _ _
 have hT := below_new w (.cells (mdL M (.slice A E.length c) vc).toArray 45)
 have HB1 := Lib.hid hB1
 have HTa := Lib.hid hT
 clear hn hbl hr hall hE hlE hB1 hT
 go_enter Tryz.func21, Tryz.ntmps21
 go_wp2_with (refine wpList_alloc_blk rfl (ty := 45) rfl zero_model ?_; rintro g2 w2 hg2 hB2 hb2; refine Hid.out ?_)
 refine Lib.hid ?_
 have HB1 := Bb HB1 hb2
 have HB2 := Lib.hid hB2
 have HT := Lib.hid (below_call HTa.out HTa.out.size hb2)
 have HG2 : Hid (w.heap.size < g2 ∧ g2 < w2.heap.size) := ⟨by rw [← hg2]; simp, hB2.lt⟩
 have m1 := (HB1.out.cell 1).trans (rfl : _ = some (Value.int .u64 (M.trim : Int)))
 obtain ⟨c1, hc1⟩ : ∃ c1, c1 = M.cur.getD 0 0 := ⟨_, rfl⟩
 obtain ⟨c2, hc2⟩ : ∃ c2, c2 = M.cur.getD 1 0 := ⟨_, rfl⟩
 obtain ⟨c3, hc3⟩ : ∃ c3, c3 = M.cur.getD 2 0 := ⟨_, rfl⟩
 have HO3 : Hid (own3 M.cur = [c1, c2, c3]) := by show _ = _; rw [hc1, hc2, hc3]; rfl
 have HCS : Hid (curS M 1 = c1 ∧ curS M 2 = c2 ∧ curS M 3 = c3) := by rw [hc1, hc2, hc3]; exact curS_own
 clear hg2 hB2 hb2 hc1 hc2 hc3 HTa
 have HB10 := HB1
 go_wp2_with fail
 apply Jd.share2 (S := fun g3 gC W => Below w2.heap.size w2 W ∧ Blk W g3 45 #[.slice none 0 0, .int .u64 (M.trim : Int), .slice (some ⟨gC, 0, none⟩) 3 3] ∧ Blk W gC 22 ([c1, c2, c3].map u64v).toArray ∧ w2.heap.size ≤ g3 ∧ w2.heap.size ≤ gC ∧ g3 ≠ gC)
 case walk =>
  refine PF.b (by kernel_rfl) (fun _ _ _ _ _ h => h) ?_
  have HW := Lib.hid ((Below.refl w2.heap.size w2).drew)
  have HB1 := Lib.hid HB1.out.drew
  refine PF.t 0 (by kernel_rfl) rfl (by intro u; go_simp; try rfl) ?_
  try simp only [pz]
  refine PF.m 1 (w.heap.size) (by kernel_rfl) rfl (fun hcu => by go_simp; try rfl) ?_
  try simp only [pz]
  refine PF.u 2 ((fun u => Blk u w.heap.size 45 (mdL M (.slice A E.length c) vc).toArray)) (by kernel_rfl) rfl (HB1.out) (fun u hu => exec_load_blk rfl rfl hu Tryz.underlying45 rfl (info_model rfl)) ?_
  try simp only [pz]
  refine PF.u 4 ((fun u => Blk u w.heap.size 45 (mdL M (.slice A E.length c) vc).toArray)) (by kernel_rfl) rfl (HB1.out) (fun u hu => exec_load_blk rfl rfl hu Tryz.underlying45 rfl (info_model rfl)) ?_
  try simp only [pz]
  refine PF.u 6 ((fun u => Blk u w.heap.size 45 (mdL M (.slice A E.length c) vc).toArray)) (by kernel_rfl) rfl (HB1.out) (fun u hu => exec_load_blk rfl rfl hu Tryz.underlying45 rfl (info_model rfl)) ?_
  try simp only [pz]
  refine PF.g [3, 10] (by kernel_rfl) rfl (PF.fork_cons ?_ (PF.fork_cons ?_ PF.fork_nil))
  -- number 3 first
  ·refine PF.f (by kernel_rfl) rfl fun K hK => ?_
   go_simp
   refine (rcursor_any (M := M) (HU.out.below (HT.out.trans (HW.out.mono HT.out.size))) rfl 1 (by decide)).mono ?_
   rintro e v3 ⟨rfl, hb⟩
   rw [HCS.out.1]
   have HW := Tt HW hb
   have HB1 := Bb HB1 hb
   try have H3 := Bb H3 hb
   clear hb
   refine hK (by repeat (first | exact PF.n | refine PF.l ?_ | refine PF.o (by decide +kernel) ?_ | refine PF.y (by first | exact HB1.out | exact HB1.out.trans HB10.out.symm) ?_)) ?_
   clear hK K
   try simp only [pz]
   refine PF.g [5, 10] (by kernel_rfl) rfl (PF.fork_cons ?_ (PF.fork_cons ?_ PF.fork_nil))
   -- number 5 first
   ·refine PF.f (by kernel_rfl) rfl fun K hK => ?_
    go_simp
    refine (rcursor_any (M := M) (HU.out.below (HT.out.trans (HW.out.mono HT.out.size))) rfl 2 (by decide)).mono ?_
    rintro e v5 ⟨rfl, hb⟩
    rw [HCS.out.2.1]
    have HW := Tt HW hb
    have HB1 := Bb HB1 hb
    try have H3 := Bb H3 hb
    clear hb
    refine hK (by repeat (first | exact PF.n | refine PF.l ?_ | refine PF.o (by decide +kernel) ?_ | refine PF.y (by first | exact HB1.out | exact HB1.out.trans HB10.out.symm) ?_)) ?_
    clear hK K
    try simp only [pz]
    refine PF.g [7, 10] (by kernel_rfl) rfl (PF.fork_cons ?_ (PF.fork_cons ?_ PF.fork_nil))
    -- number 7 first
    ·refine PF.f (by kernel_rfl) rfl fun K hK => ?_
     go_simp
     refine (rcursor_any (M := M) (HU.out.below (HT.out.trans (HW.out.mono HT.out.size))) rfl 3 (by decide)).mono ?_
     rintro e v7 ⟨rfl, hb⟩
     rw [HCS.out.2.2]
     have HW := Tt HW hb
     have HB1 := Bb HB1 hb
     try have H3 := Bb H3 hb
     clear hb
     refine hK (by repeat (first | exact PF.n | refine PF.l ?_ | refine PF.o (by decide +kernel) ?_ | refine PF.y (by first | exact HB1.out | exact HB1.out.trans HB10.out.symm) ?_)) ?_
     clear hK K
     try simp only [pz]
     refine PF.g [8, 10] (by kernel_rfl) rfl (PF.fork_cons ?_ (PF.fork_cons ?_ PF.fork_nil))
     -- number 8 first
     ·refine PF.f (by kernel_rfl) rfl fun K hK => ?_
      refine wp_u3 (x := c1) (y := c2) (z := c3) rfl rfl rfl rfl ?_
      intro gC v8 eC hB hb
      have HEC : Hid (w2.heap.size ≤ gC) := by show _ ≤ _; have h1 := HW.out.size; first | (rw [← eC]; exact h1) | omega
      have HW := Tt HW hb
      have HB1 := Bb HB1 hb
      have HC := Lib.hid hB
      clear eC hB hb
      refine hK (by repeat (first | exact PF.n | refine PF.l ?_ | refine PF.o (by decide +kernel) ?_ | refine PF.y (by first | exact HB1.out | exact HB1.out.trans HB10.out.symm) ?_)) ?_
      clear hK K
      try simp only [pz]
      refine PF.t 9 (by kernel_rfl) rfl (by exact exec_buildJ2 (x := .int .u64 (M.trim : Int)) (y := .slice (some ⟨gC, 0, none⟩) 3 3) (v := .agg #[.slice none 0 0, .int .u64 (M.trim : Int), .slice (some ⟨gC, 0, none⟩) 3 3]) rfl rfl rfl (build_tc M.trim gC _)) ?_
      try simp only [pz]
      refine PF.e 10 (by kernel_rfl) rfl fun K hK => ?_
      refine wp_alloc_blk rfl zero_model ?_
      intro g3 v10 e3 hB hb
      have HE3 : Hid (w2.heap.size ≤ g3) := by show _ ≤ _; have h1 := HW.out.size; first | (rw [← e3]; exact h1) | omega
      have HNE : Hid (g3 ≠ gC) := by have h1 := HC.out.lt; show _ ≠ _; omega
      have HC := Bb HC hb
      have HW := Tt HW hb
      have HB1 := Bb HB1 hb
      have H3 := Lib.hid hB
      clear e3 hB hb
      refine hK (by repeat (first | exact PF.n | refine PF.l ?_ | refine PF.o (by decide +kernel) ?_ | refine PF.y (by first | exact HB1.out | exact HB1.out.trans HB10.out.symm) ?_)) ?_
      clear hK K
      try simp only [pz]
      refine PF.e 11 (by kernel_rfl) rfl fun K hK => ?_
      refine wp_store_blk (cs := #[.slice none 0 0, .int .u64 (M.trim : Int), .slice (some ⟨gC, 0, none⟩) 3 3]) rfl rfl rfl H3.out rfl (info_model rfl) (by intro u hu; simp only [List.mem_cons, List.not_mem_nil, or_false] at hu; rcases hu with rfl | rfl | rfl <;> rfl) ?_
      intro v11 hB hm
      have HC := Lib.hid (HC.out.mod hm fun e => HNE.out e.symm)
      have HB1 := Lib.hid (HB1.out.mod hm fun e => by have h1 := HE3.out; have h2 := HT.out.size; have h3 := HG2.out; omega)
      have HW := Lib.hid (HW.out.trans (hm.to_below HW.out.size fun b hb e => by have := HE3.out; omega))
      have H3 := Lib.hid hB
      clear hB hm
      refine hK (by repeat (first | exact PF.n | refine PF.l ?_ | refine PF.o (by decide +kernel) ?_ | refine PF.y (by first | exact HB1.out | exact HB1.out.trans HB10.out.symm) ?_)) ?_
      clear hK K
      try simp only [pz]
      refine PF.d (by kernel_rfl) ?_
      exact ⟨g3, gC, rfl, HW.out, H3.out, HC.out, HE3.out, HEC.out, HNE.out⟩
     -- number 10 first
     ·refine PF.f (by kernel_rfl) rfl fun K hK => ?_
      refine wp_alloc_blk rfl zero_model ?_
      intro g3 v10 e3 hB hb
      have HE3 : Hid (w2.heap.size ≤ g3) := by show _ ≤ _; have h1 := HW.out.size; first | (rw [← e3]; exact h1) | omega
      have HW := Tt HW hb
      have HB1 := Bb HB1 hb
      have H3 := Lib.hid hB
      clear e3 hB hb
      refine hK (by repeat (first | exact PF.n | refine PF.l ?_ | refine PF.o (by decide +kernel) ?_ | refine PF.y (by first | exact HB1.out | exact HB1.out.trans HB10.out.symm) ?_)) ?_
      clear hK K
      try simp only [pz]
      refine PF.e 8 (by kernel_rfl) rfl fun K hK => ?_
      refine wp_u3 (x := c1) (y := c2) (z := c3) rfl rfl rfl rfl ?_
      intro gC v8 eC hB hb
      have HEC : Hid (w2.heap.size ≤ gC) := by show _ ≤ _; have h1 := HW.out.size; first | (rw [← eC]; exact h1) | omega
      have HNE : Hid (g3 ≠ gC) := by have h1 := H3.out.lt; show _ ≠ _; omega
      have H3 := Bb H3 hb
      have HW := Tt HW hb
      have HB1 := Bb HB1 hb
      have HC := Lib.hid hB
      clear eC hB hb
      refine hK (by repeat (first | exact PF.n | refine PF.l ?_ | refine PF.o (by decide +kernel) ?_ | refine PF.y (by first | exact HB1.out | exact HB1.out.trans HB10.out.symm) ?_)) ?_
      clear hK K
      try simp only [pz]
      refine PF.t 9 (by kernel_rfl) rfl (by exact exec_buildJ2 (x := .int .u64 (M.trim : Int)) (y := .slice (some ⟨gC, 0, none⟩) 3 3) (v := .agg #[.slice none 0 0, .int .u64 (M.trim : Int), .slice (some ⟨gC, 0, none⟩) 3 3]) rfl rfl rfl (build_tc M.trim gC _)) ?_
      try simp only [pz]
      refine PF.e 11 (by kernel_rfl) rfl fun K hK => ?_
      refine wp_store_blk (cs := #[.slice none 0 0, .int .u64 (M.trim : Int), .slice (some ⟨gC, 0, none⟩) 3 3]) rfl rfl rfl H3.out rfl (info_model rfl) (by intro u hu; simp only [List.mem_cons, List.not_mem_nil, or_false] at hu; rcases hu with rfl | rfl | rfl <;> rfl) ?_
      intro v11 hB hm
      have HC := Lib.hid (HC.out.mod hm fun e => HNE.out e.symm)
      have HB1 := Lib.hid (HB1.out.mod hm fun e => by have h1 := HE3.out; have h2 := HT.out.size; have h3 := HG2.out; omega)
      have HW := Lib.hid (HW.out.trans (hm.to_below HW.out.size fun b hb e => by have := HE3.out; omega))
      have H3 := Lib.hid hB
      clear hB hm
      refine hK (by repeat (first | exact PF.n | refine PF.l ?_ | refine PF.o (by decide +kernel) ?_ | refine PF.y (by first | exact HB1.out | exact HB1.out.trans HB10.out.symm) ?_)) ?_
      clear hK K
      try simp only [pz]
      refine PF.d (by kernel_rfl) ?_
      exact ⟨g3, gC, rfl, HW.out, H3.out, HC.out, HE3.out, HEC.out, HNE.out⟩
    -- number 10 first
    ·refine PF.f (by kernel_rfl) rfl fun K hK => ?_
     refine wp_alloc_blk rfl zero_model ?_
     intro g3 v10 e3 hB hb
     have HE3 : Hid (w2.heap.size ≤ g3) := by show _ ≤ _; have h1 := HW.out.size; first | (rw [← e3]; exact h1) | omega
     have HW := Tt HW hb
     have HB1 := Bb HB1 hb
     have H3 := Lib.hid hB
     clear e3 hB hb
     refine hK (by repeat (first | exact PF.n | refine PF.l ?_ | refine PF.o (by decide +kernel) ?_ | refine PF.y (by first | exact HB1.out | exact HB1.out.trans HB10.out.symm) ?_)) ?_
     clear hK K
     try simp only [pz]
     refine PF.e 7 (by kernel_rfl) rfl fun K hK => ?_
     go_simp
     refine (rcursor_any (M := M) (HU.out.below (HT.out.trans (HW.out.mono HT.out.size))) rfl 3 (by decide)).mono ?_
     rintro e v7 ⟨rfl, hb⟩
     rw [HCS.out.2.2]
     have HW := Tt HW hb
     have HB1 := Bb HB1 hb
     try have H3 := Bb H3 hb
     clear hb
     refine hK (by repeat (first | exact PF.n | refine PF.l ?_ | refine PF.o (by decide +kernel) ?_ | refine PF.y (by first | exact HB1.out | exact HB1.out.trans HB10.out.symm) ?_)) ?_
     clear hK K
     try simp only [pz]
     refine PF.e 8 (by kernel_rfl) rfl fun K hK => ?_
     refine wp_u3 (x := c1) (y := c2) (z := c3) rfl rfl rfl rfl ?_
     intro gC v8 eC hB hb
     have HEC : Hid (w2.heap.size ≤ gC) := by show _ ≤ _; have h1 := HW.out.size; first | (rw [← eC]; exact h1) | omega
     have HNE : Hid (g3 ≠ gC) := by have h1 := H3.out.lt; show _ ≠ _; omega
     have H3 := Bb H3 hb
     have HW := Tt HW hb
     have HB1 := Bb HB1 hb
     have HC := Lib.hid hB
     clear eC hB hb
     refine hK (by repeat (first | exact PF.n | refine PF.l ?_ | refine PF.o (by decide +kernel) ?_ | refine PF.y (by first | exact HB1.out | exact HB1.out.trans HB10.out.symm) ?_)) ?_
     clear hK K
     try simp only [pz]
     refine PF.t 9 (by kernel_rfl) rfl (by exact exec_buildJ2 (x := .int .u64 (M.trim : Int)) (y := .slice (some ⟨gC, 0, none⟩) 3 3) (v := .agg #[.slice none 0 0, .int .u64 (M.trim : Int), .slice (some ⟨gC, 0, none⟩) 3 3]) rfl rfl rfl (build_tc M.trim gC _)) ?_
     try simp only [pz]
     refine PF.e 11 (by kernel_rfl) rfl fun K hK => ?_
     refine wp_store_blk (cs := #[.slice none 0 0, .int .u64 (M.trim : Int), .slice (some ⟨gC, 0, none⟩) 3 3]) rfl rfl rfl H3.out rfl (info_model rfl) (by intro u hu; simp only [List.mem_cons, List.not_mem_nil, or_false] at hu; rcases hu with rfl | rfl | rfl <;> rfl) ?_
     intro v11 hB hm
     have HC := Lib.hid (HC.out.mod hm fun e => HNE.out e.symm)
     have HB1 := Lib.hid (HB1.out.mod hm fun e => by have h1 := HE3.out; have h2 := HT.out.size; have h3 := HG2.out; omega)
     have HW := Lib.hid (HW.out.trans (hm.to_below HW.out.size fun b hb e => by have := HE3.out; omega))
     have H3 := Lib.hid hB
     clear hB hm
     refine hK (by repeat (first | exact PF.n | refine PF.l ?_ | refine PF.o (by decide +kernel) ?_ | refine PF.y (by first | exact HB1.out | exact HB1.out.trans HB10.out.symm) ?_)) ?_
     clear hK K
     try simp only [pz]
     refine PF.d (by kernel_rfl) ?_
     exact ⟨g3, gC, rfl, HW.out, H3.out, HC.out, HE3.out, HEC.out, HNE.out⟩
   -- number 10 first
   ·refine PF.f (by kernel_rfl) rfl fun K hK => ?_
    refine wp_alloc_blk rfl zero_model ?_
    intro g3 v10 e3 hB hb
    have HE3 : Hid (w2.heap.size ≤ g3) := by show _ ≤ _; have h1 := HW.out.size; first | (rw [← e3]; exact h1) | omega
    have HW := Tt HW hb
    have HB1 := Bb HB1 hb
    have H3 := Lib.hid hB
    clear e3 hB hb
    refine hK (by repeat (first | exact PF.n | refine PF.l ?_ | refine PF.o (by decide +kernel) ?_ | refine PF.y (by first | exact HB1.out | exact HB1.out.trans HB10.out.symm) ?_)) ?_
    clear hK K
    try simp only [pz]
    refine PF.e 5 (by kernel_rfl) rfl fun K hK => ?_
    go_simp
    refine (rcursor_any (M := M) (HU.out.below (HT.out.trans (HW.out.mono HT.out.size))) rfl 2 (by decide)).mono ?_
    rintro e v5 ⟨rfl, hb⟩
    rw [HCS.out.2.1]
    have HW := Tt HW hb
    have HB1 := Bb HB1 hb
    try have H3 := Bb H3 hb
    clear hb
    refine hK (by repeat (first | exact PF.n | refine PF.l ?_ | refine PF.o (by decide +kernel) ?_ | refine PF.y (by first | exact HB1.out | exact HB1.out.trans HB10.out.symm) ?_)) ?_
    clear hK K
    try simp only [pz]
    refine PF.e 7 (by kernel_rfl) rfl fun K hK => ?_
    go_simp
    refine (rcursor_any (M := M) (HU.out.below (HT.out.trans (HW.out.mono HT.out.size))) rfl 3 (by decide)).mono ?_
    rintro e v7 ⟨rfl, hb⟩
    rw [HCS.out.2.2]
    have HW := Tt HW hb
    have HB1 := Bb HB1 hb
    try have H3 := Bb H3 hb
    clear hb
    refine hK (by repeat (first | exact PF.n | refine PF.l ?_ | refine PF.o (by decide +kernel) ?_ | refine PF.y (by first | exact HB1.out | exact HB1.out.trans HB10.out.symm) ?_)) ?_
    clear hK K
    try simp only [pz]
    refine PF.e 8 (by kernel_rfl) rfl fun K hK => ?_
    refine wp_u3 (x := c1) (y := c2) (z := c3) rfl rfl rfl rfl ?_
    intro gC v8 eC hB hb
    have HEC : Hid (w2.heap.size ≤ gC) := by show _ ≤ _; have h1 := HW.out.size; first | (rw [← eC]; exact h1) | omega
    have HNE : Hid (g3 ≠ gC) := by have h1 := H3.out.lt; show _ ≠ _; omega
    have H3 := Bb H3 hb
    have HW := Tt HW hb
    have HB1 := Bb HB1 hb
    have HC := Lib.hid hB
    clear eC hB hb
    refine hK (by repeat (first | exact PF.n | refine PF.l ?_ | refine PF.o (by decide +kernel) ?_ | refine PF.y (by first | exact HB1.out | exact HB1.out.trans HB10.out.symm) ?_)) ?_
    clear hK K
    try simp only [pz]
    refine PF.t 9 (by kernel_rfl) rfl (by exact exec_buildJ2 (x := .int .u64 (M.trim : Int)) (y := .slice (some ⟨gC, 0, none⟩) 3 3) (v := .agg #[.slice none 0 0, .int .u64 (M.trim : Int), .slice (some ⟨gC, 0, none⟩) 3 3]) rfl rfl rfl (build_tc M.trim gC _)) ?_
    try simp only [pz]
    refine PF.e 11 (by kernel_rfl) rfl fun K hK => ?_
    refine wp_store_blk (cs := #[.slice none 0 0, .int .u64 (M.trim : Int), .slice (some ⟨gC, 0, none⟩) 3 3]) rfl rfl rfl H3.out rfl (info_model rfl) (by intro u hu; simp only [List.mem_cons, List.not_mem_nil, or_false] at hu; rcases hu with rfl | rfl | rfl <;> rfl) ?_
    intro v11 hB hm
    have HC := Lib.hid (HC.out.mod hm fun e => HNE.out e.symm)
    have HB1 := Lib.hid (HB1.out.mod hm fun e => by have h1 := HE3.out; have h2 := HT.out.size; have h3 := HG2.out; omega)
    have HW := Lib.hid (HW.out.trans (hm.to_below HW.out.size fun b hb e => by have := HE3.out; omega))
    have H3 := Lib.hid hB
    clear hB hm
    refine hK (by repeat (first | exact PF.n | refine PF.l ?_ | refine PF.o (by decide +kernel) ?_ | refine PF.y (by first | exact HB1.out | exact HB1.out.trans HB10.out.symm) ?_)) ?_
    clear hK K
    try simp only [pz]
    refine PF.d (by kernel_rfl) ?_
    exact ⟨g3, gC, rfl, HW.out, H3.out, HC.out, HE3.out, HEC.out, HNE.out⟩
  -- number 10 first
  ·refine PF.f (by kernel_rfl) rfl fun K hK => ?_
   refine wp_alloc_blk rfl zero_model ?_
   intro g3 v10 e3 hB hb
   have HE3 : Hid (w2.heap.size ≤ g3) := by show _ ≤ _; have h1 := HW.out.size; first | (rw [← e3]; exact h1) | omega
   have HW := Tt HW hb
   have HB1 := Bb HB1 hb
   have H3 := Lib.hid hB
   clear e3 hB hb
   refine hK (by repeat (first | exact PF.n | refine PF.l ?_ | refine PF.o (by decide +kernel) ?_ | refine PF.y (by first | exact HB1.out | exact HB1.out.trans HB10.out.symm) ?_)) ?_
   clear hK K
   try simp only [pz]
   refine PF.e 3 (by kernel_rfl) rfl fun K hK => ?_
   go_simp
   refine (rcursor_any (M := M) (HU.out.below (HT.out.trans (HW.out.mono HT.out.size))) rfl 1 (by decide)).mono ?_
   rintro e v3 ⟨rfl, hb⟩
   rw [HCS.out.1]
   have HW := Tt HW hb
   have HB1 := Bb HB1 hb
   try have H3 := Bb H3 hb
   clear hb
   refine hK (by repeat (first | exact PF.n | refine PF.l ?_ | refine PF.o (by decide +kernel) ?_ | refine PF.y (by first | exact HB1.out | exact HB1.out.trans HB10.out.symm) ?_)) ?_
   clear hK K
   try simp only [pz]
   refine PF.e 5 (by kernel_rfl) rfl fun K hK => ?_
   go_simp
   refine (rcursor_any (M := M) (HU.out.below (HT.out.trans (HW.out.mono HT.out.size))) rfl 2 (by decide)).mono ?_
   rintro e v5 ⟨rfl, hb⟩
   rw [HCS.out.2.1]
   have HW := Tt HW hb
   have HB1 := Bb HB1 hb
   try have H3 := Bb H3 hb
   clear hb
   refine hK (by repeat (first | exact PF.n | refine PF.l ?_ | refine PF.o (by decide +kernel) ?_ | refine PF.y (by first | exact HB1.out | exact HB1.out.trans HB10.out.symm) ?_)) ?_
   clear hK K
   try simp only [pz]
   refine PF.e 7 (by kernel_rfl) rfl fun K hK => ?_
   go_simp
   refine (rcursor_any (M := M) (HU.out.below (HT.out.trans (HW.out.mono HT.out.size))) rfl 3 (by decide)).mono ?_
   rintro e v7 ⟨rfl, hb⟩
   rw [HCS.out.2.2]
   have HW := Tt HW hb
   have HB1 := Bb HB1 hb
   try have H3 := Bb H3 hb
   clear hb
   refine hK (by repeat (first | exact PF.n | refine PF.l ?_ | refine PF.o (by decide +kernel) ?_ | refine PF.y (by first | exact HB1.out | exact HB1.out.trans HB10.out.symm) ?_)) ?_
   clear hK K
   try simp only [pz]
   refine PF.e 8 (by kernel_rfl) rfl fun K hK => ?_
   refine wp_u3 (x := c1) (y := c2) (z := c3) rfl rfl rfl rfl ?_
   intro gC v8 eC hB hb
   have HEC : Hid (w2.heap.size ≤ gC) := by show _ ≤ _; have h1 := HW.out.size; first | (rw [← eC]; exact h1) | omega
   have HNE : Hid (g3 ≠ gC) := by have h1 := H3.out.lt; show _ ≠ _; omega
   have H3 := Bb H3 hb
   have HW := Tt HW hb
   have HB1 := Bb HB1 hb
   have HC := Lib.hid hB
   clear eC hB hb
   refine hK (by repeat (first | exact PF.n | refine PF.l ?_ | refine PF.o (by decide +kernel) ?_ | refine PF.y (by first | exact HB1.out | exact HB1.out.trans HB10.out.symm) ?_)) ?_
   clear hK K
   try simp only [pz]
   refine PF.t 9 (by kernel_rfl) rfl (by exact exec_buildJ2 (x := .int .u64 (M.trim : Int)) (y := .slice (some ⟨gC, 0, none⟩) 3 3) (v := .agg #[.slice none 0 0, .int .u64 (M.trim : Int), .slice (some ⟨gC, 0, none⟩) 3 3]) rfl rfl rfl (build_tc M.trim gC _)) ?_
   try simp only [pz]
   refine PF.e 11 (by kernel_rfl) rfl fun K hK => ?_
   refine wp_store_blk (cs := #[.slice none 0 0, .int .u64 (M.trim : Int), .slice (some ⟨gC, 0, none⟩) 3 3]) rfl rfl rfl H3.out rfl (info_model rfl) (by intro u hu; simp only [List.mem_cons, List.not_mem_nil, or_false] at hu; rcases hu with rfl | rfl | rfl <;> rfl) ?_
   intro v11 hB hm
   have HC := Lib.hid (HC.out.mod hm fun e => HNE.out e.symm)
   have HB1 := Lib.hid (HB1.out.mod hm fun e => by have h1 := HE3.out; have h2 := HT.out.size; have h3 := HG2.out; omega)
   have HW := Lib.hid (HW.out.trans (hm.to_below HW.out.size fun b hb e => by have := HE3.out; omega))
   have H3 := Lib.hid hB
   clear hB hm
   refine hK (by repeat (first | exact PF.n | refine PF.l ?_ | refine PF.o (by decide +kernel) ?_ | refine PF.y (by first | exact HB1.out | exact HB1.out.trans HB10.out.symm) ?_)) ?_
   clear hK K
   try simp only [pz]
   refine PF.d (by kernel_rfl) ?_
   exact ⟨g3, gC, rfl, HW.out, H3.out, HC.out, HE3.out, HEC.out, HNE.out⟩
 case rest =>
  intro g3 gC W ⟨hW, hB3, hBC, hg3, hgC, hne⟩
  have HTW := Tt HT hW
  have HB1 := Bb HB1 hW
  have HB2 := Bb HB2 hW
  have HB3 := Lib.hid hB3
  have HBC := Lib.hid hBC
  obtain ⟨B, hBB⟩ : ∃ B, B = W.heap.size := ⟨_, rfl⟩
  have HGG : Hid (w.heap.size < g2 ∧ g2 < g3 ∧ g2 < gC ∧ g3 < B ∧ gC < B ∧ g3 ≠ gC) := by
   have h1 := HG2.out
   have h2 := hB3.lt
   have h3 := hBC.lt
   show _ ∧ _
   omega
  have HBW : Hid (B ≤ W.heap.size) := by show _ ≤ _; omega
  clear hW hB3 hBC hg3 hgC hne m1 HG2 hBB HT
  go_wp2_with fail
  go_loopw [4] (fun iv wr => ∃ (k : Nat) (lv : Value) (D : List EnV), k ≤ E.length ∧ iv = .int .i64 k ∧ Below w.heap.size w wr ∧ B ≤ wr.heap.size ∧ Blk wr w.heap.size 45 (mdL M (.slice A E.length c) vc).toArray ∧ Blk wr g2 45 (mdL zMdl (.slice none 0 0) (.slice none 0 0)).toArray ∧ Blk wr gC 22 ([c1, c2, c3].map u64v).toArray ∧
    Blk wr g3 45 #[lv, .int .u64 (M.trim : Int), .slice (some ⟨gC, 0, none⟩) 3 3] ∧ D.length = k ∧ logs D = logs (E.take k) ∧ wr.ownsRow B 73 3 lv k (D.flatMap enL) ∧ ∀ p ∈ D, SlB (fun b => B ≤ b ∧ lv.ownBlock ≠ some b) wr p.2 p.1.body) (fun i _ => E.length - (intOf i).toNat)
  case atStart => exact ⟨0, .slice none 0 0, [], by omega, rfl, HTW.out, HBW.out, HB1.out, HB2.out, HBC.out, HB3.out, rfl, rfl, World.ownsRow_nil _ _ _ _, fun p hp => by cases hp⟩
  case round =>
   obtain ⟨k, lv, D, hk, rfl, hb, hbw, hB1, hB2, hBC, hB3, hD, hDm, how, hDb⟩ := hrel
   obtain ⟨wr, rfl⟩ : ∃ wo : World, wo = wr := ⟨_, rfl⟩
   have m0 := (hB1.cell 0).trans (rfl : _ = some (Value.slice A E.length c))
   obtain ⟨Al, cl, rfl, _, _⟩ := own_slice how
   have HT := Lib.hid hb
   have HBW := Lib.hid hbw
   have HB1 := Lib.hid hB1
   have HB2 := Lib.hid hB2
   have HBC := Lib.hid hBC
   have HB3 := Lib.hid hB3
   have HD : Hid (D.length = k ∧ logs D = logs (E.take k)) := ⟨hD, hDm⟩
   have HOW := Lib.hid how
   have HDB := Lib.hid hDb
   clear hb hbw hB1 hB2 hBC hB3 hD hDm how hDb HTW
   by_cases hlt : k < E.length
   ·obtain ⟨b, o, rfl, hbl, c0', c1', c2'⟩ := en_cells (HR.out.below HT.out) hlt
    have hsb := (HALL.out _ (List.getElem_mem hlt)).below HT.out
    have hbx := HBE.out _ (List.getElem_mem hlt)
    have HTK : Hid (logs (E.take (k + 1)) = logs (E.take k) ++ [E[k].1]) := by
     show _ = _
     unfold logs
     rw [List.take_succ_eq_append_getElem hlt, List.map_append]
     rfl
    generalize E[k] = p at c0' c1' c2' hsb hbx HTK
    obtain ⟨x, pv⟩ := p
    obtain ⟨Dx, cx, ex, hxr, _⟩ := id hsb
    simp only at ex c0' c1' c2'
    subst ex
    have hlti : (k : Int) < (E.length : Int) := by omega
    have hwk : IntKind.i64.wrap ((k : Int) + 1) = (k : Int) + 1 := by rw [IntKind.wrap_i64]; omega
    have hxr : Bytes wr Dx x.body := hxr
    have hbx : x.body.length ≤ 1000000 := hbx
    obtain ⟨n, hnn⟩ : ∃ n, n = x.body.length := ⟨_, rfl⟩
    have hxr : Reads wr 1 Dx n (x.body.map bv) := by rw [hnn]; exact hxr
    rw [← hnn] at c2'
    have hbox : Blk (wr.alloc (.cells #[.int .i64 x.prod, .int .u64 (x.seq : Int), .slice Dx n cx] 73)) wr.heap.size 73 #[.int .i64 x.prod, .int .u64 (x.seq : Int), .slice Dx n cx] := Blk.new _ _ _
    have hwb := below_new wr (.cells #[.int .i64 x.prod, .int .u64 (x.seq : Int), .slice Dx n cx] 73)
    have e2 : ((wr.alloc (.cells #[.int .i64 x.prod, .int .u64 (x.seq : Int), .slice Dx n cx] 73)).alloc (.cells #[] 5)).cell? ⟨wr.heap.size, 2, none⟩ = some (.slice Dx n cx) := ((hbox.alloc _).cell 2).trans rfl
    have hown0 : ((wr.alloc (.cells #[.int .i64 x.prod, .int .u64 (x.seq : Int), .slice Dx n cx] 73)).alloc (.cells #[] 5)).ownsRow (wr.alloc (.cells #[.int .i64 x.prod, .int .u64 (x.seq : Int), .slice Dx n cx] 73)).heap.size 5 1 (.slice (some ⟨(wr.alloc (.cells #[.int .i64 x.prod, .int .u64 (x.seq : Int), .slice Dx n cx] 73)).heap.size, 0, none⟩) 0 0) 0 [] := World.ownsRow_made _ _ _ (Nat.le_refl _) (by simp [maxLen]) rfl
    have hA' := Reads.alloc (hxr.below hwb) (.cells #[] 5)
    have h1 := bv_one x.body
    generalize hrow : x.body.map bv = r at hA' h1
    have HRW := Lib.hid hrow
    have HTK : Hid (logs (E.take (k + 1)) = logs (E.take k) ++ [x]) := HTK.out
    have HNN : Hid (n = x.body.length ∧ n ≤ 1000000) := ⟨hnn, by rw [hnn]; exact hbx⟩
    have HBOX := Lib.hid hbox
    have HWB := Lib.hid hwb
    clear hsb hbl hbox hwb hrow hxr hbx hnn
    simp only [alloc_size] at hown0
    go_wp2_with (at_builtin; refine app_list bytesK_ty rfl rfl hown0 rfl hA' rfl h1 (by have := HNN.out.2; omega) (by simp) ?_; intro v3 w3 hown3 hg3 _; refine Hid.out ?_)
    refine Lib.hid ?_
    have hb2 : Below wr.heap.size wr ((wr.alloc (.cells #[.int .i64 x.prod, .int .u64 (x.seq : Int), .slice Dx n cx] 73)).alloc (.cells #[] 5)) := HWB.out.trans ((below_new _ _).mono HWB.out.size)
    have hb3 : Below wr.heap.size wr w3 := hb2.grown hg3 hb2.size fun b hb => by have := own_ge hown0 b hb; omega
    have hbx3 : Blk w3 wr.heap.size 73 #[.int .i64 x.prod, .int .u64 (x.seq : Int), .slice Dx n cx] := (HBOX.out.alloc _).mod (mod_grownO hg3) fun e => by have := own_ge hown0 _ e; omega
    rw [Nat.zero_add, List.nil_append, ← HRW.out] at hown3
    obtain ⟨A3, c3', rfl, q1, q2⟩ := own_slice hown3
    have HSL3 : Hid (SlB (fun b => wr.heap.size + 1 ≤ b) w3 (.slice A3 n c3') x.body) := by
     have h := hown3
     rw [HNN.out.1] at h q1 ⊢
     exact ⟨A3, c3', rfl, own_bytes h, q1, by simpa [maxLen] using q2, fun _ ad ea => own_ge h _ (by rw [ea]; rfl)⟩
    have hm4 : Mod (fun b => b = wr.heap.size) w3 (w3.setCell ⟨wr.heap.size, 2, none⟩ (.slice A3 n c3')) := Mod.set (S := fun b => b = wr.heap.size) (Mod.refl _ _) (p := ⟨wr.heap.size, 2, none⟩) (fun _ => rfl) _
    have hbx4 : Blk (w3.setCell ⟨wr.heap.size, 2, none⟩ (.slice A3 n c3')) wr.heap.size 73 #[.int .i64 x.prod, .int .u64 (x.seq : Int), .slice A3 n c3'] := hbx3.put 2 (.slice A3 n c3')
    have z2 := (hbx3.cell 2).trans (rfl : _ = some (Value.slice Dx n cx))
    have f2 := hbx3.free 2
    have y0 := (hbx4.cell 0).trans (rfl : _ = some (Value.int .i64 x.prod))
    have y1 := (hbx4.cell 1).trans (rfl : _ = some (Value.int .u64 (x.seq : Int)))
    have y2 := (hbx4.cell 2).trans (rfl : _ = some (Value.slice A3 n c3'))
    have HB3' := Lib.hid ((HB3.out.below hb3 HB3.out.lt).mod hm4 fun e => by have := HB3.out.lt; omega)
    have x0 := (HB3'.out.cell 0).trans (rfl : _ = some (Value.slice Al k cl))
    have HZ3 : Hid (wr.heap.size ≤ w3.heap.size) := hb3.size
    have hb4 : Below wr.heap.size wr (w3.setCell ⟨wr.heap.size, 2, none⟩ (.slice A3 n c3')) := hb3.trans (hm4.to_below hb3.size fun b hb e => by omega)
    have hb5 := hb4.trans ((below_new (w3.setCell ⟨wr.heap.size, 2, none⟩ (.slice A3 n c3')) (.cells #[.int .i64 x.prod, .int .u64 (x.seq : Int), .slice A3 n c3'] 73)).mono hb4.size)
    have HOW5 := Lib.hid (own_call HOW.out hb5)
    have HSL5 : Hid (SlB (fun b => wr.heap.size + 1 ≤ b ∧ b < (w3.setCell ⟨wr.heap.size, 2, none⟩ (.slice A3 n c3')).heap.size) ((w3.setCell ⟨wr.heap.size, 2, none⟩ (.slice A3 n c3')).alloc (.cells #[.int .i64 x.prod, .int .u64 (x.seq : Int), .slice A3 n c3'] 73)) (.slice A3 n c3') x.body) := ((HSL3.out.mod hm4 fun b hb e => by omega).weak (K' := fun b => wr.heap.size + 1 ≤ b ∧ b < (w3.setCell ⟨wr.heap.size, 2, none⟩ (.slice A3 n c3')).heap.size) fun b h1 h2 => ⟨h2, h1⟩).below (below_new _ _)
    have HB5 := Lib.hid hb5
    have hkn : (k + 1) * 40 ≤ 140737488355328 := by omega
    have hbb5 : B ≤ ((w3.setCell ⟨wr.heap.size, 2, none⟩ (.slice A3 n c3')).alloc (.cells #[.int .i64 x.prod, .int .u64 (x.seq : Int), .slice A3 n c3'] 73)).heap.size := Nat.le_trans HBW.out hb5.size
    have HOL : Hid (∀ b, (Value.slice Al k cl).ownBlock = some b → B ≤ b ∧ b < wr.heap.size) := fun b hb => ⟨own_ge HOW.out b hb, (HOW.out.lt b hb).2⟩
    have HB35 := Lib.hid (HB3'.out.below (below_new (w3.setCell ⟨wr.heap.size, 2, none⟩ (.slice A3 n c3')) (.cells #[.int .i64 x.prod, .int .u64 (x.seq : Int), .slice A3 n c3'] 73)) HB3'.out.lt)
    clear hown0 hA' h1 e2 hg3 hown3 q1 q2 hb2 hb3 hbx3 hbx4 hm4 hb4 hb5 HB3' HSL3 c0' c1' c2'
    have hrb : Reads ((w3.setCell ⟨wr.heap.size, 2, none⟩ (.slice A3 n c3')).alloc (.cells #[.int .i64 x.prod, .int .u64 (x.seq : Int), .slice A3 n c3'] 73)) 3 (some ⟨w3.heap.size, 0, none⟩) 1 [.int .i64 x.prod, .int .u64 (x.seq : Int), .slice A3 n c3'] := by have h := reads_blockN (w3.setCell ⟨wr.heap.size, 2, none⟩ (.slice A3 n c3')) 73 [.int .i64 x.prod, .int .u64 (x.seq : Int), .slice A3 n c3'] 3 rfl; rw [size_setCellJ] at h; exact h
    go_wp2_with (at_builtin; refine app_list entry_ty rfl (s := .tmp 34) (x := .tmp 36) rfl HOW5.out rfl hrb rfl (by intro u hu; simp only [List.mem_cons, List.not_mem_nil, or_false] at hu; rcases hu with rfl | rfl | rfl <;> rfl) hkn hbb5 ?_; intro v12 w12 ho12 hg12 hq12; refine Hid.out ?_)
    refine Lib.hid ?_
    have hm12 := mod_grownO hg12
    have HSW : Hid (wr.heap.size ≤ (w3.setCell ⟨wr.heap.size, 2, none⟩ (.slice A3 n c3')).heap.size ∧ (w3.setCell ⟨wr.heap.size, 2, none⟩ (.slice A3 n c3')).heap.size < ((w3.setCell ⟨wr.heap.size, 2, none⟩ (.slice A3 n c3')).alloc (.cells #[.int .i64 x.prod, .int .u64 (x.seq : Int), .slice A3 n c3'] 73)).heap.size) := by
     have h1 := HB5.out.size
     rw [alloc_size] at h1 ⊢
     exact ⟨by rw [size_setCellJ]; exact HZ3.out, Nat.lt_succ_self _⟩
    generalize (w3.setCell ⟨wr.heap.size, 2, none⟩ (.slice A3 n c3')).alloc (.cells #[.int .i64 x.prod, .int .u64 (x.seq : Int), .slice A3 n c3'] 73) = w5 at HOW5 HSL5 HB5 hbb5 hg12 hq12 hm12 HB35 HSW
    generalize (w3.setCell ⟨wr.heap.size, 2, none⟩ (.slice A3 n c3')).heap.size = N4 at HSL5 HSW
    obtain ⟨A12, c12, rfl, _, _⟩ := own_slice ho12
    have HB312 := Lib.hid (HB35.out.mod hm12 fun e => by have h1 := HOL.out _ e; have h2 := HGG.out; omega)
    have x12 := (HB312.out.cell 0).trans (rfl : _ = some (Value.slice Al k cl))
    have f12 := HB312.out.free 0
    have hm13 : Mod (fun b => b = g3) w12 (w12.setCell ⟨g3, 0, none⟩ (.slice A12 (k + 1) c12)) := Mod.set (S := fun b => b = g3) (Mod.refl _ _) (p := ⟨g3, 0, none⟩) (fun _ => rfl) _
    have HMT : Hid (Mod (fun b => (Value.slice Al k cl).ownBlock = some b ∨ b = g3) wr (w12.setCell ⟨g3, 0, none⟩ (.slice A12 (k + 1) c12))) := ((Mod.below HB5.out (Nat.le_refl _)).trans (hm12.mono fun b _ h => .inl h)).trans (hm13.mono fun b _ h => .inr h)
    have HB313 : Hid (Blk (w12.setCell ⟨g3, 0, none⟩ (.slice A12 (k + 1) c12)) g3 45 #[.slice A12 (k + 1) c12, .int .u64 (M.trim : Int), .slice (some ⟨gC, 0, none⟩) 3 3]) := HB312.out.put 0 _
    have HOQ : Hid (∀ b, (Value.slice A12 (k + 1) c12).ownBlock = some b → (Value.slice Al k cl).ownBlock = some b ∨ N4 < b) := fun b hb => by
     rcases hq12 with e | e
     ·exact .inl (e ▸ hb)
     ·rw [e] at hb
      injection hb with hb
      exact .inr (by have := HSW.out.2; omega)
    have HNEW : Hid (SlB (fun b => B ≤ b ∧ (Value.slice A12 (k + 1) c12).ownBlock ≠ some b) (w12.setCell ⟨g3, 0, none⟩ (.slice A12 (k + 1) c12)) (.slice A3 n c3') x.body) := ((HSL5.out.mod hm12 fun b hb e => by have h1 := (HOL.out b e).2; omega).mod hm13 fun b hb e => by have h1 := HBW.out; have h2 := HGG.out; omega).weak fun b _ hb => ⟨by have h1 := HBW.out; omega, fun e => by
     rcases HOQ.out b e with h1 | h1
     ·have := (HOL.out b h1).2; omega
     ·omega⟩
    have ho13 := own_mod ho12 hm13 fun b hb e => by
     rcases HOQ.out b hb with h1 | h1
     ·have := (HOL.out b h1).1; have h2 := HGG.out; omega
     ·have h1 := HSW.out.1; have h2 := HBW.out; have h3 := HGG.out; omega
    have HO13 : Hid ((w12.setCell ⟨g3, 0, none⟩ (.slice A12 (k + 1) c12)).ownsRow B 73 3 (.slice A12 (k + 1) c12) (k + 1) ((D ++ [((x, Value.slice A3 n c3') : EnV)]).flatMap enL)) := by
     rw [List.flatMap_append]
     exact ho13
    have HDB13 : Hid (∀ p ∈ D, SlB (fun b => B ≤ b ∧ (Value.slice A12 (k + 1) c12).ownBlock ≠ some b) (w12.setCell ⟨g3, 0, none⟩ (.slice A12 (k + 1) c12)) p.2 p.1.body) := fun p hp => (((HDB.out p hp).weak (K' := fun b => (B ≤ b ∧ (Value.slice Al k cl).ownBlock ≠ some b) ∧ b < wr.heap.size) fun b h1 h2 => ⟨h2, h1⟩).mod HMT.out fun b hb e => by
     rcases e with e | e
     ·exact hb.1.2 e
     ·have h1 := hb.1.1; have h2 := HGG.out; omega).weak fun b _ hb => ⟨hb.1.1, fun e => by
     rcases HOQ.out b e with h1 | h1
     ·exact hb.1.2 h1
     ·have h2 := hb.2; have h3 := HSW.out.1; omega⟩
    clear hrb ho12 hg12 hq12 hm12 hm13 ho13 hbb5 hkn z2 f2 y0 y1 y2 x0
    go_wp2_with fail
    have HBG : Hid (∀ g : Nat, g < B → g ≠ g3 → ¬ ((Value.slice Al k cl).ownBlock = some g ∨ g = g3)) := fun g h1 h2 e => by
     rcases e with e | e
     ·have := (HOL.out g e).1; omega
     ·exact h2 e
    go_roundw
    case rel =>
     have hg := HGG.out
     refine ⟨k + 1, .slice A12 (k + 1) c12, D ++ [((x, Value.slice A3 n c3') : EnV)], hlt, by go_num, HT.out.trans (HMT.out.to_below HT.out.size fun b hb e => HBG.out b (by omega) (by omega) e), Nat.le_trans HBW.out HMT.out.size, HB1.out.mod HMT.out (HBG.out _ (by omega) (by omega)), HB2.out.mod HMT.out (HBG.out _ (by omega) (by omega)), HBC.out.mod HMT.out (HBG.out _ (by omega) (by omega)), HB313.out, by rw [List.length_append, HD.out.1]; rfl, ?_, HO13.out, fun p hp => ?_⟩
     ·rw [HTK.out, ← HD.out.2]
      unfold logs
      rw [List.map_append]
      rfl
     ·rcases List.mem_append.1 hp with hp | hp
      ·exact HDB13.out p hp
      ·rw [List.mem_singleton.1 hp]; exact HNEW.out
    case measure => simp [intOf]; omega
   ·obtain rfl : k = E.length := by omega
    go_wp2_with (refine wpList_load_blk rfl (ty := 45) rfl (g := g3) rfl HB3.out Tryz.underlying45 rfl (info_model rfl) ?_; refine Hid.out ?_)
    refine Lib.hid ?_
    refine wpList_store_blk rfl (ty := 45) rfl (g := g2) (cs := #[.slice Al E.length cl, .int .u64 (M.trim : Int), .slice (some ⟨gC, 0, none⟩) 3 3]) rfl rfl HB2.out rfl (info_model rfl) (by intro u hu; simp only [List.mem_cons, List.not_mem_nil, or_false] at hu; rcases hu with rfl | rfl | rfl <;> rfl) ?_
    rintro w9 hB9 hm9
    have HOW9 := Lib.hid (own_mod HOW.out hm9 fun b hb e => by have h1 := own_ge HOW.out b hb; have h2 := HGG.out; omega)
    have HDB9 : Hid (∀ p ∈ D, SlB (fun b => B ≤ b ∧ (Value.slice Al E.length cl).ownBlock ≠ some b) w9 p.2 p.1.body) := fun p hp => (HDB.out p hp).mod hm9 fun b hb e => by have h1 := hb.1; have h2 := HGG.out; omega
    have HBC9 := Lib.hid (HBC.out.mod hm9 fun e => by have := HGG.out; omega)
    have HT9 := Lib.hid (HT.out.trans (hm9.to_below HT.out.size fun b hb e => by have := HGG.out; omega))
    have HB9 := Lib.hid hB9
    clear hB9 hm9
    go_wp2_with fail
    refine bodyPost_ret (results_c Tryz.results21 _ HB9.out rfl Tryz.underlying45 rfl (info_model rfl)) rfl ?_
    refine ⟨⟨_, rfl, .slice Al E.length cl, gC, rfl, ⟨Al, cl, D, by rw [HD.out.1], ?_, by have := Reads.of_own HOW9.out; rw [HD.out.1]; exact this, fun p hp => (HDB9.out p hp).weak fun b _ hb => ⟨by have h1 := hb.1; have h2 := HGG.out; omega, by have h1 := hb.1; have h2 := HGG.out; omega⟩, ?_, ?_, fun _ ad ea => ?_⟩, ?_, rfl, ?_⟩, HT9.out⟩
    ·have h := HD.out.2
     rw [List.take_length] at h
     exact h.trans HE.out
    ·obtain ⟨A', c', e', h1, _⟩ := own_slice HOW9.out
     injection e' with _ _ e'
     subst e'
     rw [HD.out.1]; exact h1
    ·obtain ⟨A', c', e', _, h1⟩ := own_slice HOW9.out
     cases e'
     simpa [maxLen] using h1
    ·have h1 := own_ge HOW9.out ad.block (by rw [ea]; rfl)
     have h2 := HGG.out
     exact ⟨by omega, by omega⟩
    ·show Blk w9 gC _ ((own3 M.cur).map u64v).toArray
     rw [HO3.out]
     exact HBC9.out
    ·have := HGG.out
     omega
end Go.Proofs.YtpjmolnkmlpfeaaGreatDoor
