/- A client's beginning: New. -/
import Derived.Test.YtpbaofabflgpkaaCliK
import Derived.Test.YtpbaofabflgpkaaCliN
namespace Go.Proofs.Ytpbaofabflgpkaa
set_option linter.unusedVariables false
set_option linter.unusedSimpArgs false
open Go.RowKit

/-- May a client be made of these? -/
def newOk (nid : Int) (inc : Nat) (bs : List Int) : Prop := 1 ≤ nid ∧ nid ≤ 15 ∧ (1 ≤ inc ∧ inc ≤ 4611686018427387903) ∧ 1 ≤ bs.length ∧ bs.length ≤ 3 ∧ bs.any oddB = false ∧ apartI (bs.mergeSort fun x y => decide (x ≤ y))
def newX (nid : Int) (inc : Nat) (bs : List Int) : Cli := { zCli with id := nid, inc := inc, bs := bs }
/-- What New answers. -/
inductive NewPost (nid : Int) (inc : Nat) (bs : List Int) (K : Nat → Prop) (e : Ending) (w' : World) : Prop
  | good (h : newOk nid inc bs) (vb : Value) (he : e = .returned (.tuple #[.agg (cliL (newX nid inc bs) vb (.slice none 0 0)).toArray, .int .i64 0])) (hb : SlI K w' vb bs)
  | bad (h : ¬ newOk nid inc bs) (he : e = .returned (.tuple #[.agg (cliL zCli (.slice none 0 0) (.slice none 0 0)).toArray, .int .i64 1]))
theorem build_newX (nid : Int) (inc : Nat) (bs : List Int) (A : Option Addr) (n c : Nat) (w : World) : (Instr.build 29 #[(0, .int .i64 nid), (1, .int .u64 (inc : Int)), (3, .slice A n c)]).run Try.prog w = .ok (.agg (cliL (newX nid inc bs) (.slice A n c) (.slice none 0 0)).toArray) w := by kernel_rfl
theorem wpList_build3 {P : Program} {ops : Array Oper} {rest : List Oper} {op : Oper} {a : Act} {w : World} {Q : Exit → Act → World → Prop} (hgd : op.guard = none) {ty : TypeId} {i j k : Nat} {p q r : Operand} (ho : op.op = .build ty #[(i, p), (j, q), (k, r)]) {x y z v : Value} (hx : a.eval p = x) (hy : a.eval q = y) (hz : a.eval r = z)
    (hb : (Instr.build ty #[(i, x), (j, y), (k, z)]).run P w = .ok v w) (h : wpList P ops Q rest (a.put op.dst v) w) : wpList P ops Q (op :: rest) a w :=
  wpList_plain hgd fun _ hK => by
    unfold Oper.wp execOp
    simp only [ho, Sem.run_bind, List.map_toArray, List.map_cons, List.map_nil, hx, hy, hz, hb, Result.andThen_ok, Sem.run_pure]
    exact hK _ _ h
set_option maxRecDepth 100000 in
set_option maxHeartbeats 8000000 in
theorem new_any {K : Nat → Prop} {w : World} {nid : Int} {inc : Nat} {v : Value} {bs : List Int} (hv : SlI K w v bs) (hn : bs.length * 8 ≤ 140737488351232) :
    Calls Try.prog 6 #[.int .i64 nid, .int .u64 (inc : Int), v] w fun e w' => NewPost nid inc bs (fun b => w.heap.size ≤ b) e w' ∧ Below w.heap.size w w' := by
  have HV := Lib.hid hv
  obtain ⟨A, c, rfl, _⟩ := id hv
  have HN := Lib.hid hn
  clear hv hn
  go_enter Try.func6, Try.ntmps6
  go_wp2_with (refine wpList_alloc_blk rfl rfl zero_client ?_; rintro g1 w2 hg1 hB2 hb2; refine Hid.out ?_)
  refine Lib.hid ?_
  have HG1 : Hid (w.heap.size ≤ g1) := by show _ ≤ _; rw [hg1]; exact Nat.le_refl _
  have HR := Lib.hid hB2
  have HT := Lib.hid hb2
  clear hB2 hb2 hg1
  go_wp2_with fail
  refine (odd_any (HV.out.below HT.out) (by have := HN.out; omega)).mono ?_
  rintro e w2 ⟨rfl, rfl⟩
  go_wp2_with fail
  refine (values_any (HV.out.below HT.out)).mono ?_
  rintro e w4 ⟨rfl, rfl⟩
  have HL : Hid (g1 < (w2.alloc (.cells #[.slice A bs.length c] 23)).heap.size) := by show _ < _; have := HR.out.lt; simp; omega
  have HT4 := Lib.hid (below_call HT.out HT.out.size (below_new w2 (.cells #[.slice A bs.length c] 23)))
  have HR4 := Lib.hid (HR.out.alloc (.cells #[.slice A bs.length c] 23))
  have HS4 : Hid (w2.heap.size < (w2.alloc (.cells #[.slice A bs.length c] 23)).heap.size ∧ (w2.alloc (.cells #[.slice A bs.length c] 23)).cell? ⟨w2.heap.size, 0, none⟩ = some (.slice A bs.length c)) := ⟨by simp, ((Blk.new _ _ _).cell 0).trans rfl⟩
  generalize (w2.alloc (.cells #[.slice A bs.length c] 23)) = w4 at *
  generalize w2.heap.size = B4 at *
  clear HT HR
  go_wp2_with fail
  refine (sorted_any B4 _ bs HN.out w4 HS4.out.1 HS4.out.2 (ints_of (HV.out.below HT4.out))).mono ?_
  rintro e w5 ⟨vs, rfl, ho, hb5⟩
  have hol : (bs.mergeSort fun x y => decide (x ≤ y)).length = bs.length := List.length_mergeSort _
  have HO : Hid (OwnI w5 w4.heap.size vs (bs.mergeSort fun x y => decide (x ≤ y))) := by
    show OwnI _ _ _ _
    unfold OwnI
    rw [hol]
    exact ho
  have HT5 := Lib.hid (below_call HT4.out HT4.out.size hb5)
  have HR5 := Lib.hid (HR4.out.below hb5 HR4.out.lt)
  have HS5 : Hid (w4.heap.size ≤ w5.heap.size ∧ w.heap.size ≤ w4.heap.size) := ⟨hb5.size, HT4.out.size⟩
  have HOL := Lib.hid hol
  obtain ⟨A5, c5, e5, _, _⟩ := own_slice ho
  subst e5
  clear ho hb5 HT4 HR4 HS4 hol
  by_cases hok : newOk nid inc bs
  · have HOK := Lib.hid hok
    obtain ⟨h1, h2, h3, h4, h5, h6, h7⟩ := hok
    have d1 : decide (nid < 1) = false := decide_eq_false (by omega)
    have d2 : decide (15 < nid) = false := decide_eq_false (by omega)
    have d3 : decide (1 ≤ inc ∧ inc ≤ 4611686018427387903) = true := decide_eq_true h3
    have d4 : decide ((bs.length : Int) < 1) = false := decide_eq_false (by omega)
    have d5 : decide ((3 : Int) < (bs.length : Int)) = false := decide_eq_false (by omega)
    have d4' : decide (bs.length < 1) = false := decide_eq_false (by omega)
    have d5' : decide (3 < bs.length) = false := decide_eq_false (by omega)
    have HH := Lib.hid h7
    clear h1 h2 h3 h4 h5 h7
    generalize bs.any oddB = bo at h6 ⊢
    subst h6
    go_wp2_with (first | (go_at_call 20; refine (count_any _ _).mono ?_; rintro e w5 ⟨rfl, rfl⟩; rw [d3]))
    refine (icompact_any A5 bs.length c5 w4.heap.size _ HOL.out.symm w5 HO.out (by rw [HOL.out]; have := HOK.out.2.2.2.2.1; omega) HS5.out.1).mono ?_
    rintro e w6 ⟨⟨A6, n6, c6, rfl, _, hiff⟩, hb6⟩
    rw [HOL.out] at hiff
    obtain rfl : n6 = bs.length := hiff.2 HH.out
    have HT6 := Lib.hid (HT5.out.trans (hb6.mono HS5.out.2))
    have HR6 := Lib.hid (HR5.out.below hb6 HL.out)
    clear hb6 hiff HO HT5 HR5
    go_wp2_with fail
    refine (iclone_any (HV.out.below HT6.out) (by have := HOK.out.2.2.2.2.1; omega)).mono ?_
    rintro e w7 ⟨⟨vb, rfl, hvb⟩, hb7⟩
    have HT7 := Lib.hid (below_call HT6.out HT6.out.size hb7)
    have HR7 := Lib.hid (HR6.out.below hb7 HR6.out.lt)
    have HVB := Lib.hid (hvb.weak (K' := fun b => g1 < b ∧ w.heap.size ≤ b) fun b _ h => by have h : w6.heap.size ≤ b := h; have := HR6.out.lt; have := HT6.out.size; show _ ∧ _; omega)
    have HOB := Lib.hid hvb.one
    obtain ⟨A7, c7, e7, _⟩ := id hvb
    subst e7
    clear hvb hb7 HT6 HR6 d1 d2 d3 d4 d5 d4' d5'
    go_wp2_with (refine wpList_build3 (x := .int .i64 nid) (y := .int .u64 (inc : Int)) (z := .slice A7 bs.length c7) (v := .agg (cliL (newX nid inc bs) (.slice A7 bs.length c7) (.slice none 0 0)).toArray) rfl rfl rfl rfl rfl (build_newX nid inc bs A7 bs.length c7 w7) ?_; refine Hid.out ?_)
    refine Lib.hid ?_
    go_wp2_with (refine wpList_store_blk rfl rfl rfl rfl HR7.out rfl (info_client rfl) (cliL_one HOB.out rfl) ?_; rintro w8 hB8 hm8; refine Hid.out ?_)
    refine Lib.hid ?_
    go_wp2_with fail
    refine bodyPost_ret (results_ct Try.results6 _ hB8 rfl Try.underlying29 rfl (info_client rfl)) rfl ?_
    exact ⟨.good HOK.out _ rfl ((HVB.out.mod hm8 fun b h e => by have := h.1; omega).weak fun b _ h => h.2), HT7.out.trans (hm8.to_below HT7.out.size fun b hb e => by have := HG1.out; omega)⟩
  · have HOK := Lib.hid hok
    have HOKF : Hid ((1 ≤ nid ∧ nid ≤ 15 ∧ (1 ≤ inc ∧ inc ≤ 4611686018427387903) ∧ 1 ≤ bs.length ∧ bs.length ≤ 3 ∧ bs.any oddB = false ∧ apartI (bs.mergeSort fun x y => decide (x ≤ y))) → False) := hok
    clear hok
    clear HN
    by_cases h5 : bs.length ≤ 3
    · have d5 : decide ((3 : Int) < (bs.length : Int)) = false := decide_eq_false (by omega)
      have d5' : decide (3 < bs.length) = false := decide_eq_false (by omega)
      have HOKF : Hid ((1 ≤ nid ∧ nid ≤ 15 ∧ (1 ≤ inc ∧ inc ≤ 4611686018427387903) ∧ 1 ≤ bs.length ∧ bs.any oddB = false ∧ apartI (bs.mergeSort fun x y => decide (x ≤ y))) → False) := fun h => HOKF.out ⟨h.1, h.2.1, h.2.2.1, h.2.2.2.1, h5, h.2.2.2.2.1, h.2.2.2.2.2⟩
      have HC := icompact_any A5 bs.length c5 w4.heap.size _ HOL.out.symm w5 HO.out (by rw [HOL.out]; omega) HS5.out.1
      have HC := Lib.hid HC
      have H5 := Lib.hid h5
      clear h5
      generalize hbo : bs.any oddB = bo at HOKF ⊢
      clear hbo
      cases bo
      all_goals go_wp2_with (first
        | (go_at_call 20; refine (count_any _ _).mono ?_; rintro e w5 ⟨rfl, rfl⟩; cases hbi : decide (1 ≤ inc ∧ inc ≤ 4611686018427387903))
        | (go_at_call 21; refine HC.out.mono ?_; rintro e w6 ⟨⟨A6, n6, c6, rfl, _, hiff⟩, hb6⟩; rw [HOL.out] at hiff; have hne : n6 ≠ bs.length := (fun h => HOKF.out ⟨by omega, by omega, of_decide_eq_true (by assumption), by omega, by first | trivial | rfl | assumption, hiff.1 h⟩); have HT5 := Lib.hid (HT5.out.trans (hb6.mono HS5.out.2)); have HR5 := Lib.hid (HR5.out.below hb6 HL.out); clear hb6 hiff; have d6 : decide ((n6 : Int) = (bs.length : Int)) = false := decide_eq_false (by omega); have d7 : ((n6 : Int) != (bs.length : Int)) = true := bne_iff_ne.2 (by omega); clear hne)
        | (refine wpList_build0 (v := .agg (cliL zCli (.slice none 0 0) (.slice none 0 0)).toArray) rfl rfl (build_client0 _) ?_; refine Hid.out ?_))
      all_goals
        refine Lib.hid ?_
        go_wp2_with (refine wpList_store_blk rfl rfl rfl rfl HR5.out rfl (info_client rfl) (cliL_one rfl rfl) ?_; rintro w91 hB91 hm91; refine Hid.out ?_)
        refine Lib.hid ?_
        go_wp2_with fail
        refine bodyPost_ret (results_ct Try.results6 _ hB91 rfl Try.underlying29 rfl (info_client rfl)) rfl ?_
        exact ⟨.bad HOK.out rfl, HT5.out.trans (hm91.to_below HT5.out.size fun b hb e => by have := HG1.out; omega)⟩
    · have d5 : decide ((3 : Int) < (bs.length : Int)) = true := decide_eq_true (by omega)
      have d5' : decide (3 < bs.length) = true := decide_eq_true (by omega)
      clear h5
      generalize bs.any oddB = bo at *
      go_wp2_with (first
        | (go_at_call 20; refine (count_any _ _).mono ?_; rintro e w5 ⟨rfl, rfl⟩; cases hbi : decide (1 ≤ inc ∧ inc ≤ 4611686018427387903))
        | (refine wpList_build0 (v := .agg (cliL zCli (.slice none 0 0) (.slice none 0 0)).toArray) rfl rfl (build_client0 _) ?_; refine Hid.out ?_))
      all_goals
        refine Lib.hid ?_
        go_wp2_with (refine wpList_store_blk rfl rfl rfl rfl HR5.out rfl (info_client rfl) (cliL_one rfl rfl) ?_; rintro w91 hB91 hm91; refine Hid.out ?_)
        refine Lib.hid ?_
        go_wp2_with fail
        refine bodyPost_ret (results_ct Try.results6 _ hB91 rfl Try.underlying29 rfl (info_client rfl)) rfl ?_
        exact ⟨.bad HOK.out rfl, HT5.out.trans (hm91.to_below HT5.out.size fun b hb e => by have := HG1.out; omega)⟩
end Go.Proofs.Ytpbaofabflgpkaa
