/- The document's row and the bytes: plain. -/
import Derived.Test.YtdckdjkkaangmaaDoorJL
import Derived.Test.YtdckdjkkaangmaaDoorWireG2
namespace Go.Proofs.YtdckdjkkaangmaaDoor
set_option linter.unusedVariables false
set_option linter.unusedSimpArgs false
set_option maxRecDepth 100000
open Go.RowKit

/-- A field as a number of the row. -/
def numN (n : Nat → Int) (f : Fd) : Nat := match f.1 with | true => (n f.2).toNat | false => (IntKind.u64.wrap (n f.2)).toNat
/-- The small ones. -/
def smallsN (P : Pk) : List Int := ((schema (P.n 0)).filter fun f => !f.1).map fun f => P.n f.2
def numsN (P : Pk) : List Nat := (schema (P.n 0)).map (numN P.n)
theorem fld_num {n : Nat → Int} {f : Fd} (h : f.1 = true → 0 ≤ n f.2 ∧ n f.2 < 18446744073709551616) : fldU n f = u64v (numN n f) ∧ numN n f < 18446744073709551616 := by
  obtain ⟨b, o⟩ := f
  cases b
  · have hw : (IntKind.u64.wrap (n o)) = n o % 18446744073709551616 := IntKind.wrap_u64 _
    show Value.int .u64 (IntKind.u64.wrap (n o)) = .int .u64 ((IntKind.u64.wrap (n o)).toNat : Int) ∧ (IntKind.u64.wrap (n o)).toNat < _
    rw [hw]
    refine ⟨congrArg _ ?_, ?_⟩ <;> omega
  · have h : 0 ≤ n o ∧ n o < 18446744073709551616 := h rfl
    show Value.int .u64 (n o) = .int .u64 ((n o).toNat : Int) ∧ (n o).toNat < _
    refine ⟨congrArg _ ?_, ?_⟩ <;> omega
theorem nums_vals {P : Pk} (hN : PkN P) (h1 : 1 ≤ P.n 0) (h2 : P.n 0 ≤ 6) : (schema (P.n 0)).map (fldU P.n) = (numsN P).map u64v ∧ ∀ x ∈ numsN P, x < 18446744073709551616 := by
  have hF : ∀ f ∈ schema (P.n 0), f.1 = true → 0 ≤ P.n f.2 ∧ P.n f.2 < 18446744073709551616 := fun f hf e => by
    rcases schema_sort h1 h2 f hf with h | h
    · exact hN.nums _ h.2
    · rw [h.1] at e; cases e
  constructor
  · unfold numsN
    rw [List.map_map]
    exact List.map_congr_left fun f hf => (fld_num (hF f hf)).1
  · intro x hx
    obtain ⟨f, hf, rfl⟩ := List.mem_map.1 hx
    exact (fld_num (hF f hf)).2
theorem smalls_vals (P : Pk) : ((schema (P.n 0)).filter fun f => !f.1).map (fldI P.n) = (smallsN P).map fun x => .int .i64 x := by
  unfold smallsN
  rw [List.map_map]
  rfl
theorem smalls_bad (P : Pk) : (schema (P.n 0)).any (badF P.n) = (smallsN P).any fun x => decide (x < 0) || decide (255 < x) := by
  unfold smallsN
  rw [List.any_map]
  induction schema (P.n 0) with
  | nil => rfl
  | cons f fs ih =>
    obtain ⟨b, o⟩ := f
    cases b
    · simp only [List.any_cons, List.filter_cons, Bool.not_false, if_true, ih]
      rfl
    · simp only [List.any_cons, List.filter_cons, Bool.not_true, ih]
      simp [badF]
theorem nums_flat {P : Pk} (hN : PkN P) (h1 : 1 ≤ P.n 0) (h2 : P.n 0 ≤ 6) (hb : (schema (P.n 0)).any (badF P.n) = false) : (numsN P).flatMap short = (schema (P.n 0)).flatMap (wb P.n) := by
  have hf := fd_ok hN h1 h2 hb
  unfold numsN
  generalize schema (P.n 0) = fs at hf
  induction fs with
  | nil => rfl
  | cons f fs ih =>
    rw [List.map_cons, List.flatMap_cons, List.flatMap_cons, ih fun g hg => hf g (List.mem_cons_of_mem _ hg)]
    congr 1
    have h := hf f (List.mem_cons_self ..)
    obtain ⟨b, o⟩ := f
    cases b
    · have h : 0 ≤ P.n o ∧ P.n o ≤ 255 := h
      have hw : (IntKind.u64.wrap (P.n o)) = P.n o % 18446744073709551616 := IntKind.wrap_u64 _
      show short (IntKind.u64.wrap (P.n o)).toNat = short (max (P.n o) 0).toNat
      congr 1
      rw [hw]
      omega
    · rfl
/-- What the document writes. -/
theorem enc_nums {P : Pk} (hN : PkN P) (h1 : 1 ≤ P.n 0) (h2 : P.n 0 ≤ 6) (hb : (schema (P.n 0)).any (badF P.n) = false) :
    (enc P).1 = ([UInt8.ofNat (P.n 0).toNat] ++ (numsN P).flatMap short ++ (short (P.t (txtO (P.n 0))).length ++ P.t (txtO (P.n 0)))) ++ (if P.n 0 = 3 then short (kK P).length ++ (kK P).flatMap short else []) := by
  have hk : (if P.n 0 = 3 then short (kK P).length ++ (kK P).flatMap short else []) = if P.n 0 = 3 then short P.k.length ++ P.k.flatMap short else [] := by
    by_cases h : P.n 0 = 3
    · unfold kK
      rw [if_pos h, if_pos h, if_pos h]
    · rw [if_neg h, if_neg h]
  rw [hk, enc_form, nums_flat hN h1 h2 hb]
  simp only [List.append_assoc, List.singleton_append, List.cons_append, List.nil_append]
theorem kK_len (P : Pk) : (decide (P.n 0 = 3) && decide (64 < P.k.length)) = decide (64 < (kK P).length) := by
  unfold kK
  by_cases h : P.n 0 = 3
  · rw [if_pos h, decide_eq_true h, Bool.true_and]
  · rw [if_neg h, decide_eq_false h, Bool.false_and]
    rfl
theorem ok_doc {P : Pk} : OkP P ↔ (1 ≤ P.n 0 ∧ P.n 0 ≤ 6) ∧ PkEq P (alonePk P) ∧ ((smallsN P).any fun x => decide (x < 0) || decide (255 < x)) = false ∧ (kK P).length ≤ 64 := by
  unfold OkP
  rw [enc_bad, smalls_bad, kK_len, Bool.or_eq_false_iff, decide_eq_false_iff_not]
  constructor
  · rintro ⟨h1, h2, ⟨h3, h4⟩, h5⟩
    exact ⟨⟨h1, h2⟩, h5.symm, h3, by omega⟩
  · rintro ⟨⟨h1, h2⟩, h5, h3, h4⟩
    exact ⟨h1, h2, ⟨h3, by omega⟩, h5.symm⟩
theorem flats_len : ∀ (xs : List Nat) (_ : ∀ x ∈ xs, x < 18446744073709551616), (xs.flatMap short).length ≤ 10 * xs.length
  | [], _ => by simp
  | x :: xs, h => by
    have h1 := flats_len xs fun y hy => h y (List.mem_cons_of_mem _ hy)
    have h2 := short_len (y := x) (h x (List.mem_cons_self ..))
    rw [List.flatMap_cons, List.length_append, List.length_cons]
    omega
theorem flat_take {xs : List Nat} {k : Nat} (hk : k < xs.length) : (xs.take (k + 1)).flatMap short = (xs.take k).flatMap short ++ short xs[k] := by
  rw [List.take_succ_eq_append_getElem hk, List.flatMap_append]
  simp
theorem Reads.cellOf {w : World} {b o n j : Nat} {xs : List Value} {v : Value} (h : Reads w 1 (some ⟨b, o, none⟩) n xs) (hv : xs[j]? = some v) : w.cell? ⟨b, o + j, none⟩ = some v := by
  have hj := (List.getElem?_eq_some_iff.1 hv).1
  have hl := h.1
  obtain ⟨b', o', e, _, hc⟩ := Reads.flat h (by omega) (by decide)
  injection e with e
  injection e with e1 e2
  subst e1 e2
  exact hc j v hv
theorem DRowP.get {P : Pk} {e : Ending} {w' : World} (hN : PkN P) (h1 : 1 ≤ P.n 0) (h6 : P.n 0 ≤ 6) (h : DRowP P e w') :
    ∃ A c A2 c2 ga gb, e = .returned (.tuple #[.slice (some ⟨ga, 0, none⟩) (numsN P).length (numsN P).length, .slice (some ⟨gb, 0, none⟩) (smallsN P).length (smallsN P).length, .slice A (P.t (txtO (P.n 0))).length c, .slice A2 (kK P).length c2]) ∧ Reads w' 1 (some ⟨ga, 0, none⟩) (numsN P).length ((numsN P).map u64v) ∧ Reads w' 1 (some ⟨gb, 0, none⟩) (smallsN P).length ((smallsN P).map fun x => .int .i64 x) ∧ Bytes w' A (P.t (txtO (P.n 0))) ∧ Keeps w' A2 (kK P) := by
  obtain ⟨A, c, A2, c2, htx, hkp, ga, gb, he, ha, hb⟩ := h
  rw [(nums_vals hN h1 h6).1] at he ha
  rw [smalls_vals] at he hb
  simp only [List.length_map] at he ha hb
  exact ⟨A, c, A2, c2, ga, gb, he, ha, hb, htx, hkp⟩
end Go.Proofs.YtdckdjkkaangmaaDoor
