/- The walk of SeenParts. -/
import Derived.Test.YtgdbknbpnlpdnaaSeenT
import Derived.Test.YtgdbknbpnlpdnaaSeenU
namespace Go.Proofs.Ytgdbknbpnlpdnaa
open Go.RowKit

theorem entries_ty : SliceTy Try.prog 22 30 3 40 := SliceTy.mk (z := .agg #[.int .i64 0, .int .u64 0, .slice none 0 0]) Try.underlying22 (by kernel_rfl) (by kernel_rfl)
theorem Entries.of_own {w : World} {base : Nat} {A : Option Addr} {n c : Nat} {es : List En} (h : w.ownsRow base 30 3 (.slice A n c) n (En.row es)) : Entries w A es := by
  have hn : es.length = n := by
    have := h.1
    rw [En.row_len] at this
    omega
  subst hn
  exact Reads.of_own h
theorem u64_add_assoc (a b c : UInt64) : a + b + c = a + (b + c) := UInt64.add_assoc a b c
theorem marksUp_app (fr : UInt64) (a b : List En) (h : fr.toNat + a.length + b.length ≤ 4611686018427387904) : marksUp fr (a ++ b) (a ++ b).length = marksUp fr a a.length ++ marksUp (fr + UInt64.ofNat a.length) b b.length := by
  apply List.ext_getElem
  · rw [marksUp_len, List.length_append, List.length_append, marksUp_len, marksUp_len]
  · intro i h1 h2
    rw [marksUp_len, List.length_append] at h1
    have e1 : (marksUp fr (a ++ b) (a ++ b).length)[i]'(by rw [marksUp_len, List.length_append]; exact h1) = mkOf fr (a ++ b) i := by simp [marksUp]
    rw [e1]
    by_cases hi : i < a.length
    · rw [List.getElem_append_left (by rw [marksUp_len]; exact hi)]
      have e2 : (marksUp fr a a.length)[i]'(by rw [marksUp_len]; exact hi) = mkOf fr a i := by simp [marksUp]
      rw [e2, mkOf_at fr (a ++ b) (by rw [List.length_append]; omega), mkOf_at fr a hi, List.getElem_append_left hi]
    · rw [List.getElem_append_right (by rw [marksUp_len]; omega)]
      simp only [marksUp_len]
      have hj : i - a.length < b.length := by omega
      have e2 : (marksUp (fr + UInt64.ofNat a.length) b b.length)[i - a.length]'(by rw [marksUp_len]; exact hj) = mkOf (fr + UInt64.ofNat a.length) b (i - a.length) := by simp [marksUp]
      rw [e2, mkOf_at fr (a ++ b) (by rw [List.length_append]; omega), mkOf_at _ b hj, List.getElem_append_right (by omega)]
      congr 1
      rw [u64_add_assoc]
      congr 1
      apply UInt64.toNat_inj.1
      rw [UInt64.toNat_add, UInt64.toNat_ofNat', UInt64.toNat_ofNat', UInt64.toNat_ofNat']
      omega
/-- What the five calls of SeenParts come to. -/
theorem parts_plain {l : List Mk} {fr : UInt64} {a b : List En} (hf : fr.toNat ≤ 2305843009213693952) (ha : a.length ≤ 1000) (hb : b.length ≤ 1000) {g1 g2 : Option (List Mk)} (h1 : takeS l fr (a ++ b) = some g1) (h2 : takeS l fr a = some g2) :
    (g2 = none → g1 = none) ∧ ∀ one, g2 = some one → MayP one ∧ takeS one (fr + UInt64.ofNat a.length) b = some g1 ∧ joinS one one = some (some one) ∧
      (takeS [] (fr + UInt64.ofNat a.length) b = some (goesS [] (marksUp (fr + UInt64.ofNat a.length) b b.length))) ∧
      ∀ alone, goesS [] (marksUp (fr + UInt64.ofNat a.length) b b.length) = some alone → MayP alone ∧ ∀ all, g1 = some all → joinS one alone = some (some all) := by
  have h0 : MayP [] := ⟨by simp, fun m hm => (by cases hm), List.Pairwise.nil⟩
  unfold takeS at h1 h2
  split at h1
  · rename_i c1
    split at h2
    · rename_i c2
      simp only [Option.some.injEq] at h1 h2
      rw [Bool.and_eq_true, Bool.and_eq_true] at c1 c2
      have hml := mayB_P.1 c1.1
      have hab := c1.2.1
      rw [List.all_append, Bool.and_eq_true] at hab
      have hfit := c1.2.2
      unfold fitsB at hfit
      rw [decide_eq_true_iff, List.length_append] at hfit
      have happ := marksUp_app fr a b (by omega)
      rw [happ] at h1
      have hofn : (fr + UInt64.ofNat a.length).toNat = fr.toNat + a.length := by
        rw [UInt64.toNat_add, UInt64.toNat_ofNat']
        omega
      have hfb : fitsB (fr + UInt64.ofNat a.length) b.length = true := by
        unfold fitsB
        rw [decide_eq_true_iff, hofn]
        omega
      have hmB := marksUp_may hab.2 hfb
      have hmA := marksUp_may c2.2.1 c2.2.2
      generalize marksUp fr a a.length = MA at h1 h2 hmA happ
      have hsplit : goesS l (MA ++ marksUp (fr + UInt64.ofNat a.length) b b.length) = (marksUp (fr + UInt64.ofNat a.length) b b.length).foldl (fun o m => o.bind (goS · m)) (goesS l MA) := by
        unfold goesS
        rw [List.foldl_append]
      rw [hsplit, h2] at h1
      refine ⟨fun hg => ?_, fun one hone => ?_⟩
      · subst hg
        rw [goesS_none] at h1
        exact h1.symm
      · subst hone
        have pone := goesS_mayP hml hmA h2
        have pB := mayB_P.2 pone
        refine ⟨pone, ?_, ?_, ?_, fun alone hal => ?_⟩
        · unfold takeS
          rw [pB, hab.2, hfb]
          simp only [Bool.and_self, if_true]
          rw [← h1]; rfl
        · unfold joinS
          rw [pB, join_self pone]; rfl
        · unfold takeS
          rw [mayB_P.2 h0, hab.2, hfb]; rfl
        · have pal := goesS_mayP h0 hmB hal
          refine ⟨pal, fun all hg => ?_⟩
          subst hg
          unfold joinS
          rw [pB, mayB_P.2 pal, join_alone pone hmB hal h1]; rfl
    · cases h2
  · cases h1
end Go.Proofs.Ytgdbknbpnlpdnaa
