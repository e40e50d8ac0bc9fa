/- Plain laws of the sum: how long the register goes on till it comes round. -/
import Derived.Test.YtgnegofkffiopaaCrcFar
namespace Go.Proofs.Ytgnegofkffiopaa
namespace Crc

theorem Tn_comm (a b : Nat) (x : BitVec 32) : Tn a (Tn b x) = Tn b (Tn a x) := by rw [← Tn_add, ← Tn_add, Nat.add_comm]

/-- The sum of n words. -/
def xs : Nat → (Nat → BitVec 32) → BitVec 32
  | 0, _ => 0#32
  | n + 1, g => xs n g ^^^ g n
theorem xs_congr {n : Nat} {g h : Nat → BitVec 32} (e : ∀ i, i < n → g i = h i) : xs n g = xs n h := by
  induction n with
  | zero => rfl
  | succ n ih => rw [xs, xs, ih fun i hi => e i (by omega), e n (by omega)]
theorem Tn_xs (k : Nat) : ∀ (n : Nat) (g : Nat → BitVec 32), Tn k (xs n g) = xs n fun i => Tn k (g i)
  | 0, _ => Tn_zero k
  | n + 1, g => by rw [xs, Tn_xor, Tn_xs k n g]; rfl
theorem xs_bit (v : BitVec 32) : ∀ (n : Nat), n ≤ 32 → ∀ j, j < 32 → (xs n fun i => if v.getLsbD i then 1#32 <<< i else 0#32).getLsbD j = (decide (j < n) && v.getLsbD j)
  | 0, _, j, _ => by simp [xs]
  | n + 1, hn, j, hj => by
    rw [xs, BitVec.getLsbD_xor, xs_bit v n (by omega) j hj]
    by_cases e : j = n
    · subst e
      cases v.getLsbD j <;> simp [hj]
    · have hd : decide (j < n + 1) = decide (j < n) := by rw [decide_eq_decide]; omega
      rw [hd]
      have : (if v.getLsbD n = true then 1#32 <<< n else 0#32).getLsbD j = false := by
        split
        · simp [BitVec.getLsbD_shiftLeft, BitVec.getLsbD_one]; omega
        · simp
      rw [this, Bool.xor_false]
theorem one_shift : ∀ i : Fin 32, Tn i.1 1#32 = 1#32 <<< i.1 := by decide +kernel
theorem split_word (v : BitVec 32) : v = xs 32 fun i => if v.getLsbD i then Tn i 1#32 else 0#32 := by
  have h : (xs 32 fun i => if v.getLsbD i then Tn i 1#32 else 0#32) = xs 32 fun i => if v.getLsbD i then 1#32 <<< i else 0#32 := xs_congr fun i hi => by rw [one_shift ⟨i, hi⟩]
  rw [h]
  apply BitVec.eq_of_getLsbD_eq
  intro j hj
  rw [xs_bit v 32 (by omega) j hj]
  simp [hj]

/-- v times w. -/
def mulT (v w : BitVec 32) : BitVec 32 := xs 32 fun i => if v.getLsbD i then Tn i w else 0#32
theorem Tn_mul (n : Nat) (v : BitVec 32) : Tn n v = mulT v (Tn n 1#32) := by
  conv => lhs; rw [split_word v]
  rw [Tn_xs]
  refine xs_congr fun i _ => ?_
  split
  · rw [Tn_comm]
  · exact Tn_zero n
/-- The powers of two. -/
def pw : Nat → BitVec 32
  | 0 => T 1#32
  | j + 1 => mulT (pw j) (pw j)
theorem pw_eq : ∀ j, Tn (2 ^ j) 1#32 = pw j
  | 0 => rfl
  | j + 1 => by
    rw [Nat.pow_succ, Nat.mul_two, Tn_add, pw_eq j, Tn_mul, pw_eq j]
    rfl
theorem pw_31 : pw 31 = T 1#32 := by decide +kernel

def M : Nat := 2147483647
theorem Tn_M : Tn M 1#32 = 1#32 := by
  have h : Tn (M + 1) 1#32 = T 1#32 := by rw [show M + 1 = 2 ^ 31 from rfl, pw_eq, pw_31]
  rw [Tn_succ] at h
  exact T_inj h

theorem Tn_mult {k : Nat} (h : Tn k 1#32 = 1#32) : ∀ q, Tn (k * q) 1#32 = 1#32
  | 0 => rfl
  | q + 1 => by rw [Nat.mul_succ, Tn_add, h, Tn_mult h q]
theorem Tn_gcd (k n : Nat) : Tn k 1#32 = 1#32 → Tn n 1#32 = 1#32 → Tn (Nat.gcd k n) 1#32 = 1#32 := by
  induction k, n using Nat.gcd.induction with
  | H0 n => intro _ h; rw [Nat.gcd_zero_left]; exact h
  | H1 k n _ ih =>
    intro h1 h2
    rw [Nat.gcd_rec]
    refine ih ?_ h1
    have e : n = n % k + k * (n / k) := (Nat.mod_add_div n k).symm
    rw [e, Tn_add, Tn_mult h1] at h2
    exact h2

/-- No number from lo on, 2^d of them, divides M. -/
def noDiv : Nat → Nat → Bool
  | 0, lo => M % lo != 0
  | d + 1, lo => noDiv d lo && noDiv d (lo + 2 ^ d)
theorem noDiv_spec : ∀ (d lo : Nat), noDiv d lo = true → ∀ x, lo ≤ x → x < lo + 2 ^ d → M % x ≠ 0
  | 0, lo, h, x, h1, h2 => by
    have : x = lo := by simp at h2; omega
    subst this
    simpa [noDiv] using h
  | d + 1, lo, h, x, h1, h2 => by
    simp only [noDiv, Bool.and_eq_true] at h
    by_cases hx : x < lo + 2 ^ d
    · exact noDiv_spec d lo h.1 x h1 hx
    · exact noDiv_spec d (lo + 2 ^ d) h.2 x (by omega) (by rw [Nat.pow_succ] at h2; omega)
theorem noDiv_M : noDiv 16 2 = true := by decide +kernel
theorem gcd_M (k : Nat) (h0 : 0 < k) (h1 : k < 1000000) : Nat.gcd k M = 1 := by
  obtain ⟨q, hq⟩ := Nat.gcd_dvd_right k M
  have hg : Nat.gcd k M ≤ k := Nat.gcd_le_left _ h0
  generalize Nat.gcd k M = g at hq hg
  have hM : M = 2147483647 := rfl
  have hg0 : g ≠ 0 := by
    rintro rfl
    rw [Nat.zero_mul] at hq
    omega
  by_cases hg1 : g = 1
  · exact hg1
  · exfalso
    by_cases hgs : g < 65538
    · exact noDiv_spec 16 2 noDiv_M g (by omega) (by omega) (by rw [hq]; exact Nat.mul_mod_right g q)
    · have hq1 : q < 65538 := by
        rcases Nat.lt_or_ge q 65538 with h | h
        · exact h
        · have : 65538 * 65538 ≤ g * q := Nat.mul_le_mul (by omega) h
          omega
      have hq2 : 2 ≤ q := by
        rcases Nat.lt_or_ge q 2 with h | h
        · have : g * q ≤ g * 1 := Nat.mul_le_mul_left g (by omega)
          omega
        · exact h
      exact noDiv_spec 16 2 noDiv_M q hq2 (by omega) (by rw [hq]; exact Nat.mul_mod_left g q)
/-- The register does not come round for long. -/
theorem Tn_round (k : Nat) (h0 : 0 < k) (h1 : k < 1000000) (x : BitVec 32) (i : Nat) (hx : x = Tn i 1#32) : Tn k x ≠ x := by
  intro h
  rw [hx, Tn_comm] at h
  have h2 : Tn k 1#32 = 1#32 := Tn_inj i h
  have h3 := Tn_gcd k M h2 Tn_M
  rw [gcd_M k h0 h1] at h3
  exact absurd h3 (by decide)
end Crc
end Go.Proofs.Ytgnegofkffiopaa
