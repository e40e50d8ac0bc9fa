/- Joined texts: CrcFar, CrcOrd, CrcBits, CrcSeal, WireJ2. -/
import Derived.Test.YtdckdjkkaangmaaDoorJD
/- Plain laws of the sum: how it goes on; four bytes behind a text; what is sealed. -/
namespace Go.Proofs.YtdckdjkkaangmaaDoor
set_option linter.unusedVariables false
set_option linter.unusedSimpArgs false
set_option maxRecDepth 100000
namespace Crc

theorem xor_cancel {n : Nat} {x y z : BitVec n} (h : x ^^^ y = x ^^^ z) : y = z := by
  have := congrArg (fun t => x ^^^ t) h
  simpa [← BitVec.xor_assoc] using this
theorem xor_zero_iff {n : Nat} {x y : BitVec n} : x ^^^ y = 0#n ↔ x = y := by
  constructor
  · intro h
    have : x ^^^ y = x ^^^ x := by rw [h, BitVec.xor_self]
    exact (xor_cancel this).symm
  · rintro rfl; exact BitVec.xor_self

theorem T_zero : T 0#32 = 0#32 := by decide
theorem T_bit0 (x : BitVec 32) : (T x).getLsbD 0 = x.msb := by
  unfold T
  cases x.msb <;> simp
theorem T_ker (x : BitVec 32) (h : T x = 0#32) : x = 0#32 := by
  have h0 := T_bit0 x
  rw [h] at h0
  simp at h0
  unfold T at h
  rw [h0] at h
  simp at h
  have hm : x.getLsbD 31 = false := by rw [BitVec.msb_eq_getLsbD_last] at h0; exact h0
  apply BitVec.eq_of_getLsbD_eq
  intro i hi
  by_cases e : i = 31
  · subst e; rw [hm]; simp
  · have := congrArg (fun t => t.getLsbD (i + 1)) h
    simp [BitVec.getLsbD_shiftLeft] at this
    have h2 := this (by omega)
    rw [h2]; simp
theorem T_inj {x y : BitVec 32} (h : T x = T y) : x = y := by
  have : T (x ^^^ y) = 0#32 := by rw [T_xor, h, BitVec.xor_self]
  exact xor_zero_iff.1 (T_ker _ this)
theorem Tn_inj : ∀ (n : Nat) {x y : BitVec 32}, Tn n x = Tn n y → x = y
  | 0, _, _, h => h
  | n + 1, _, _, h => T_inj (Tn_inj n h)
theorem Tn_xor : ∀ (n : Nat) (x y : BitVec 32), Tn n (x ^^^ y) = Tn n x ^^^ Tn n y
  | 0, _, _ => rfl
  | n + 1, x, y => by show Tn n (T (x ^^^ y)) = _; rw [T_xor, Tn_xor n]; rfl
theorem Tn_zero : ∀ n, Tn n 0#32 = 0#32
  | 0 => rfl
  | n + 1 => by show Tn n (T 0#32) = _; rw [T_zero, Tn_zero n]

theorem hand_inj {x y : BitVec 32} {c : UInt8} (h : hand x c = hand y c) : x = y := by
  have h1 := Tn_inj 8 h
  rw [BitVec.xor_comm x, BitVec.xor_comm y] at h1
  exact xor_cancel h1
theorem feed_inj (l : List UInt8) : ∀ {x y : BitVec 32}, feed x l = feed y l → x = y := by
  induction l with
  | nil => intro x y h; exact h
  | cons c l ih => intro x y h; exact hand_inj (ih h)
theorem rev32_inj {x y : BitVec 32} (h : rev32 x = rev32 y) : x = y := by
  apply BitVec.eq_of_getLsbD_eq
  intro i hi
  have h1 := rev32_bit x (31 - i) (by omega)
  have h2 := rev32_bit y (31 - i) (by omega)
  rw [show 31 - (31 - i) = i by omega] at h1 h2
  rw [← h1, ← h2, h]
theorem fin_inj {x y : BitVec 32} (h : fin x = fin y) : x = y := by
  unfold fin at h
  have := congrArg (fun t => ~~~ t) h
  simp only [BitVec.not_not] at this
  exact rev32_inj this
theorem sum_eq (a b : List UInt8) : sum a = sum b ↔ feed 0xFFFFFFFF#32 a = feed 0xFFFFFFFF#32 b := ⟨fin_inj, fun h => congrArg fin h⟩
/-- How a sum goes on. -/
theorem sum_on (a b c : List UInt8) : sum a = sum b ↔ sum (a ++ c) = sum (b ++ c) := by
  rw [sum_eq, sum_eq, feed_append, feed_append]
  exact ⟨fun h => by rw [h], feed_inj c⟩

/-- Four bytes at their places. -/
def word (a b c d : UInt8) : BitVec 32 := top a ^^^ (top b >>> 8) ^^^ (top c >>> 16) ^^^ (top d >>> 24)
theorem top_down : ∀ c : Fin 256, Tn 8 (top (UInt8.ofNat c.1) >>> 8) = top (UInt8.ofNat c.1) ∧ Tn 16 (top (UInt8.ofNat c.1) >>> 16) = top (UInt8.ofNat c.1) ∧ Tn 24 (top (UInt8.ofNat c.1) >>> 24) = top (UInt8.ofNat c.1) := by decide +kernel
theorem top_d (c : UInt8) : Tn 8 (top c >>> 8) = top c ∧ Tn 16 (top c >>> 16) = top c ∧ Tn 24 (top c >>> 24) = top c := by
  have := top_down ⟨c.toNat, c.toNat_lt⟩
  simpa only [UInt8.ofNat_toNat] using this
theorem top0 : top 0 = 0#32 := by decide
theorem feed1 (x : BitVec 32) (a : UInt8) : feed x [a] = Tn 8 (x ^^^ word a 0 0 0) := by
  unfold word; rw [top0]; simp; rfl
theorem feed2 (x : BitVec 32) (a b : UInt8) : feed x [a, b] = Tn 16 (x ^^^ word a b 0 0) := by
  unfold word
  rw [top0]
  show Tn 8 (Tn 8 (x ^^^ top a) ^^^ top b) = _
  rw [← (top_d b).1]
  simp only [← Tn_xor, ← Tn_add]
  congr 1
  simp only [(top_d b).1]
  simp [BitVec.xor_assoc]
theorem feed3 (x : BitVec 32) (a b c : UInt8) : feed x [a, b, c] = Tn 24 (x ^^^ word a b c 0) := by
  show Tn 8 (feed x [a, b] ^^^ top c) = _
  have h : feed x [a, b] ^^^ top c = Tn 16 (x ^^^ word a b c 0) := by
    rw [feed2, ← (top_d c).2.1, ← Tn_xor]
    unfold word
    rw [top0]
    congr 1
    simp [BitVec.xor_assoc]
  rw [h, ← Tn_add]
theorem feed4 (x : BitVec 32) (a b c d : UInt8) : feed x [a, b, c, d] = Tn 32 (x ^^^ word a b c d) := by
  show Tn 8 (feed x [a, b, c] ^^^ top d) = _
  have h : feed x [a, b, c] ^^^ top d = Tn 24 (x ^^^ word a b c d) := by
    rw [feed3, ← (top_d d).2.2, ← Tn_xor]
    unfold word
    rw [top0]
    congr 1
    simp [BitVec.xor_assoc]
  rw [h, ← Tn_add]

theorem rev8_lt (c : UInt8) : (rev8 c).toNat < 256 := (rev8 c).toNat_lt
theorem word_byte (a b c d : UInt8) : ((word a b c d) >>> 24).setWidth 8 = BitVec.ofNat 8 (rev8 a).toNat ∧ ((word a b c d) >>> 16).setWidth 8 = BitVec.ofNat 8 (rev8 b).toNat ∧
    ((word a b c d) >>> 8).setWidth 8 = BitVec.ofNat 8 (rev8 c).toNat ∧ (word a b c d).setWidth 8 = BitVec.ofNat 8 (rev8 d).toNat := by
  have ha : ∀ (u : UInt8) i, 8 ≤ i → (rev8 u).toNat.testBit i = false := fun u i hi => Nat.testBit_lt_two_pow (Nat.lt_of_lt_of_le (rev8_lt u) (Nat.pow_le_pow_right (by decide) hi : 2 ^ 8 ≤ 2 ^ i))
  unfold word top
  refine ⟨?_, ?_, ?_, ?_⟩ <;>
  · apply BitVec.eq_of_getLsbD_eq
    intro i hi
    simp only [BitVec.getLsbD_setWidth, BitVec.getLsbD_ushiftRight, BitVec.getLsbD_xor, BitVec.getLsbD_shiftLeft, BitVec.getLsbD_ofNat]
    have hc : i = 0 ∨ i = 1 ∨ i = 2 ∨ i = 3 ∨ i = 4 ∨ i = 5 ∨ i = 6 ∨ i = 7 := by omega
    rcases hc with rfl | rfl | rfl | rfl | rfl | rfl | rfl | rfl <;> simp [ha]
theorem rev8_rev8 : ∀ c : Fin 256, rev8 (rev8 (UInt8.ofNat c.1)) = UInt8.ofNat c.1 := by decide +kernel
theorem rev8_inj {a b : UInt8} (h : rev8 a = rev8 b) : a = b := by
  have h1 := rev8_rev8 ⟨a.toNat, a.toNat_lt⟩
  have h2 := rev8_rev8 ⟨b.toNat, b.toNat_lt⟩
  simp only [UInt8.ofNat_toNat] at h1 h2
  rw [← h1, ← h2, h]
theorem byte_inj {a b : UInt8} (h : BitVec.ofNat 8 (rev8 a).toNat = BitVec.ofNat 8 (rev8 b).toNat) : a = b := by
  have h1 := congrArg BitVec.toNat h
  have ha := rev8_lt a
  have hb := rev8_lt b
  rw [BitVec.toNat_ofNat, BitVec.toNat_ofNat, Nat.mod_eq_of_lt ha, Nat.mod_eq_of_lt hb] at h1
  exact rev8_inj (UInt8.toNat_inj.1 h1)
theorem word_inj {a b c d a' b' c' d' : UInt8} (h : word a b c d = word a' b' c' d') : a = a' ∧ b = b' ∧ c = c' ∧ d = d' := by
  obtain ⟨h1, h2, h3, h4⟩ := word_byte a b c d
  obtain ⟨g1, g2, g3, g4⟩ := word_byte a' b' c' d'
  rw [h] at h1 h2 h3 h4
  exact ⟨byte_inj (h1.symm.trans g1), byte_inj (h2.symm.trans g2), byte_inj (h3.symm.trans g3), byte_inj (h4.symm.trans g4)⟩

/-- Behind one register two rows of one length, of at most four bytes, are told apart. -/
theorem feed_few (x : BitVec 32) (p q : List UInt8) (h : p.length = q.length) (h4 : p.length ≤ 4) : feed x p = feed x q ↔ p = q := by
  constructor
  · intro he
    match p, q, h, h4 with
    | [], [], _, _ => rfl
    | [a], [a'], _, _ =>
      rw [feed1, feed1] at he
      obtain ⟨rfl, _⟩ := word_inj (xor_cancel (Tn_inj _ he))
      rfl
    | [a, b], [a', b'], _, _ =>
      rw [feed2, feed2] at he
      obtain ⟨rfl, rfl, _⟩ := word_inj (xor_cancel (Tn_inj _ he))
      rfl
    | [a, b, c], [a', b', c'], _, _ =>
      rw [feed3, feed3] at he
      obtain ⟨rfl, rfl, rfl, _⟩ := word_inj (xor_cancel (Tn_inj _ he))
      rfl
    | [a, b, c, d], [a', b', c', d'], _, _ =>
      rw [feed4, feed4] at he
      obtain ⟨rfl, rfl, rfl, rfl⟩ := word_inj (xor_cancel (Tn_inj _ he))
      rfl
    | _ :: _ :: _ :: _ :: _ :: _, _, _, h4 => simp at h4
  · rintro rfl; rfl
theorem sum_few (a p q : List UInt8) (h : p.length = q.length) (h4 : p.length ≤ 4) : sum (a ++ p) = sum (a ++ q) ↔ p = q := by
  rw [sum_eq, feed_append, feed_append]
  exact feed_few _ p q h h4
end Crc
end Go.Proofs.YtdckdjkkaangmaaDoor

/- Plain laws of the sum: how long the register goes on till it comes round. -/
namespace Go.Proofs.YtdckdjkkaangmaaDoor
set_option linter.unusedVariables false
set_option linter.unusedSimpArgs false
set_option maxRecDepth 100000
namespace Crc

theorem Tn_comm (a b : Nat) (x : BitVec 32) : Tn a (Tn b x) = Tn b (Tn a x) := by rw [← Tn_add, ← Tn_add, Nat.add_comm]

/-- The sum of n words. -/
def xs : Nat → (Nat → BitVec 32) → BitVec 32
  | 0, _ => 0#32
  | n + 1, g => xs n g ^^^ g n
theorem xs_congr {n : Nat} {g h : Nat → BitVec 32} (e : ∀ i, i < n → g i = h i) : xs n g = xs n h := by
  induction n with
  | zero => rfl
  | succ n ih => rw [xs, xs, ih fun i hi => e i (by omega), e n (by omega)]
theorem Tn_xs (k : Nat) : ∀ (n : Nat) (g : Nat → BitVec 32), Tn k (xs n g) = xs n fun i => Tn k (g i)
  | 0, _ => Tn_zero k
  | n + 1, g => by rw [xs, Tn_xor, Tn_xs k n g]; rfl
theorem xs_bit (v : BitVec 32) : ∀ (n : Nat), n ≤ 32 → ∀ j, j < 32 → (xs n fun i => if v.getLsbD i then 1#32 <<< i else 0#32).getLsbD j = (decide (j < n) && v.getLsbD j)
  | 0, _, j, _ => by simp [xs]
  | n + 1, hn, j, hj => by
    rw [xs, BitVec.getLsbD_xor, xs_bit v n (by omega) j hj]
    by_cases e : j = n
    · subst e
      cases v.getLsbD j <;> simp [hj]
    · have hd : decide (j < n + 1) = decide (j < n) := by rw [decide_eq_decide]; omega
      rw [hd]
      have : (if v.getLsbD n = true then 1#32 <<< n else 0#32).getLsbD j = false := by
        split
        · simp [BitVec.getLsbD_shiftLeft, BitVec.getLsbD_one]; omega
        · simp
      rw [this, Bool.xor_false]
theorem one_shift : ∀ i : Fin 32, Tn i.1 1#32 = 1#32 <<< i.1 := by decide +kernel
theorem split_word (v : BitVec 32) : v = xs 32 fun i => if v.getLsbD i then Tn i 1#32 else 0#32 := by
  have h : (xs 32 fun i => if v.getLsbD i then Tn i 1#32 else 0#32) = xs 32 fun i => if v.getLsbD i then 1#32 <<< i else 0#32 := xs_congr fun i hi => by rw [one_shift ⟨i, hi⟩]
  rw [h]
  apply BitVec.eq_of_getLsbD_eq
  intro j hj
  rw [xs_bit v 32 (by omega) j hj]
  simp [hj]

/-- v times w. -/
def mulT (v w : BitVec 32) : BitVec 32 := xs 32 fun i => if v.getLsbD i then Tn i w else 0#32
theorem Tn_mul (n : Nat) (v : BitVec 32) : Tn n v = mulT v (Tn n 1#32) := by
  conv => lhs; rw [split_word v]
  rw [Tn_xs]
  refine xs_congr fun i _ => ?_
  split
  · rw [Tn_comm]
  · exact Tn_zero n
/-- The powers of two. -/
def pw : Nat → BitVec 32
  | 0 => T 1#32
  | j + 1 => mulT (pw j) (pw j)
theorem pw_eq : ∀ j, Tn (2 ^ j) 1#32 = pw j
  | 0 => rfl
  | j + 1 => by
    rw [Nat.pow_succ, Nat.mul_two, Tn_add, pw_eq j, Tn_mul, pw_eq j]
    rfl
theorem pw_31 : pw 31 = T 1#32 := by decide +kernel

def M : Nat := 2147483647
theorem Tn_M : Tn M 1#32 = 1#32 := by
  have h : Tn (M + 1) 1#32 = T 1#32 := by rw [show M + 1 = 2 ^ 31 from rfl, pw_eq, pw_31]
  rw [Tn_succ] at h
  exact T_inj h

theorem Tn_mult {k : Nat} (h : Tn k 1#32 = 1#32) : ∀ q, Tn (k * q) 1#32 = 1#32
  | 0 => rfl
  | q + 1 => by rw [Nat.mul_succ, Tn_add, h, Tn_mult h q]
theorem Tn_gcd (k n : Nat) : Tn k 1#32 = 1#32 → Tn n 1#32 = 1#32 → Tn (Nat.gcd k n) 1#32 = 1#32 := by
  induction k, n using Nat.gcd.induction with
  | H0 n => intro _ h; rw [Nat.gcd_zero_left]; exact h
  | H1 k n _ ih =>
    intro h1 h2
    rw [Nat.gcd_rec]
    refine ih ?_ h1
    have e : n = n % k + k * (n / k) := (Nat.mod_add_div n k).symm
    rw [e, Tn_add, Tn_mult h1] at h2
    exact h2

/-- No number from lo on, 2^d of them, divides M. -/
def noDiv : Nat → Nat → Bool
  | 0, lo => M % lo != 0
  | d + 1, lo => noDiv d lo && noDiv d (lo + 2 ^ d)
theorem noDiv_spec : ∀ (d lo : Nat), noDiv d lo = true → ∀ x, lo ≤ x → x < lo + 2 ^ d → M % x ≠ 0
  | 0, lo, h, x, h1, h2 => by
    have : x = lo := by simp at h2; omega
    subst this
    simpa [noDiv] using h
  | d + 1, lo, h, x, h1, h2 => by
    simp only [noDiv, Bool.and_eq_true] at h
    by_cases hx : x < lo + 2 ^ d
    · exact noDiv_spec d lo h.1 x h1 hx
    · exact noDiv_spec d (lo + 2 ^ d) h.2 x (by omega) (by rw [Nat.pow_succ] at h2; omega)
theorem noDiv_M : noDiv 16 2 = true := by decide +kernel
theorem gcd_M (k : Nat) (h0 : 0 < k) (h1 : k < 1000000) : Nat.gcd k M = 1 := by
  obtain ⟨q, hq⟩ := Nat.gcd_dvd_right k M
  have hg : Nat.gcd k M ≤ k := Nat.gcd_le_left _ h0
  generalize Nat.gcd k M = g at hq hg
  have hM : M = 2147483647 := rfl
  have hg0 : g ≠ 0 := by
    rintro rfl
    rw [Nat.zero_mul] at hq
    omega
  by_cases hg1 : g = 1
  · exact hg1
  · exfalso
    by_cases hgs : g < 65538
    · exact noDiv_spec 16 2 noDiv_M g (by omega) (by omega) (by rw [hq]; exact Nat.mul_mod_right g q)
    · have hq1 : q < 65538 := by
        rcases Nat.lt_or_ge q 65538 with h | h
        · exact h
        · have : 65538 * 65538 ≤ g * q := Nat.mul_le_mul (by omega) h
          omega
      have hq2 : 2 ≤ q := by
        rcases Nat.lt_or_ge q 2 with h | h
        · have : g * q ≤ g * 1 := Nat.mul_le_mul_left g (by omega)
          omega
        · exact h
      exact noDiv_spec 16 2 noDiv_M q hq2 (by omega) (by rw [hq]; exact Nat.mul_mod_left g q)
/-- The register does not come round for long. -/
theorem Tn_round (k : Nat) (h0 : 0 < k) (h1 : k < 1000000) (x : BitVec 32) (i : Nat) (hx : x = Tn i 1#32) : Tn k x ≠ x := by
  intro h
  rw [hx, Tn_comm] at h
  have h2 : Tn k 1#32 = 1#32 := Tn_inj i h
  have h3 := Tn_gcd k M h2 Tn_M
  rw [gcd_M k h0 h1] at h3
  exact absurd h3 (by decide)
end Crc
end Go.Proofs.YtdckdjkkaangmaaDoor

/- Plain laws of the sum: two texts of one length, sealed, are unlike in four bits at least, and not within 32 bits side by side. -/
namespace Go.Proofs.YtdckdjkkaangmaaDoor
set_option linter.unusedVariables false
set_option linter.unusedSimpArgs false
set_option maxRecDepth 100000
namespace Crc

def u31 : BitVec 32 := 0x80000000#32
theorem u31_eq : u31 = Tn 31 1#32 := by decide +kernel
def onBit (b : Bool) : BitVec 32 := if b then u31 else 0#32
theorem stepR_T (s : BitVec 32) (b : Bool) : stepR s b = T (s ^^^ onBit b) := by
  unfold stepR onBit
  cases b
  · simp [T]
  · have h : T (s ^^^ u31) = T s ^^^ T u31 := T_xor _ _
    have h2 : T u31 = 0x1EDC6F41#32 := by decide
    simp only [if_true, h, h2]
    unfold T
    cases s.msb <;> simp [BitVec.xor_assoc]

def comb (s : BitVec 32) (ds : List Bool) : BitVec 32 := ds.foldl stepR s
theorem onBit_xor (a b : Bool) : onBit (a ^^ b) = onBit a ^^^ onBit b := by cases a <;> cases b <;> simp [onBit]
theorem comb_xor : ∀ (ds es : List Bool) (s t : BitVec 32), ds.length = es.length → comb (s ^^^ t) (List.zipWith (· ^^ ·) ds es) = comb s ds ^^^ comb t es
  | [], [], _, _, _ => rfl
  | d :: ds, e :: es, s, t, h => by
    show comb (stepR (s ^^^ t) (d ^^ e)) (List.zipWith (· ^^ ·) ds es) = comb (stepR s d) ds ^^^ comb (stepR t e) es
    rw [← comb_xor ds es _ _ (by simpa using h)]
    congr 1
    rw [stepR_T, stepR_T, stepR_T, ← T_xor, onBit_xor]
    congr 1
    rw [BitVec.xor_assoc, BitVec.xor_assoc, ← BitVec.xor_assoc t, BitVec.xor_comm t, BitVec.xor_assoc]
  | [], _ :: _, _, _, h => by cases h
  | _ :: _, [], _, _, h => by cases h
theorem comb_append (s : BitVec 32) (a b : List Bool) : comb s (a ++ b) = comb (comb s a) b := List.foldl_append
theorem comb_off : ∀ (n : Nat) (s : BitVec 32), comb s (List.replicate n false) = Tn n s
  | 0, _ => rfl
  | n + 1, s => by
    show comb (stepR s false) (List.replicate n false) = Tn n (T s)
    rw [stepR_T, comb_off n]
    simp [onBit]

/-- Where the first one stands. -/
theorem first_on : ∀ (ds : List Bool), (∃ n, ds = List.replicate n false) ∨ ∃ i es, ds = List.replicate i false ++ true :: es
  | [] => .inl ⟨0, rfl⟩
  | true :: ds => .inr ⟨0, ds, rfl⟩
  | false :: ds => by
    rcases first_on ds with ⟨n, h⟩ | ⟨i, es, h⟩
    · exact .inl ⟨n + 1, by rw [h]; rfl⟩
    · exact .inr ⟨i + 1, es, by rw [h]; rfl⟩

/-- One or two ones never come to nothing. -/
theorem comb_one (i n : Nat) : comb 0#32 (List.replicate i false ++ true :: List.replicate n false) ≠ 0#32 := by
  intro h
  rw [comb_append, comb_off, Tn_zero] at h
  have h1 : Tn n (T (0#32 ^^^ onBit true)) = Tn n (T 0#32) := by
    rw [← stepR_T, ← comb_off, T_zero, Tn_zero]
    exact h
  have h2 := T_inj (Tn_inj n h1)
  exact absurd h2 (by decide)
theorem comb_two (i j n : Nat) (hj : j < 999999) : comb 0#32 (List.replicate i false ++ true :: (List.replicate j false ++ true :: List.replicate n false)) ≠ 0#32 := by
  intro h
  rw [comb_append, comb_off, Tn_zero] at h
  have h0 : comb (stepR 0#32 true) (List.replicate j false ++ true :: List.replicate n false) = 0#32 := h
  rw [comb_append, comb_off] at h0
  have h1 : comb (stepR (Tn j (stepR 0#32 true)) true) (List.replicate n false) = 0#32 := h0
  rw [comb_off, stepR_T, stepR_T] at h1
  have h2 : Tn n (T (Tn j (T (0#32 ^^^ onBit true)) ^^^ onBit true)) = Tn n (T 0#32) := by rw [h1, T_zero, Tn_zero]
  have h3 := xor_zero_iff.1 (T_inj (Tn_inj n h2))
  have h4 : Tn (j + 1) u31 = u31 := by
    rw [Tn_succ, ← show Tn j (T u31) = T (Tn j u31) from Tn_succ j u31]
    simpa [onBit] using h3
  exact Tn_round (j + 1) (by omega) (by omega) u31 31 u31_eq h4

/-- How many ones a word has, odd or even. -/
def par (x : BitVec 32) : Bool := (List.range 32).foldl (fun b i => b ^^ x.getLsbD i) false
theorem par_xor (x y : BitVec 32) : par (x ^^^ y) = (par x ^^ par y) := by
  unfold par
  have h : ∀ (l : List Nat) (a b : Bool), l.foldl (fun b i => b ^^ (x ^^^ y).getLsbD i) (a ^^ b) = (l.foldl (fun b i => b ^^ x.getLsbD i) a ^^ l.foldl (fun b i => b ^^ y.getLsbD i) b) := by
    intro l
    induction l with
    | nil => intro a b; rfl
    | cons i l ih =>
      intro a b
      simp only [List.foldl_cons]
      rw [← ih, BitVec.getLsbD_xor]
      congr 1
      cases a <;> cases b <;> cases x.getLsbD i <;> cases y.getLsbD i <;> rfl
  exact h _ false false
theorem par_T1 : ∀ i : Fin 32, par (T (Tn i.1 1#32)) = par (Tn i.1 1#32) := by decide +kernel
theorem par_T (x : BitVec 32) : par (T x) = par x := by
  have key : ∀ (n : Nat), n ≤ 32 → par (xs n fun i => T (if x.getLsbD i then Tn i 1#32 else 0#32)) = par (xs n fun i => if x.getLsbD i then Tn i 1#32 else 0#32) := by
    intro n
    induction n with
    | zero => intro _; rfl
    | succ n ih =>
      intro hn
      rw [xs, xs, par_xor, par_xor, ih (by omega)]
      congr 1
      split
      · exact par_T1 ⟨n, by omega⟩
      · rw [T_zero]
  have h := key 32 (by omega)
  rw [← split_word x] at h
  rw [← h, ← show T (xs 32 fun i => if x.getLsbD i then Tn i 1#32 else 0#32) = xs 32 fun i => T (if x.getLsbD i then Tn i 1#32 else 0#32) from Tn_xs 1 32 _, ← split_word x]
theorem par_comb : ∀ (ds : List Bool) (s : BitVec 32), par (comb s ds) = (par s ^^ decide (ds.count true % 2 = 1))
  | [], s => by simp [comb]
  | d :: ds, s => by
    show par (comb (stepR s d) ds) = _
    rw [par_comb ds, stepR_T, par_T, par_xor]
    cases d
    · have : par (onBit false) = false := by decide +kernel
      simp [this]
    · have : par (onBit true) = true := by decide +kernel
      rw [this, List.count_cons_self]
      rcases Nat.mod_two_eq_zero_or_one (ds.count true) with h | h
      · have h2 : (ds.count true + 1) % 2 = 1 := by omega
        simp [h, h2]
      · have h2 : (ds.count true + 1) % 2 = 0 := by omega
        simp [h, h2]

/-- A row of bits that comes to nothing has no ones, or four at least. -/
theorem count_four (ds : List Bool) (hl : ds.length < 999999) (h : comb 0#32 ds = 0#32) : ds.count true = 0 ∨ 4 ≤ ds.count true := by
  have hp := par_comb ds 0#32
  rw [h] at hp
  have hp0 : par 0#32 = false := by decide +kernel
  rw [hp0] at hp
  have he : ds.count true % 2 = 0 := by
    rcases Nat.mod_two_eq_zero_or_one (ds.count true) with h | h
    · exact h
    · rw [h] at hp; simp at hp
  rcases first_on ds with ⟨n, rfl⟩ | ⟨i, es, rfl⟩
  · left; simp [List.count_replicate]
  · rcases first_on es with ⟨n, rfl⟩ | ⟨j, fs, rfl⟩
    · exact absurd h (comb_one i n)
    · rcases first_on fs with ⟨n, rfl⟩ | ⟨m, gs, rfl⟩
      · refine absurd h (comb_two i j n ?_)
        simp at hl
        omega
      · right
        have hc : (List.replicate i false ++ true :: (List.replicate j false ++ true :: (List.replicate m false ++ true :: gs))).count true = gs.count true + 3 := by
          simp [List.count_append, List.count_replicate]
        rw [hc] at he ⊢
        omega

/-- Bits at a word's top. -/
def place : List Bool → BitVec 32
  | [] => 0#32
  | b :: es => onBit b ^^^ (place es >>> 1)
theorem place_low : ∀ (es : List Bool) (j : Nat), j + es.length < 32 → (place es).getLsbD j = false
  | [], j, _ => by simp [place]
  | b :: es, j, h => by
    simp only [List.length_cons] at h
    unfold place
    rw [BitVec.getLsbD_xor, BitVec.getLsbD_ushiftRight, place_low es (1 + j) (by omega)]
    have : (onBit b).getLsbD j = false := by
      cases b
      · simp [onBit]
      · unfold onBit u31
        simp only [if_true]
        have hj : j < 31 := by omega
        have hh : ∀ i : Fin 31, (0x80000000#32).getLsbD i.1 = false := by decide
        exact hh ⟨j, hj⟩
    rw [this]
    rfl
theorem T_half (x : BitVec 32) (h : x.getLsbD 0 = false) : T (x >>> 1) = x := by
  unfold T
  have hm : (x >>> 1).msb = false := by rw [BitVec.msb_eq_getLsbD_last]; simp
  rw [hm]
  apply BitVec.eq_of_getLsbD_eq
  intro i hi
  simp only [Bool.false_eq_true, if_false, BitVec.xor_zero, BitVec.getLsbD_shiftLeft, BitVec.getLsbD_ushiftRight]
  by_cases e : i = 0
  · subst e; rw [h]; rfl
  · have d1 : decide (i < 32) = true := by simpa using hi
    have d2 : decide (i < 1) = false := by rw [decide_eq_false_iff_not]; omega
    rw [show 1 + (i - 1) = i by omega, d1, d2]
    rfl
theorem comb_place : ∀ (es : List Bool) (s : BitVec 32), es.length ≤ 32 → comb s es = Tn es.length (s ^^^ place es)
  | [], s, _ => by simp [comb, place, Tn]
  | b :: es, s, h => by
    simp only [List.length_cons] at h
    show comb (stepR s b) es = Tn es.length (T (s ^^^ place (b :: es)))
    rw [comb_place es _ (by omega), stepR_T]
    congr 1
    have h1 : T (place es >>> 1) = place es := T_half _ (place_low es 0 (by omega))
    show _ = T (s ^^^ (onBit b ^^^ (place es >>> 1)))
    rw [← BitVec.xor_assoc, T_xor (s ^^^ onBit b), h1]
theorem place_zero : ∀ (es : List Bool), es.length ≤ 32 → place es = 0#32 → ∀ b ∈ es, b = false
  | [], _, _, _, hb => by cases hb
  | b :: es, h, hp, c, hc => by
    simp only [List.length_cons] at h
    have hb : b = false := by
      have := congrArg (fun t => t.getLsbD 31) hp
      unfold place at this
      simp only [BitVec.getLsbD_xor, BitVec.getLsbD_ushiftRight] at this
      have h2 : (place es).getLsbD (1 + 31) = false := by simp
      rw [h2] at this
      cases b
      · rfl
      · revert this; decide
    subst hb
    have hp2 : place es >>> 1 = 0#32 := by
      unfold place at hp
      simpa [onBit] using hp
    have hp3 : place es = 0#32 := by
      rw [← T_half (place es) (place_low es 0 (by omega)), hp2, T_zero]
    rcases List.mem_cons.1 hc with rfl | hc
    · rfl
    · exact place_zero es (by omega) hp3 c hc
/-- What comes to nothing does not stand within 32 bits. -/
theorem span_wide (i : Nat) (es : List Bool) (h : comb 0#32 (List.replicate i false ++ true :: es) = 0#32) : ∃ q, 31 ≤ q ∧ es[q]? = some true := by
  rw [comb_append, comb_off, Tn_zero] at h
  rcases Nat.lt_or_ge es.length 32 with hl | hl
  · have h1 := comb_place (true :: es) 0#32 (by simp only [List.length_cons]; omega)
    rw [h] at h1
    have h2 : Tn (true :: es).length (0#32 ^^^ place (true :: es)) = Tn (true :: es).length 0#32 := by rw [← h1, Tn_zero]
    have h3 := Tn_inj _ h2
    rw [BitVec.zero_xor] at h3
    exact absurd (place_zero (true :: es) (by simp only [List.length_cons]; omega) h3 true (by simp)) (by simp)
  · rcases first_on (es.drop 31) with ⟨n, hn⟩ | ⟨j, fs, hj⟩
    · exfalso
      have e : true :: es = (true :: es.take 31) ++ List.replicate n false := by rw [← hn, List.cons_append, List.take_append_drop]
      rw [e, comb_append, comb_off] at h
      have h1 : comb 0#32 (true :: es.take 31) = 0#32 := Tn_inj n (by rw [h, Tn_zero])
      have hlen : (true :: es.take 31).length ≤ 32 := by simp; omega
      rw [comb_place _ _ hlen] at h1
      have h3 := Tn_inj _ (h1.trans (Tn_zero _).symm)
      rw [BitVec.zero_xor] at h3
      exact absurd (place_zero _ hlen h3 true (by simp)) (by simp)
    · refine ⟨31 + j, by omega, ?_⟩
      rw [← List.getElem?_drop, hj, List.getElem?_append_right (by simp)]
      simp
end Crc
end Go.Proofs.YtdckdjkkaangmaaDoor

/- Plain laws of what is sealed. -/
namespace Go.Proofs.YtdckdjkkaangmaaDoor
set_option linter.unusedVariables false
set_option linter.unusedSimpArgs false
set_option maxRecDepth 100000
namespace Crc

theorem rev8_bit : ∀ c : Fin 256, ∀ j : Fin 8, (rev8 (UInt8.ofNat c.1)).toNat.testBit j.1 = c.1.testBit (7 - j.1) := by decide +kernel
theorem rev8_b (c : UInt8) (j : Nat) (hj : j < 8) : (rev8 c).toNat.testBit j = c.toNat.testBit (7 - j) := by
  have := rev8_bit ⟨c.toNat, c.toNat_lt⟩ ⟨j, hj⟩
  simpa only [UInt8.ofNat_toNat] using this
theorem byteAt_bit (y : BitVec 32) (k m : Nat) (hm : m < 8) : (byteAt y k).toNat.testBit m = y.getLsbD (8 * k + m) := by
  unfold byteAt
  rw [UInt8.toNat_ofNat', show 2 ^ 8 = 256 from rfl, show (256 : Nat) = 2 ^ 8 from rfl, Nat.testBit_mod_two_pow, Nat.testBit_div_two_pow]
  simp [hm, BitVec.getLsbD, Nat.add_comm]
theorem word_le4 (y : BitVec 32) : word (byteAt y 0) (byteAt y 1) (byteAt y 2) (byteAt y 3) = rev32 y := by
  have hl : ∀ (u : UInt8) i, 8 ≤ i → (rev8 u).toNat.testBit i = false := fun u i hi => Nat.testBit_lt_two_pow (Nat.lt_of_lt_of_le (rev8_lt u) (Nat.pow_le_pow_right (by decide) hi : 2 ^ 8 ≤ 2 ^ i))
  have hb : ∀ k j, j < 8 → (rev8 (byteAt y k)).toNat.testBit j = y.getLsbD (8 * k + (7 - j)) := fun k j hj => by rw [rev8_b _ j hj, byteAt_bit y k _ (by omega)]
  apply BitVec.eq_of_getLsbD_eq
  intro i hi
  rw [rev32_bit y i hi]
  unfold word top
  simp only [BitVec.getLsbD_ushiftRight, BitVec.getLsbD_xor, BitVec.getLsbD_shiftLeft, BitVec.getLsbD_ofNat]
  revert i
  refine bit_cases ?_
  simp [hl, hb]
theorem feed_le4 (x y : BitVec 32) : feed x (le4 y) = Tn 32 (x ^^^ rev32 y) := by
  show feed x [_, _, _, _] = _
  rw [feed4, word_le4]
theorem rev32_not (x : BitVec 32) : rev32 (~~~ x) = ~~~ rev32 x := by
  apply BitVec.eq_of_getLsbD_eq
  intro i hi
  rw [rev32_bit _ i hi, BitVec.getLsbD_not, BitVec.getLsbD_not, rev32_bit _ i hi]
  simp [hi]
  omega
theorem rev32_rev32 (x : BitVec 32) : rev32 (rev32 x) = x := by
  apply BitVec.eq_of_getLsbD_eq
  intro i hi
  rw [rev32_bit _ i hi, rev32_bit _ _ (by omega), show 31 - (31 - i) = i by omega]
def K : BitVec 32 := Tn 32 (BitVec.allOnes 32)
theorem feed_fin (x : BitVec 32) : feed x (le4 (fin x)) = K := by
  rw [feed_le4]
  unfold fin K
  rw [rev32_not, rev32_rev32]
  have h : x ^^^ ~~~ x = BitVec.allOnes 32 := by
    apply BitVec.eq_of_getLsbD_eq
    intro i hi
    rw [BitVec.getLsbD_xor, BitVec.getLsbD_not, BitVec.getLsbD_allOnes]
    simp [hi]
  rw [h]
theorem feed_sealed (l : List UInt8) : feed 0xFFFFFFFF#32 (sealed l) = K := by
  unfold sealed
  rw [feed_append]
  exact feed_fin _
/-- Whatever is sealed, the sum of all that is one and the same number. -/
theorem sum_sealed (l : List UInt8) : sum (sealed l) = sum (sealed []) := by rw [sum_eq, feed_sealed, feed_sealed]
theorem le4_inj {x y : BitVec 32} : le4 x = le4 y ↔ x = y := by
  constructor
  · intro h
    have h1 := feed_le4 0#32 x
    have h2 := feed_le4 0#32 y
    rw [h] at h1
    exact rev32_inj (xor_cancel (Tn_inj 32 (h1.symm.trans h2)))
  · rintro rfl; rfl
theorem sum_other (l : List UInt8) (o : BitVec 32) : sum (l ++ le4 o) = sum (sealed []) ↔ le4 (sum l) = le4 o := by
  rw [sum_eq, feed_append, feed_sealed, ← feed_fin (feed 0xFFFFFFFF#32 l)]
  unfold sum
  generalize feed 0xFFFFFFFF#32 l = x
  generalize fin x = y
  constructor
  · intro h
    exact ((feed_few x (le4 o) (le4 y) rfl (by simp [le4])).1 h).symm
  · intro h
    rw [h]
theorem opened_sealed (l : List UInt8) : opened (sealed l) = some l := by
  unfold sealed
  rw [opened_long l _ rfl, if_pos rfl]

/-- A byte's bits, the lowest first. -/
def bits8 (c : UInt8) : List Bool := [c.toNat.testBit 0, c.toNat.testBit 1, c.toNat.testBit 2, c.toNat.testBit 3, c.toNat.testBit 4, c.toNat.testBit 5, c.toNat.testBit 6, c.toNat.testBit 7]
def bitsOf (l : List UInt8) : List Bool := l.flatMap bits8
theorem bitsOf_cons (c : UInt8) (l : List UInt8) : bitsOf (c :: l) = bits8 c ++ bitsOf l := rfl
theorem bitsOf_append (a b : List UInt8) : bitsOf (a ++ b) = bitsOf a ++ bitsOf b := List.flatMap_append
theorem bitsOf_len : ∀ (l : List UInt8), (bitsOf l).length = 8 * l.length
  | [] => rfl
  | c :: l => by rw [bitsOf_cons, List.length_append, bitsOf_len l]; simp [bits8]; omega
theorem comb_bits : ∀ (l : List UInt8) (s : BitVec 32), comb s (bitsOf l) = feed s l
  | [], _ => rfl
  | c :: l, s => by
    rw [bitsOf_cons, comb_append, comb_bits l]
    show feed (handR s c 8) l = feed (hand s c) l
    rw [handR_8]
/-- Where two texts are unlike, bit by bit. -/
def diffs (x y : List UInt8) : List Bool := List.zipWith (· ^^ ·) (bitsOf x) (bitsOf y)
theorem diffs_len (x y : List UInt8) (h : x.length = y.length) : (diffs x y).length = 8 * x.length := by
  unfold diffs
  rw [List.length_zipWith, bitsOf_len, bitsOf_len, h, Nat.min_self]
theorem diffs_sealed (b c : List UInt8) (h : b.length = c.length) : comb 0#32 (diffs (sealed b) (sealed c)) = 0#32 := by
  have hl : (bitsOf (sealed b)).length = (bitsOf (sealed c)).length := by
    rw [bitsOf_len, bitsOf_len]
    simp [sealed, le4, h]
  have := comb_xor (bitsOf (sealed b)) (bitsOf (sealed c)) 0xFFFFFFFF#32 0xFFFFFFFF#32 hl
  rw [BitVec.xor_self, comb_bits, comb_bits, feed_sealed, feed_sealed, BitVec.xor_self] at this
  exact this
theorem zip_same : ∀ (a : List Bool), List.zipWith (· ^^ ·) a a = List.replicate a.length false
  | [] => rfl
  | x :: a => by simp only [List.zipWith_cons_cons, Bool.xor_self, zip_same a]; rfl
theorem zip_off : ∀ (a b : List Bool) (n : Nat), a.length = b.length → List.zipWith (· ^^ ·) a b = List.replicate n false → a = b
  | [], [], _, _, _ => rfl
  | x :: a, y :: b, n, hl, h => by
    match n, h with
    | 0, h => simp at h
    | n + 1, h =>
      simp only [List.zipWith_cons_cons, List.replicate_succ, List.cons.injEq] at h
      rw [zip_off a b n (by simpa using hl) h.2]
      have := h.1
      cases x <;> cases y <;> simp_all
  | [], _ :: _, _, h, _ => by cases h
  | _ :: _, [], _, h, _ => by cases h
theorem bits8_inj {a b : UInt8} (h : bits8 a = bits8 b) : a = b := by
  unfold bits8 at h
  simp only [List.cons.injEq, and_true] at h
  obtain ⟨h0, h1, h2, h3, h4, h5, h6, h7⟩ := h
  apply UInt8.toNat_inj.1
  apply Nat.eq_of_testBit_eq
  intro i
  rcases Nat.lt_or_ge i 8 with hi | hi
  · have : i = 0 ∨ i = 1 ∨ i = 2 ∨ i = 3 ∨ i = 4 ∨ i = 5 ∨ i = 6 ∨ i = 7 := by omega
    rcases this with rfl | rfl | rfl | rfl | rfl | rfl | rfl | rfl <;> assumption
  · have ha : ∀ (u : UInt8), u.toNat.testBit i = false := fun u => Nat.testBit_lt_two_pow (Nat.lt_of_lt_of_le u.toNat_lt (Nat.pow_le_pow_right (by decide) hi : 2 ^ 8 ≤ 2 ^ i))
    rw [ha, ha]
theorem bitsOf_inj : ∀ (x y : List UInt8), x.length = y.length → bitsOf x = bitsOf y → x = y
  | [], [], _, _ => rfl
  | a :: x, b :: y, hl, h => by
    rw [bitsOf_cons, bitsOf_cons] at h
    have := List.append_inj h rfl
    rw [bits8_inj this.1, bitsOf_inj x y (by simpa using hl) this.2]
  | [], _ :: _, h, _ => by cases h
  | _ :: _, [], h, _ => by cases h
theorem diffs_on (x y : List UInt8) (hl : x.length = y.length) (hne : x ≠ y) : ∃ i es, diffs x y = List.replicate i false ++ true :: es := by
  rcases first_on (diffs x y) with ⟨n, h⟩ | h
  · exact absurd (bitsOf_inj x y hl (zip_off _ _ n (by rw [bitsOf_len, bitsOf_len, hl]) h)) hne
  · exact h

/-- What is told of a row of bits: the first one's place, the last one's, how many. -/
structure Told where
  first : Int
  last : Int
  many : Int
def tell (t : Told) (n : Nat) (b : Bool) : Told := if b then { first := if t.first < 0 then n else t.first, last := n, many := t.many + 1 } else t
def told0 : Told := { first := -1, last := -1, many := 0 }
def toldOf (t : Told) : Nat → List Bool → Told
  | _, [] => t
  | n, b :: ds => toldOf (tell t n b) (n + 1) ds
theorem toldOf_append (t : Told) : ∀ (a b : List Bool) (n : Nat), toldOf t n (a ++ b) = toldOf (toldOf t n a) (n + a.length) b := by
  intro a
  induction a generalizing t with
  | nil => intro b n; rfl
  | cons x a ih =>
    intro b n
    show toldOf (tell t n x) (n + 1) (a ++ b) = toldOf (toldOf (tell t n x) (n + 1) a) (n + (a.length + 1)) b
    rw [ih, Nat.add_assoc, Nat.add_comm 1]
theorem toldOf_off (t : Told) : ∀ (k n : Nat), toldOf t n (List.replicate k false) = t
  | 0, _ => rfl
  | k + 1, n => by show toldOf (tell t n false) (n + 1) (List.replicate k false) = t; exact toldOf_off t k (n + 1)
theorem toldOf_many (t : Told) : ∀ (ds : List Bool) (n : Nat), (toldOf t n ds).many = t.many + ds.count true := by
  intro ds
  induction ds generalizing t with
  | nil => intro n; simp [toldOf]
  | cons b ds ih =>
    intro n
    show (toldOf (tell t n b) (n + 1) ds).many = _
    rw [ih]
    cases b
    · simp [tell]
    · simp only [tell, if_true, List.count_cons_self]; omega
theorem toldOf_first (t : Told) (h : 0 ≤ t.first) : ∀ (ds : List Bool) (n : Nat), (toldOf t n ds).first = t.first := by
  intro ds
  induction ds generalizing t with
  | nil => intro n; rfl
  | cons b ds ih =>
    intro n
    show (toldOf (tell t n b) (n + 1) ds).first = _
    have hf : (tell t n b).first = t.first := by
      cases b
      · rfl
      · simp only [tell, if_true]; rw [if_neg (by omega)]
    rw [ih _ (by rw [hf]; exact h), hf]
theorem toldOf_last (t : Told) : ∀ (ds : List Bool) (n : Nat), t.last ≤ n → t.last ≤ (toldOf t n ds).last := by
  intro ds
  induction ds generalizing t with
  | nil => intro n _; exact Int.le_refl _
  | cons b ds ih =>
    intro n h
    show _ ≤ (toldOf (tell t n b) (n + 1) ds).last
    cases b
    · exact ih t (n + 1) (by omega)
    · have := ih (tell t n true) (n + 1) (by simp [tell]; omega)
      simp only [tell, if_true] at this ⊢
      omega
theorem toldOf_on (t : Told) (q : Nat) : ∀ (ds : List Bool) (n : Nat), t.last ≤ n → ds[q]? = some true → ((n + q : Nat) : Int) ≤ (toldOf t n ds).last := by
  induction q generalizing t with
  | zero =>
    intro ds n h hq
    match ds, hq with
    | b :: ds, hq =>
      simp at hq
      subst hq
      have := toldOf_last (tell t n true) ds (n + 1) (by simp [tell]; omega)
      show _ ≤ (toldOf (tell t n true) (n + 1) ds).last
      simp only [tell, if_true] at this ⊢
      simpa using this
  | succ q ih =>
    intro ds n h hq
    match ds, hq with
    | b :: ds, hq =>
      have := ih (tell t n b) ds (n + 1) (by cases b <;> simp [tell] <;> omega) (by simpa using hq)
      have e : n + (q + 1) = n + 1 + q := by omega
      rw [e]
      exact this
/-- THE DISTANCE: four bits at least, and not within 32. -/
theorem far (b c : List UInt8) (hl : b.length = c.length) (hne : b ≠ c) (hs : b.length ≤ 100000) :
    4 ≤ (toldOf told0 0 (diffs (sealed b) (sealed c))).many ∧ 32 ≤ (toldOf told0 0 (diffs (sealed b) (sealed c))).last - (toldOf told0 0 (diffs (sealed b) (sealed c))).first := by
  have hl2 : (sealed b).length = (sealed c).length := by simp [sealed, le4, hl]
  have hne2 : sealed b ≠ sealed c := fun h => hne (List.append_inj h hl).1
  obtain ⟨i, es, he⟩ := diffs_on _ _ hl2 hne2
  have h0 := diffs_sealed b c hl
  have hlen := diffs_len _ _ hl2
  have hlb : (sealed b).length = b.length + 4 := by simp [sealed, le4]
  have hcnt := count_four _ (by rw [hlen, hlb]; omega) h0
  rw [he] at h0 hcnt ⊢
  have hc1 : 1 ≤ (List.replicate i false ++ true :: es).count true := by simp [List.count_append]; omega
  obtain ⟨q, hq, hqe⟩ := span_wide i es h0
  refine ⟨?_, ?_⟩
  · rw [toldOf_many]
    simp only [told0]
    omega
  · have h1 : (toldOf told0 0 (List.replicate i false ++ true :: es)).first = i := by
      rw [toldOf_append, toldOf_off]
      show (toldOf (tell told0 (0 + (List.replicate i false).length) true) _ es).first = _
      rw [toldOf_first _ (by simp [tell, told0])]
      simp [tell, told0]
    have h2 := toldOf_on told0 (i + (q + 1)) (List.replicate i false ++ true :: es) 0 (by simp [told0]) (by
      rw [List.getElem?_append_right (by simp)]
      simp [hqe])
    omega
end Crc
end Go.Proofs.YtdckdjkkaangmaaDoor

/- Bits turned: plain. -/
namespace Go.Proofs.YtdckdjkkaangmaaDoor
set_option linter.unusedVariables false
set_option linter.unusedSimpArgs false
set_option maxRecDepth 100000
namespace Crc

/-- The bit number p is turned. -/
def flip (l : List UInt8) (p : Nat) : List UInt8 := l.set (p / 8) (l.getD (p / 8) 0 ^^^ UInt8.ofNat (2 ^ (p % 8)))
def flips (l : List UInt8) (ps : List Nat) : List UInt8 := ps.foldl flip l
theorem flip_len (l : List UInt8) (p : Nat) : (flip l p).length = l.length := by unfold flip; rw [List.length_set]
theorem flips_len : ∀ (ps : List Nat) (l : List UInt8), (flips l ps).length = l.length
  | [], _ => rfl
  | p :: ps, l => by
    show (flips (flip l p) ps).length = _
    rw [flips_len ps, flip_len]
theorem bits8_flip : ∀ c : Fin 256, ∀ p : Fin 8, bits8 (UInt8.ofNat c.1 ^^^ UInt8.ofNat (2 ^ p.1)) = (bits8 (UInt8.ofNat c.1)).set p.1 (!(bits8 (UInt8.ofNat c.1)).getD p.1 false) := by decide +kernel
theorem bits8_turn (c : UInt8) {p : Nat} (hp : p < 8) : bits8 (c ^^^ UInt8.ofNat (2 ^ p)) = (bits8 c).set p (!(bits8 c).getD p false) := by
  have := bits8_flip ⟨c.toNat, c.toNat_lt⟩ ⟨p, hp⟩
  simpa only [UInt8.ofNat_toNat] using this
theorem bitsOf_flip : ∀ (l : List UInt8) (p : Nat), p < 8 * l.length → bitsOf (flip l p) = (bitsOf l).set p (!(bitsOf l).getD p false)
  | [], p, h => by simp at h
  | c :: l, p, h => by
    have hb : (bits8 c).length = 8 := rfl
    by_cases hp : p < 8
    · have h0 : p / 8 = 0 := by omega
      have h1 : p % 8 = p := by omega
      unfold flip
      rw [h0, h1, List.set_cons_zero, List.getD_cons_zero, bitsOf_cons, bits8_turn c hp, bitsOf_cons, List.set_append_left _ _ (by rw [hb]; exact hp)]
      congr 3
      rw [List.getD_eq_getElem?_getD, List.getD_eq_getElem?_getD, List.getElem?_append_left (by rw [hb]; exact hp)]
    · obtain ⟨q, rfl⟩ : ∃ q, p = q + 8 := ⟨p - 8, by omega⟩
      have h0 : (q + 8) / 8 = q / 8 + 1 := by omega
      have h1 : (q + 8) % 8 = q % 8 := by omega
      have ih := bitsOf_flip l q (by rw [List.length_cons] at h; omega)
      unfold flip at ih ⊢
      rw [h0, h1, List.set_cons_succ, List.getD_cons_succ, bitsOf_cons, ih, bitsOf_cons, List.set_append_right _ _ (by rw [hb]; omega)]
      rw [hb, Nat.add_sub_cancel]
      congr 3
      try rw [List.getD_eq_getElem?_getD, List.getD_eq_getElem?_getD, List.getElem?_append_right (by rw [hb]; omega), hb, Nat.add_sub_cancel]
theorem count_set : ∀ (ds : List Bool) (p : Nat) (v : Bool), (ds.set p v).count true ≤ ds.count true + 1
  | [], _, _ => by simp
  | b :: ds, 0, v => by
    rw [List.set_cons_zero, List.count_cons, List.count_cons]
    split <;> split <;> omega
  | b :: ds, p + 1, v => by
    have := count_set ds p v
    rw [List.set_cons_succ, List.count_cons, List.count_cons]
    omega
theorem zip_set : ∀ (a b : List Bool) (p : Nat) (v : Bool), ∃ u, List.zipWith (· ^^ ·) a (b.set p v) = (List.zipWith (· ^^ ·) a b).set p u
  | [], b, p, v => ⟨true, by simp⟩
  | x :: a, [], p, v => ⟨true, by simp⟩
  | x :: a, y :: b, 0, v => ⟨x ^^ v, by simp⟩
  | x :: a, y :: b, p + 1, v => by
    obtain ⟨u, h⟩ := zip_set a b p v
    exact ⟨u, by simp [h]⟩
theorem diffs_flip (x y : List UInt8) (p : Nat) (hp : p < 8 * y.length) : (diffs x (flip y p)).count true ≤ (diffs x y).count true + 1 := by
  unfold diffs
  rw [bitsOf_flip y p hp]
  obtain ⟨u, h⟩ := zip_set (bitsOf x) (bitsOf y) p (!(bitsOf y).getD p false)
  rw [h]
  exact count_set _ _ _
theorem diffs_flips (x : List UInt8) : ∀ (ps : List Nat) (y : List UInt8), (∀ p ∈ ps, p < 8 * y.length) → (diffs x (flips y ps)).count true ≤ (diffs x y).count true + ps.length
  | [], y, _ => Nat.le_refl _
  | p :: ps, y, h => by
    have h1 := diffs_flips x ps (flip y p) (fun q hq => by rw [flip_len]; exact h q (List.mem_cons_of_mem _ hq))
    have h2 := diffs_flip x y p (h p (List.mem_cons_self ..))
    show (diffs x (flips (flip y p) ps)).count true ≤ _
    rw [List.length_cons]
    omega
theorem diffs_self (x : List UInt8) : (diffs x x).count true = 0 := by
  unfold diffs
  rw [zip_same]
  exact List.count_eq_zero.2 (by intro h; have := List.eq_of_mem_replicate h; cases this)
theorem flips_stay (q : Nat) : ∀ (ps : List Nat) (y : List UInt8), (∀ p ∈ ps, p < 8 * y.length ∧ p ≠ q) → (bitsOf (flips y ps))[q]? = (bitsOf y)[q]?
  | [], _, _ => rfl
  | p :: ps, y, h => by
    show (bitsOf (flips (flip y p) ps))[q]? = _
    rw [flips_stay q ps (flip y p) fun r hr => by rw [flip_len]; exact h r (List.mem_cons_of_mem _ hr), bitsOf_flip y p (h p (List.mem_cons_self ..)).1, List.getElem?_set_ne (h p (List.mem_cons_self ..)).2]
theorem flips_other {y : List UInt8} {p : Nat} {ps : List Nat} (h : ∀ q ∈ p :: ps, q < 8 * y.length) (hn : p ∉ ps) : flips y (p :: ps) ≠ y := by
  intro e
  have h1 := flips_stay p ps (flip y p) fun r hr => ⟨by rw [flip_len]; exact h r (List.mem_cons_of_mem _ hr), fun e => hn (e ▸ hr)⟩
  have e2 : flips (flip y p) ps = y := e
  have hlt : p < (bitsOf y).length := by rw [bitsOf_len]; exact h p (List.mem_cons_self ..)
  rw [e2, bitsOf_flip y p (h p (List.mem_cons_self ..)), List.getElem?_set_self hlt, List.getElem?_eq_getElem hlt, List.getD_eq_getElem?_getD, List.getElem?_eq_getElem hlt] at h1
  simp at h1
/-- Bytes that were sealed, of which one to three bits are turned, are none that were sealed. -/
theorem spoilt {b : List UInt8} {ps : List Nat} (hb : b.length ≤ 100000) (h0 : 0 < ps.length) (h3 : ps.length ≤ 3) (hp : ∀ p ∈ ps, p < 8 * (sealed b).length) (hn : ps.Nodup) : opened (flips (sealed b) ps) = none := by
  cases ho : opened (flips (sealed b) ps) with
  | none => rfl
  | some t =>
    have hs : sealed t = flips (sealed b) ps := by
      unfold opened at ho
      split at ho
      · cases ho
      · split at ho
        · rename_i h
          injection ho with ho
          rw [← ho]
          exact h
        · cases ho
    have hl : b.length = t.length := by
      have := congrArg List.length hs
      rw [flips_len] at this
      simp [sealed, le4] at this
      omega
    obtain ⟨p, ps, rfl⟩ : ∃ p qs, ps = p :: qs := by
      cases ps with
      | nil => cases h0
      | cons p qs => exact ⟨p, qs, rfl⟩
    have hne : b ≠ t := fun e => by
      rw [e] at hs
      refine flips_other (y := sealed t) (fun q hq => ?_) (List.nodup_cons.1 hn).1 hs.symm
      rw [← e]
      exact hp q hq
    have hf := (far b t hl hne hb).1
    rw [toldOf_many, hs] at hf
    have hc := diffs_flips (sealed b) (p :: ps) (sealed b) hp
    rw [diffs_self] at hc
    simp only [told0] at hf
    omega
end Crc
end Go.Proofs.YtdckdjkkaangmaaDoor
