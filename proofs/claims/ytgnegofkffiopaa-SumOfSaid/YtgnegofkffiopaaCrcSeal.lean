/- Plain laws of what is sealed. -/
import Derived.Test.YtgnegofkffiopaaSumE
import Derived.Test.YtgnegofkffiopaaCrcBits
namespace Go.Proofs.Ytgnegofkffiopaa
namespace Crc

theorem rev8_bit : ∀ c : Fin 256, ∀ j : Fin 8, (rev8 (UInt8.ofNat c.1)).toNat.testBit j.1 = c.1.testBit (7 - j.1) := by decide +kernel
theorem rev8_b (c : UInt8) (j : Nat) (hj : j < 8) : (rev8 c).toNat.testBit j = c.toNat.testBit (7 - j) := by
  have := rev8_bit ⟨c.toNat, c.toNat_lt⟩ ⟨j, hj⟩
  simpa only [UInt8.ofNat_toNat] using this
theorem byteAt_bit (y : BitVec 32) (k m : Nat) (hm : m < 8) : (byteAt y k).toNat.testBit m = y.getLsbD (8 * k + m) := by
  unfold byteAt
  rw [UInt8.toNat_ofNat', show 2 ^ 8 = 256 from rfl, show (256 : Nat) = 2 ^ 8 from rfl, Nat.testBit_mod_two_pow, Nat.testBit_div_two_pow]
  simp [hm, BitVec.getLsbD, Nat.add_comm]
theorem word_le4 (y : BitVec 32) : word (byteAt y 0) (byteAt y 1) (byteAt y 2) (byteAt y 3) = rev32 y := by
  have hl : ∀ (u : UInt8) i, 8 ≤ i → (rev8 u).toNat.testBit i = false := fun u i hi => Nat.testBit_lt_two_pow (Nat.lt_of_lt_of_le (rev8_lt u) (Nat.pow_le_pow_right (by decide) hi : 2 ^ 8 ≤ 2 ^ i))
  have hb : ∀ k j, j < 8 → (rev8 (byteAt y k)).toNat.testBit j = y.getLsbD (8 * k + (7 - j)) := fun k j hj => by rw [rev8_b _ j hj, byteAt_bit y k _ (by omega)]
  apply BitVec.eq_of_getLsbD_eq
  intro i hi
  rw [rev32_bit y i hi]
  unfold word top
  simp only [BitVec.getLsbD_ushiftRight, BitVec.getLsbD_xor, BitVec.getLsbD_shiftLeft, BitVec.getLsbD_ofNat]
  revert i
  refine bit_cases ?_
  simp [hl, hb]
theorem feed_le4 (x y : BitVec 32) : feed x (le4 y) = Tn 32 (x ^^^ rev32 y) := by
  show feed x [_, _, _, _] = _
  rw [feed4, word_le4]
theorem rev32_not (x : BitVec 32) : rev32 (~~~ x) = ~~~ rev32 x := by
  apply BitVec.eq_of_getLsbD_eq
  intro i hi
  rw [rev32_bit _ i hi, BitVec.getLsbD_not, BitVec.getLsbD_not, rev32_bit _ i hi]
  simp [hi]
  omega
theorem rev32_rev32 (x : BitVec 32) : rev32 (rev32 x) = x := by
  apply BitVec.eq_of_getLsbD_eq
  intro i hi
  rw [rev32_bit _ i hi, rev32_bit _ _ (by omega), show 31 - (31 - i) = i by omega]
def K : BitVec 32 := Tn 32 (BitVec.allOnes 32)
theorem feed_fin (x : BitVec 32) : feed x (le4 (fin x)) = K := by
  rw [feed_le4]
  unfold fin K
  rw [rev32_not, rev32_rev32]
  have h : x ^^^ ~~~ x = BitVec.allOnes 32 := by
    apply BitVec.eq_of_getLsbD_eq
    intro i hi
    rw [BitVec.getLsbD_xor, BitVec.getLsbD_not, BitVec.getLsbD_allOnes]
    simp [hi]
  rw [h]
theorem feed_sealed (l : List UInt8) : feed 0xFFFFFFFF#32 (sealed l) = K := by
  unfold sealed
  rw [feed_append]
  exact feed_fin _
/-- Whatever is sealed, the sum of all that is one and the same number. -/
theorem sum_sealed (l : List UInt8) : sum (sealed l) = sum (sealed []) := by rw [sum_eq, feed_sealed, feed_sealed]
theorem le4_inj {x y : BitVec 32} : le4 x = le4 y ↔ x = y := by
  constructor
  · intro h
    have h1 := feed_le4 0#32 x
    have h2 := feed_le4 0#32 y
    rw [h] at h1
    exact rev32_inj (xor_cancel (Tn_inj 32 (h1.symm.trans h2)))
  · rintro rfl; rfl
theorem sum_other (l : List UInt8) (o : BitVec 32) : sum (l ++ le4 o) = sum (sealed []) ↔ le4 (sum l) = le4 o := by
  rw [sum_eq, feed_append, feed_sealed, ← feed_fin (feed 0xFFFFFFFF#32 l)]
  unfold sum
  generalize feed 0xFFFFFFFF#32 l = x
  generalize fin x = y
  constructor
  · intro h
    exact ((feed_few x (le4 o) (le4 y) rfl (by simp [le4])).1 h).symm
  · intro h
    rw [h]
theorem opened_sealed (l : List UInt8) : opened (sealed l) = some l := by
  unfold sealed
  rw [opened_long l _ rfl, if_pos rfl]

/-- A byte's bits, the lowest first. -/
def bits8 (c : UInt8) : List Bool := [c.toNat.testBit 0, c.toNat.testBit 1, c.toNat.testBit 2, c.toNat.testBit 3, c.toNat.testBit 4, c.toNat.testBit 5, c.toNat.testBit 6, c.toNat.testBit 7]
def bitsOf (l : List UInt8) : List Bool := l.flatMap bits8
theorem bitsOf_cons (c : UInt8) (l : List UInt8) : bitsOf (c :: l) = bits8 c ++ bitsOf l := rfl
theorem bitsOf_append (a b : List UInt8) : bitsOf (a ++ b) = bitsOf a ++ bitsOf b := List.flatMap_append
theorem bitsOf_len : ∀ (l : List UInt8), (bitsOf l).length = 8 * l.length
  | [] => rfl
  | c :: l => by rw [bitsOf_cons, List.length_append, bitsOf_len l]; simp [bits8]; omega
theorem comb_bits : ∀ (l : List UInt8) (s : BitVec 32), comb s (bitsOf l) = feed s l
  | [], _ => rfl
  | c :: l, s => by
    rw [bitsOf_cons, comb_append, comb_bits l]
    show feed (handR s c 8) l = feed (hand s c) l
    rw [handR_8]
/-- Where two texts are unlike, bit by bit. -/
def diffs (x y : List UInt8) : List Bool := List.zipWith (· ^^ ·) (bitsOf x) (bitsOf y)
theorem diffs_len (x y : List UInt8) (h : x.length = y.length) : (diffs x y).length = 8 * x.length := by
  unfold diffs
  rw [List.length_zipWith, bitsOf_len, bitsOf_len, h, Nat.min_self]
theorem diffs_sealed (b c : List UInt8) (h : b.length = c.length) : comb 0#32 (diffs (sealed b) (sealed c)) = 0#32 := by
  have hl : (bitsOf (sealed b)).length = (bitsOf (sealed c)).length := by
    rw [bitsOf_len, bitsOf_len]
    simp [sealed, le4, h]
  have := comb_xor (bitsOf (sealed b)) (bitsOf (sealed c)) 0xFFFFFFFF#32 0xFFFFFFFF#32 hl
  rw [BitVec.xor_self, comb_bits, comb_bits, feed_sealed, feed_sealed, BitVec.xor_self] at this
  exact this
theorem zip_same : ∀ (a : List Bool), List.zipWith (· ^^ ·) a a = List.replicate a.length false
  | [] => rfl
  | x :: a => by simp only [List.zipWith_cons_cons, Bool.xor_self, zip_same a]; rfl
theorem zip_off : ∀ (a b : List Bool) (n : Nat), a.length = b.length → List.zipWith (· ^^ ·) a b = List.replicate n false → a = b
  | [], [], _, _, _ => rfl
  | x :: a, y :: b, n, hl, h => by
    match n, h with
    | 0, h => simp at h
    | n + 1, h =>
      simp only [List.zipWith_cons_cons, List.replicate_succ, List.cons.injEq] at h
      rw [zip_off a b n (by simpa using hl) h.2]
      have := h.1
      cases x <;> cases y <;> simp_all
  | [], _ :: _, _, h, _ => by cases h
  | _ :: _, [], _, h, _ => by cases h
theorem bits8_inj {a b : UInt8} (h : bits8 a = bits8 b) : a = b := by
  unfold bits8 at h
  simp only [List.cons.injEq, and_true] at h
  obtain ⟨h0, h1, h2, h3, h4, h5, h6, h7⟩ := h
  apply UInt8.toNat_inj.1
  apply Nat.eq_of_testBit_eq
  intro i
  rcases Nat.lt_or_ge i 8 with hi | hi
  · have : i = 0 ∨ i = 1 ∨ i = 2 ∨ i = 3 ∨ i = 4 ∨ i = 5 ∨ i = 6 ∨ i = 7 := by omega
    rcases this with rfl | rfl | rfl | rfl | rfl | rfl | rfl | rfl <;> assumption
  · have ha : ∀ (u : UInt8), u.toNat.testBit i = false := fun u => Nat.testBit_lt_two_pow (Nat.lt_of_lt_of_le u.toNat_lt (Nat.pow_le_pow_right (by decide) hi : 2 ^ 8 ≤ 2 ^ i))
    rw [ha, ha]
theorem bitsOf_inj : ∀ (x y : List UInt8), x.length = y.length → bitsOf x = bitsOf y → x = y
  | [], [], _, _ => rfl
  | a :: x, b :: y, hl, h => by
    rw [bitsOf_cons, bitsOf_cons] at h
    have := List.append_inj h rfl
    rw [bits8_inj this.1, bitsOf_inj x y (by simpa using hl) this.2]
  | [], _ :: _, h, _ => by cases h
  | _ :: _, [], h, _ => by cases h
theorem diffs_on (x y : List UInt8) (hl : x.length = y.length) (hne : x ≠ y) : ∃ i es, diffs x y = List.replicate i false ++ true :: es := by
  rcases first_on (diffs x y) with ⟨n, h⟩ | h
  · exact absurd (bitsOf_inj x y hl (zip_off _ _ n (by rw [bitsOf_len, bitsOf_len, hl]) h)) hne
  · exact h

/-- What is told of a row of bits: the first one's place, the last one's, how many. -/
structure Told where
  first : Int
  last : Int
  many : Int
def tell (t : Told) (n : Nat) (b : Bool) : Told := if b then { first := if t.first < 0 then n else t.first, last := n, many := t.many + 1 } else t
def told0 : Told := { first := -1, last := -1, many := 0 }
def toldOf (t : Told) : Nat → List Bool → Told
  | _, [] => t
  | n, b :: ds => toldOf (tell t n b) (n + 1) ds
theorem toldOf_append (t : Told) : ∀ (a b : List Bool) (n : Nat), toldOf t n (a ++ b) = toldOf (toldOf t n a) (n + a.length) b := by
  intro a
  induction a generalizing t with
  | nil => intro b n; rfl
  | cons x a ih =>
    intro b n
    show toldOf (tell t n x) (n + 1) (a ++ b) = toldOf (toldOf (tell t n x) (n + 1) a) (n + (a.length + 1)) b
    rw [ih, Nat.add_assoc, Nat.add_comm 1]
theorem toldOf_off (t : Told) : ∀ (k n : Nat), toldOf t n (List.replicate k false) = t
  | 0, _ => rfl
  | k + 1, n => by show toldOf (tell t n false) (n + 1) (List.replicate k false) = t; exact toldOf_off t k (n + 1)
theorem toldOf_many (t : Told) : ∀ (ds : List Bool) (n : Nat), (toldOf t n ds).many = t.many + ds.count true := by
  intro ds
  induction ds generalizing t with
  | nil => intro n; simp [toldOf]
  | cons b ds ih =>
    intro n
    show (toldOf (tell t n b) (n + 1) ds).many = _
    rw [ih]
    cases b
    · simp [tell]
    · simp only [tell, if_true, List.count_cons_self]; omega
theorem toldOf_first (t : Told) (h : 0 ≤ t.first) : ∀ (ds : List Bool) (n : Nat), (toldOf t n ds).first = t.first := by
  intro ds
  induction ds generalizing t with
  | nil => intro n; rfl
  | cons b ds ih =>
    intro n
    show (toldOf (tell t n b) (n + 1) ds).first = _
    have hf : (tell t n b).first = t.first := by
      cases b
      · rfl
      · simp only [tell, if_true]; rw [if_neg (by omega)]
    rw [ih _ (by rw [hf]; exact h), hf]
theorem toldOf_last (t : Told) : ∀ (ds : List Bool) (n : Nat), t.last ≤ n → t.last ≤ (toldOf t n ds).last := by
  intro ds
  induction ds generalizing t with
  | nil => intro n _; exact Int.le_refl _
  | cons b ds ih =>
    intro n h
    show _ ≤ (toldOf (tell t n b) (n + 1) ds).last
    cases b
    · exact ih t (n + 1) (by omega)
    · have := ih (tell t n true) (n + 1) (by simp [tell]; omega)
      simp only [tell, if_true] at this ⊢
      omega
theorem toldOf_on (t : Told) (q : Nat) : ∀ (ds : List Bool) (n : Nat), t.last ≤ n → ds[q]? = some true → ((n + q : Nat) : Int) ≤ (toldOf t n ds).last := by
  induction q generalizing t with
  | zero =>
    intro ds n h hq
    match ds, hq with
    | b :: ds, hq =>
      simp at hq
      subst hq
      have := toldOf_last (tell t n true) ds (n + 1) (by simp [tell]; omega)
      show _ ≤ (toldOf (tell t n true) (n + 1) ds).last
      simp only [tell, if_true] at this ⊢
      simpa using this
  | succ q ih =>
    intro ds n h hq
    match ds, hq with
    | b :: ds, hq =>
      have := ih (tell t n b) ds (n + 1) (by cases b <;> simp [tell] <;> omega) (by simpa using hq)
      have e : n + (q + 1) = n + 1 + q := by omega
      rw [e]
      exact this
/-- THE DISTANCE: four bits at least, and not within 32. -/
theorem far (b c : List UInt8) (hl : b.length = c.length) (hne : b ≠ c) (hs : b.length ≤ 100000) :
    4 ≤ (toldOf told0 0 (diffs (sealed b) (sealed c))).many ∧ 32 ≤ (toldOf told0 0 (diffs (sealed b) (sealed c))).last - (toldOf told0 0 (diffs (sealed b) (sealed c))).first := by
  have hl2 : (sealed b).length = (sealed c).length := by simp [sealed, le4, hl]
  have hne2 : sealed b ≠ sealed c := fun h => hne (List.append_inj h hl).1
  obtain ⟨i, es, he⟩ := diffs_on _ _ hl2 hne2
  have h0 := diffs_sealed b c hl
  have hlen := diffs_len _ _ hl2
  have hlb : (sealed b).length = b.length + 4 := by simp [sealed, le4]
  have hcnt := count_four _ (by rw [hlen, hlb]; omega) h0
  rw [he] at h0 hcnt ⊢
  have hc1 : 1 ≤ (List.replicate i false ++ true :: es).count true := by simp [List.count_append]; omega
  obtain ⟨q, hq, hqe⟩ := span_wide i es h0
  refine ⟨?_, ?_⟩
  · rw [toldOf_many]
    simp only [told0]
    omega
  · have h1 : (toldOf told0 0 (List.replicate i false ++ true :: es)).first = i := by
      rw [toldOf_append, toldOf_off]
      show (toldOf (tell told0 (0 + (List.replicate i false).length) true) _ es).first = _
      rw [toldOf_first _ (by simp [tell, told0])]
      simp [tell, told0]
    have h2 := toldOf_on told0 (i + (q + 1)) (List.replicate i false ++ true :: es) 0 (by simp [told0]) (by
      rw [List.getElem?_append_right (by simp)]
      simp [hqe])
    omega
end Crc
end Go.Proofs.Ytgnegofkffiopaa
