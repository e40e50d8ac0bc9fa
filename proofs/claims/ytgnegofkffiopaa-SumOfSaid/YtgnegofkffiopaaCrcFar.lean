/- Plain laws of the sum: how it goes on; four bytes behind a text; what is sealed. -/
import Derived.Test.YtgnegofkffiopaaCrcLaw
namespace Go.Proofs.Ytgnegofkffiopaa
namespace Crc

theorem xor_cancel {n : Nat} {x y z : BitVec n} (h : x ^^^ y = x ^^^ z) : y = z := by
  have := congrArg (fun t => x ^^^ t) h
  simpa [← BitVec.xor_assoc] using this
theorem xor_zero_iff {n : Nat} {x y : BitVec n} : x ^^^ y = 0#n ↔ x = y := by
  constructor
  · intro h
    have : x ^^^ y = x ^^^ x := by rw [h, BitVec.xor_self]
    exact (xor_cancel this).symm
  · rintro rfl; exact BitVec.xor_self

theorem T_zero : T 0#32 = 0#32 := by decide
theorem T_bit0 (x : BitVec 32) : (T x).getLsbD 0 = x.msb := by
  unfold T
  cases x.msb <;> simp
theorem T_ker (x : BitVec 32) (h : T x = 0#32) : x = 0#32 := by
  have h0 := T_bit0 x
  rw [h] at h0
  simp at h0
  unfold T at h
  rw [h0] at h
  simp at h
  have hm : x.getLsbD 31 = false := by rw [BitVec.msb_eq_getLsbD_last] at h0; exact h0
  apply BitVec.eq_of_getLsbD_eq
  intro i hi
  by_cases e : i = 31
  · subst e; rw [hm]; simp
  · have := congrArg (fun t => t.getLsbD (i + 1)) h
    simp [BitVec.getLsbD_shiftLeft] at this
    have h2 := this (by omega)
    rw [h2]; simp
theorem T_inj {x y : BitVec 32} (h : T x = T y) : x = y := by
  have : T (x ^^^ y) = 0#32 := by rw [T_xor, h, BitVec.xor_self]
  exact xor_zero_iff.1 (T_ker _ this)
theorem Tn_inj : ∀ (n : Nat) {x y : BitVec 32}, Tn n x = Tn n y → x = y
  | 0, _, _, h => h
  | n + 1, _, _, h => T_inj (Tn_inj n h)
theorem Tn_xor : ∀ (n : Nat) (x y : BitVec 32), Tn n (x ^^^ y) = Tn n x ^^^ Tn n y
  | 0, _, _ => rfl
  | n + 1, x, y => by show Tn n (T (x ^^^ y)) = _; rw [T_xor, Tn_xor n]; rfl
theorem Tn_zero : ∀ n, Tn n 0#32 = 0#32
  | 0 => rfl
  | n + 1 => by show Tn n (T 0#32) = _; rw [T_zero, Tn_zero n]

theorem hand_inj {x y : BitVec 32} {c : UInt8} (h : hand x c = hand y c) : x = y := by
  have h1 := Tn_inj 8 h
  rw [BitVec.xor_comm x, BitVec.xor_comm y] at h1
  exact xor_cancel h1
theorem feed_inj (l : List UInt8) : ∀ {x y : BitVec 32}, feed x l = feed y l → x = y := by
  induction l with
  | nil => intro x y h; exact h
  | cons c l ih => intro x y h; exact hand_inj (ih h)
theorem rev32_inj {x y : BitVec 32} (h : rev32 x = rev32 y) : x = y := by
  apply BitVec.eq_of_getLsbD_eq
  intro i hi
  have h1 := rev32_bit x (31 - i) (by omega)
  have h2 := rev32_bit y (31 - i) (by omega)
  rw [show 31 - (31 - i) = i by omega] at h1 h2
  rw [← h1, ← h2, h]
theorem fin_inj {x y : BitVec 32} (h : fin x = fin y) : x = y := by
  unfold fin at h
  have := congrArg (fun t => ~~~ t) h
  simp only [BitVec.not_not] at this
  exact rev32_inj this
theorem sum_eq (a b : List UInt8) : sum a = sum b ↔ feed 0xFFFFFFFF#32 a = feed 0xFFFFFFFF#32 b := ⟨fin_inj, fun h => congrArg fin h⟩
/-- How a sum goes on. -/
theorem sum_on (a b c : List UInt8) : sum a = sum b ↔ sum (a ++ c) = sum (b ++ c) := by
  rw [sum_eq, sum_eq, feed_append, feed_append]
  exact ⟨fun h => by rw [h], feed_inj c⟩

/-- Four bytes at their places. -/
def word (a b c d : UInt8) : BitVec 32 := top a ^^^ (top b >>> 8) ^^^ (top c >>> 16) ^^^ (top d >>> 24)
theorem top_down : ∀ c : Fin 256, Tn 8 (top (UInt8.ofNat c.1) >>> 8) = top (UInt8.ofNat c.1) ∧ Tn 16 (top (UInt8.ofNat c.1) >>> 16) = top (UInt8.ofNat c.1) ∧ Tn 24 (top (UInt8.ofNat c.1) >>> 24) = top (UInt8.ofNat c.1) := by decide +kernel
theorem top_d (c : UInt8) : Tn 8 (top c >>> 8) = top c ∧ Tn 16 (top c >>> 16) = top c ∧ Tn 24 (top c >>> 24) = top c := by
  have := top_down ⟨c.toNat, c.toNat_lt⟩
  simpa only [UInt8.ofNat_toNat] using this
theorem top0 : top 0 = 0#32 := by decide
theorem feed1 (x : BitVec 32) (a : UInt8) : feed x [a] = Tn 8 (x ^^^ word a 0 0 0) := by
  unfold word; rw [top0]; simp; rfl
theorem feed2 (x : BitVec 32) (a b : UInt8) : feed x [a, b] = Tn 16 (x ^^^ word a b 0 0) := by
  unfold word
  rw [top0]
  show Tn 8 (Tn 8 (x ^^^ top a) ^^^ top b) = _
  rw [← (top_d b).1]
  simp only [← Tn_xor, ← Tn_add]
  congr 1
  simp only [(top_d b).1]
  simp [BitVec.xor_assoc]
theorem feed3 (x : BitVec 32) (a b c : UInt8) : feed x [a, b, c] = Tn 24 (x ^^^ word a b c 0) := by
  show Tn 8 (feed x [a, b] ^^^ top c) = _
  have h : feed x [a, b] ^^^ top c = Tn 16 (x ^^^ word a b c 0) := by
    rw [feed2, ← (top_d c).2.1, ← Tn_xor]
    unfold word
    rw [top0]
    congr 1
    simp [BitVec.xor_assoc]
  rw [h, ← Tn_add]
theorem feed4 (x : BitVec 32) (a b c d : UInt8) : feed x [a, b, c, d] = Tn 32 (x ^^^ word a b c d) := by
  show Tn 8 (feed x [a, b, c] ^^^ top d) = _
  have h : feed x [a, b, c] ^^^ top d = Tn 24 (x ^^^ word a b c d) := by
    rw [feed3, ← (top_d d).2.2, ← Tn_xor]
    unfold word
    rw [top0]
    congr 1
    simp [BitVec.xor_assoc]
  rw [h, ← Tn_add]

theorem rev8_lt (c : UInt8) : (rev8 c).toNat < 256 := (rev8 c).toNat_lt
theorem word_byte (a b c d : UInt8) : ((word a b c d) >>> 24).setWidth 8 = BitVec.ofNat 8 (rev8 a).toNat ∧ ((word a b c d) >>> 16).setWidth 8 = BitVec.ofNat 8 (rev8 b).toNat ∧
    ((word a b c d) >>> 8).setWidth 8 = BitVec.ofNat 8 (rev8 c).toNat ∧ (word a b c d).setWidth 8 = BitVec.ofNat 8 (rev8 d).toNat := by
  have ha : ∀ (u : UInt8) i, 8 ≤ i → (rev8 u).toNat.testBit i = false := fun u i hi => Nat.testBit_lt_two_pow (Nat.lt_of_lt_of_le (rev8_lt u) (Nat.pow_le_pow_right (by decide) hi : 2 ^ 8 ≤ 2 ^ i))
  unfold word top
  refine ⟨?_, ?_, ?_, ?_⟩ <;>
  · apply BitVec.eq_of_getLsbD_eq
    intro i hi
    simp only [BitVec.getLsbD_setWidth, BitVec.getLsbD_ushiftRight, BitVec.getLsbD_xor, BitVec.getLsbD_shiftLeft, BitVec.getLsbD_ofNat]
    have hc : i = 0 ∨ i = 1 ∨ i = 2 ∨ i = 3 ∨ i = 4 ∨ i = 5 ∨ i = 6 ∨ i = 7 := by omega
    rcases hc with rfl | rfl | rfl | rfl | rfl | rfl | rfl | rfl <;> simp [ha]
theorem rev8_rev8 : ∀ c : Fin 256, rev8 (rev8 (UInt8.ofNat c.1)) = UInt8.ofNat c.1 := by decide +kernel
theorem rev8_inj {a b : UInt8} (h : rev8 a = rev8 b) : a = b := by
  have h1 := rev8_rev8 ⟨a.toNat, a.toNat_lt⟩
  have h2 := rev8_rev8 ⟨b.toNat, b.toNat_lt⟩
  simp only [UInt8.ofNat_toNat] at h1 h2
  rw [← h1, ← h2, h]
theorem byte_inj {a b : UInt8} (h : BitVec.ofNat 8 (rev8 a).toNat = BitVec.ofNat 8 (rev8 b).toNat) : a = b := by
  have h1 := congrArg BitVec.toNat h
  have ha := rev8_lt a
  have hb := rev8_lt b
  rw [BitVec.toNat_ofNat, BitVec.toNat_ofNat, Nat.mod_eq_of_lt ha, Nat.mod_eq_of_lt hb] at h1
  exact rev8_inj (UInt8.toNat_inj.1 h1)
theorem word_inj {a b c d a' b' c' d' : UInt8} (h : word a b c d = word a' b' c' d') : a = a' ∧ b = b' ∧ c = c' ∧ d = d' := by
  obtain ⟨h1, h2, h3, h4⟩ := word_byte a b c d
  obtain ⟨g1, g2, g3, g4⟩ := word_byte a' b' c' d'
  rw [h] at h1 h2 h3 h4
  exact ⟨byte_inj (h1.symm.trans g1), byte_inj (h2.symm.trans g2), byte_inj (h3.symm.trans g3), byte_inj (h4.symm.trans g4)⟩

/-- Behind one register two rows of one length, of at most four bytes, are told apart. -/
theorem feed_few (x : BitVec 32) (p q : List UInt8) (h : p.length = q.length) (h4 : p.length ≤ 4) : feed x p = feed x q ↔ p = q := by
  constructor
  · intro he
    match p, q, h, h4 with
    | [], [], _, _ => rfl
    | [a], [a'], _, _ =>
      rw [feed1, feed1] at he
      obtain ⟨rfl, _⟩ := word_inj (xor_cancel (Tn_inj _ he))
      rfl
    | [a, b], [a', b'], _, _ =>
      rw [feed2, feed2] at he
      obtain ⟨rfl, rfl, _⟩ := word_inj (xor_cancel (Tn_inj _ he))
      rfl
    | [a, b, c], [a', b', c'], _, _ =>
      rw [feed3, feed3] at he
      obtain ⟨rfl, rfl, rfl, _⟩ := word_inj (xor_cancel (Tn_inj _ he))
      rfl
    | [a, b, c, d], [a', b', c', d'], _, _ =>
      rw [feed4, feed4] at he
      obtain ⟨rfl, rfl, rfl, rfl⟩ := word_inj (xor_cancel (Tn_inj _ he))
      rfl
    | _ :: _ :: _ :: _ :: _ :: _, _, _, h4 => simp at h4
  · rintro rfl; rfl
theorem sum_few (a p q : List UInt8) (h : p.length = q.length) (h4 : p.length ≤ 4) : sum (a ++ p) = sum (a ++ q) ↔ p = q := by
  rw [sum_eq, feed_append, feed_append]
  exact feed_few _ p q h h4
end Crc
end Go.Proofs.Ytgnegofkffiopaa
