/- Plain laws of the sum: the division bit by bit is the one byte by byte; a word turned round. -/
import Derived.Test.YtgnegofkffiopaaCrc
namespace Go.Proofs.Ytgnegofkffiopaa
namespace Crc

theorem T_xor (x y : BitVec 32) : T (x ^^^ y) = T x ^^^ T y := by
  unfold T
  rw [BitVec.msb_xor, BitVec.shiftLeft_xor_distrib]
  generalize x <<< 1 = a
  generalize y <<< 1 = b
  cases x.msb <;> cases y.msb <;> simp
  · rw [BitVec.xor_assoc]
  · rw [BitVec.xor_assoc, BitVec.xor_assoc, BitVec.xor_comm b]
  · rw [BitVec.xor_assoc, BitVec.xor_comm _ (b ^^^ _), BitVec.xor_assoc b, BitVec.xor_self, BitVec.xor_zero]

/-- One bit handed to the register. -/
def stepR (x : BitVec 32) (b : Bool) : BitVec 32 := (x <<< 1) ^^^ (if x.msb ^^ b then 0x1EDC6F41#32 else 0#32)
def handR (x : BitVec 32) (c : UInt8) : Nat → BitVec 32
  | 0 => x
  | k + 1 => stepR (handR x c k) (c.toNat.testBit k)

theorem top_bit : ∀ c : Fin 256, ∀ k : Fin 8, (top (UInt8.ofNat c.1)).getLsbD (31 - k.1) = c.1.testBit k.1 := by decide +kernel
theorem top_shift : ∀ c : Fin 256, (top (UInt8.ofNat c.1)) <<< 8 = 0#32 := by decide +kernel

theorem handR_eq (x : BitVec 32) (c : UInt8) : ∀ k, k ≤ 8 → handR x c k = Tn k (x ^^^ top c) ^^^ (top c <<< k) := by
  intro k
  induction k with
  | zero =>
    intro _
    simp [handR, Tn, BitVec.xor_assoc]
  | succ k ih =>
    intro hk
    have hb := top_bit ⟨c.toNat, c.toNat_lt⟩ ⟨k, by omega⟩
    simp only [UInt8.ofNat_toNat] at hb
    rw [handR, ih (by omega), Tn_succ]
    generalize Tn k (x ^^^ top c) = y
    have hm : (top c <<< k).msb = c.toNat.testBit k := by
      rw [← hb, BitVec.msb_eq_getLsbD_last, BitVec.getLsbD_shiftLeft]
      simp
      omega
    unfold stepR T
    rw [BitVec.msb_xor, hm, BitVec.shiftLeft_xor_distrib]
    have hs : top c <<< k <<< 1 = top c <<< (k + 1) := by rw [← BitVec.shiftLeft_add]
    rw [hs]
    generalize y <<< 1 = a
    generalize top c <<< (k + 1) = d
    cases y.msb <;> cases c.toNat.testBit k <;> simp
    all_goals rw [BitVec.xor_assoc, BitVec.xor_assoc, BitVec.xor_comm d]

theorem handR_8 (x : BitVec 32) (c : UInt8) : handR x c 8 = hand x c := by
  have h := top_shift ⟨c.toNat, c.toNat_lt⟩
  simp only [UInt8.ofNat_toNat] at h
  rw [handR_eq x c 8 (by omega), h, BitVec.xor_zero]
  rfl

theorem bit_cases {p : Nat → Prop} (h : p 0 ∧ p 1 ∧ p 2 ∧ p 3 ∧ p 4 ∧ p 5 ∧ p 6 ∧ p 7 ∧ p 8 ∧ p 9 ∧ p 10 ∧ p 11 ∧ p 12 ∧ p 13 ∧ p 14 ∧ p 15 ∧ p 16 ∧ p 17 ∧ p 18 ∧ p 19 ∧ p 20 ∧ p 21 ∧ p 22 ∧ p 23 ∧ p 24 ∧ p 25 ∧ p 26 ∧ p 27 ∧ p 28 ∧ p 29 ∧ p 30 ∧ p 31) :
    ∀ i, i < 32 → p i := by
  intro i hi
  obtain ⟨h0, h1, h2, h3, h4, h5, h6, h7, h8, h9, h10, h11, h12, h13, h14, h15, h16, h17, h18, h19, h20, h21, h22, h23, h24, h25, h26, h27, h28, h29, h30, h31⟩ := h
  have : i = 0 ∨ i = 1 ∨ i = 2 ∨ i = 3 ∨ i = 4 ∨ i = 5 ∨ i = 6 ∨ i = 7 ∨ i = 8 ∨ i = 9 ∨ i = 10 ∨ i = 11 ∨ i = 12 ∨ i = 13 ∨ i = 14 ∨ i = 15 ∨ i = 16 ∨ i = 17 ∨ i = 18 ∨ i = 19 ∨ i = 20 ∨ i = 21 ∨ i = 22 ∨ i = 23 ∨ i = 24 ∨ i = 25 ∨ i = 26 ∨ i = 27 ∨ i = 28 ∨ i = 29 ∨ i = 30 ∨ i = 31 := by omega
  rcases this with rfl | rfl | rfl | rfl | rfl | rfl | rfl | rfl | rfl | rfl | rfl | rfl | rfl | rfl | rfl | rfl | rfl | rfl | rfl | rfl | rfl | rfl | rfl | rfl | rfl | rfl | rfl | rfl | rfl | rfl | rfl | rfl <;> assumption

theorem st1_bit (x : BitVec 32) : ∀ i, i < 32 → (st1 x).getLsbD i = x.getLsbD (if i % 2 = 0 then i + 1 else i - 1) :=
  bit_cases (by simp [st1])
theorem st2_bit (x : BitVec 32) : ∀ i, i < 32 → (st2 x).getLsbD i = x.getLsbD (if i % 4 < 2 then i + 2 else i - 2) :=
  bit_cases (by simp [st2])
theorem st3_bit (x : BitVec 32) : ∀ i, i < 32 → (st3 x).getLsbD i = x.getLsbD (if i % 8 < 4 then i + 4 else i - 4) :=
  bit_cases (by simp [st3])
theorem st4_bit (x : BitVec 32) : ∀ i, i < 32 → (st4 x).getLsbD i = x.getLsbD (if i % 16 < 8 then i + 8 else i - 8) :=
  bit_cases (by simp [st4])
theorem st5_bit (x : BitVec 32) : ∀ i, i < 32 → (st5 x).getLsbD i = x.getLsbD (if i < 16 then i + 16 else i - 16) :=
  bit_cases (by simp [st5])
theorem rev32_bit (x : BitVec 32) : ∀ i, i < 32 → (rev32 x).getLsbD i = x.getLsbD (31 - i) := by
  intro i hi
  unfold rev32
  rw [st5_bit _ i hi, st4_bit _ _ (by split <;> omega), st3_bit _ _ (by split <;> split <;> omega), st2_bit _ _ (by split <;> split <;> split <;> omega), st1_bit _ _ (by split <;> split <;> split <;> split <;> omega)]
  congr 1
  revert i
  exact bit_cases (by decide)

/-- What is asked at the end, bit by bit. -/
def outR (x : BitVec 32) : Nat → BitVec 32
  | 0 => 0#32
  | k + 1 => if x.getLsbD k then outR x k else outR x k ||| (1#32 <<< (31 - k))

theorem outR_bit (x : BitVec 32) (i : Nat) (hi : i < 32) : ∀ k, k ≤ 32 → (outR x k).getLsbD i = (decide (31 - i < k) && !x.getLsbD (31 - i)) := by
  intro k
  induction k with
  | zero => intro _; simp [outR]
  | succ k ih =>
    intro hk
    have h := ih (by omega)
    unfold outR
    by_cases e : 31 - i = k
    · have e' : 31 - k = i := by omega
      cases hx : x.getLsbD k
      · simp [hx, e, e', hi]
      · simp [hx, h, e]
    · have hne : ¬ (31 - k = i) := by omega
      have hd : decide (31 - i < k + 1) = decide (31 - i < k) := by
        rw [decide_eq_decide]; omega
      rw [hd, ← h]
      cases hx : x.getLsbD k
      · simp only [Bool.false_eq_true, if_false, BitVec.getLsbD_or]
        have : (1#32 <<< (31 - k)).getLsbD i = false := by
          simp [BitVec.getLsbD_shiftLeft, BitVec.getLsbD_one]
          omega
        rw [this, Bool.or_false]
      · simp
theorem outR_32 (x : BitVec 32) : outR x 32 = fin x := by
  apply BitVec.eq_of_getLsbD_eq
  intro i hi
  rw [outR_bit x i hi 32 (by omega)]
  unfold fin
  rw [BitVec.getLsbD_not, rev32_bit x i hi]
  simp [hi]
  omega

def feedR (x : BitVec 32) (l : List UInt8) : BitVec 32 := l.foldl (fun x c => handR x c 8) x
theorem feedR_eq (l : List UInt8) : ∀ x, feedR x l = feed x l := by
  induction l with
  | nil => intro x; rfl
  | cons c l ih =>
    intro x
    show feedR (handR x c 8) l = feed (hand x c) l
    rw [handR_8, ih]
end Crc
end Go.Proofs.Ytgnegofkffiopaa
