/- Plain laws of the sum: two texts of one length, sealed, are unlike in four bits at least, and not within 32 bits side by side. -/
import Derived.Test.YtgnegofkffiopaaCrcOrd
namespace Go.Proofs.Ytgnegofkffiopaa
namespace Crc

def u31 : BitVec 32 := 0x80000000#32
theorem u31_eq : u31 = Tn 31 1#32 := by decide +kernel
def onBit (b : Bool) : BitVec 32 := if b then u31 else 0#32
theorem stepR_T (s : BitVec 32) (b : Bool) : stepR s b = T (s ^^^ onBit b) := by
  unfold stepR onBit
  cases b
  · simp [T]
  · have h : T (s ^^^ u31) = T s ^^^ T u31 := T_xor _ _
    have h2 : T u31 = 0x1EDC6F41#32 := by decide
    simp only [if_true, h, h2]
    unfold T
    cases s.msb <;> simp [BitVec.xor_assoc]

def comb (s : BitVec 32) (ds : List Bool) : BitVec 32 := ds.foldl stepR s
theorem onBit_xor (a b : Bool) : onBit (a ^^ b) = onBit a ^^^ onBit b := by cases a <;> cases b <;> simp [onBit]
theorem comb_xor : ∀ (ds es : List Bool) (s t : BitVec 32), ds.length = es.length → comb (s ^^^ t) (List.zipWith (· ^^ ·) ds es) = comb s ds ^^^ comb t es
  | [], [], _, _, _ => rfl
  | d :: ds, e :: es, s, t, h => by
    show comb (stepR (s ^^^ t) (d ^^ e)) (List.zipWith (· ^^ ·) ds es) = comb (stepR s d) ds ^^^ comb (stepR t e) es
    rw [← comb_xor ds es _ _ (by simpa using h)]
    congr 1
    rw [stepR_T, stepR_T, stepR_T, ← T_xor, onBit_xor]
    congr 1
    rw [BitVec.xor_assoc, BitVec.xor_assoc, ← BitVec.xor_assoc t, BitVec.xor_comm t, BitVec.xor_assoc]
  | [], _ :: _, _, _, h => by cases h
  | _ :: _, [], _, _, h => by cases h
theorem comb_append (s : BitVec 32) (a b : List Bool) : comb s (a ++ b) = comb (comb s a) b := List.foldl_append
theorem comb_off : ∀ (n : Nat) (s : BitVec 32), comb s (List.replicate n false) = Tn n s
  | 0, _ => rfl
  | n + 1, s => by
    show comb (stepR s false) (List.replicate n false) = Tn n (T s)
    rw [stepR_T, comb_off n]
    simp [onBit]

/-- Where the first one stands. -/
theorem first_on : ∀ (ds : List Bool), (∃ n, ds = List.replicate n false) ∨ ∃ i es, ds = List.replicate i false ++ true :: es
  | [] => .inl ⟨0, rfl⟩
  | true :: ds => .inr ⟨0, ds, rfl⟩
  | false :: ds => by
    rcases first_on ds with ⟨n, h⟩ | ⟨i, es, h⟩
    · exact .inl ⟨n + 1, by rw [h]; rfl⟩
    · exact .inr ⟨i + 1, es, by rw [h]; rfl⟩

/-- One or two ones never come to nothing. -/
theorem comb_one (i n : Nat) : comb 0#32 (List.replicate i false ++ true :: List.replicate n false) ≠ 0#32 := by
  intro h
  rw [comb_append, comb_off, Tn_zero] at h
  have h1 : Tn n (T (0#32 ^^^ onBit true)) = Tn n (T 0#32) := by
    rw [← stepR_T, ← comb_off, T_zero, Tn_zero]
    exact h
  have h2 := T_inj (Tn_inj n h1)
  exact absurd h2 (by decide)
theorem comb_two (i j n : Nat) (hj : j < 999999) : comb 0#32 (List.replicate i false ++ true :: (List.replicate j false ++ true :: List.replicate n false)) ≠ 0#32 := by
  intro h
  rw [comb_append, comb_off, Tn_zero] at h
  have h0 : comb (stepR 0#32 true) (List.replicate j false ++ true :: List.replicate n false) = 0#32 := h
  rw [comb_append, comb_off] at h0
  have h1 : comb (stepR (Tn j (stepR 0#32 true)) true) (List.replicate n false) = 0#32 := h0
  rw [comb_off, stepR_T, stepR_T] at h1
  have h2 : Tn n (T (Tn j (T (0#32 ^^^ onBit true)) ^^^ onBit true)) = Tn n (T 0#32) := by rw [h1, T_zero, Tn_zero]
  have h3 := xor_zero_iff.1 (T_inj (Tn_inj n h2))
  have h4 : Tn (j + 1) u31 = u31 := by
    rw [Tn_succ, ← show Tn j (T u31) = T (Tn j u31) from Tn_succ j u31]
    simpa [onBit] using h3
  exact Tn_round (j + 1) (by omega) (by omega) u31 31 u31_eq h4

/-- How many ones a word has, odd or even. -/
def par (x : BitVec 32) : Bool := (List.range 32).foldl (fun b i => b ^^ x.getLsbD i) false
theorem par_xor (x y : BitVec 32) : par (x ^^^ y) = (par x ^^ par y) := by
  unfold par
  have h : ∀ (l : List Nat) (a b : Bool), l.foldl (fun b i => b ^^ (x ^^^ y).getLsbD i) (a ^^ b) = (l.foldl (fun b i => b ^^ x.getLsbD i) a ^^ l.foldl (fun b i => b ^^ y.getLsbD i) b) := by
    intro l
    induction l with
    | nil => intro a b; rfl
    | cons i l ih =>
      intro a b
      simp only [List.foldl_cons]
      rw [← ih, BitVec.getLsbD_xor]
      congr 1
      cases a <;> cases b <;> cases x.getLsbD i <;> cases y.getLsbD i <;> rfl
  exact h _ false false
theorem par_T1 : ∀ i : Fin 32, par (T (Tn i.1 1#32)) = par (Tn i.1 1#32) := by decide +kernel
theorem par_T (x : BitVec 32) : par (T x) = par x := by
  have key : ∀ (n : Nat), n ≤ 32 → par (xs n fun i => T (if x.getLsbD i then Tn i 1#32 else 0#32)) = par (xs n fun i => if x.getLsbD i then Tn i 1#32 else 0#32) := by
    intro n
    induction n with
    | zero => intro _; rfl
    | succ n ih =>
      intro hn
      rw [xs, xs, par_xor, par_xor, ih (by omega)]
      congr 1
      split
      · exact par_T1 ⟨n, by omega⟩
      · rw [T_zero]
  have h := key 32 (by omega)
  rw [← split_word x] at h
  rw [← h, ← show T (xs 32 fun i => if x.getLsbD i then Tn i 1#32 else 0#32) = xs 32 fun i => T (if x.getLsbD i then Tn i 1#32 else 0#32) from Tn_xs 1 32 _, ← split_word x]
theorem par_comb : ∀ (ds : List Bool) (s : BitVec 32), par (comb s ds) = (par s ^^ decide (ds.count true % 2 = 1))
  | [], s => by simp [comb]
  | d :: ds, s => by
    show par (comb (stepR s d) ds) = _
    rw [par_comb ds, stepR_T, par_T, par_xor]
    cases d
    · have : par (onBit false) = false := by decide +kernel
      simp [this]
    · have : par (onBit true) = true := by decide +kernel
      rw [this, List.count_cons_self]
      rcases Nat.mod_two_eq_zero_or_one (ds.count true) with h | h
      · have h2 : (ds.count true + 1) % 2 = 1 := by omega
        simp [h, h2]
      · have h2 : (ds.count true + 1) % 2 = 0 := by omega
        simp [h, h2]

/-- A row of bits that comes to nothing has no ones, or four at least. -/
theorem count_four (ds : List Bool) (hl : ds.length < 999999) (h : comb 0#32 ds = 0#32) : ds.count true = 0 ∨ 4 ≤ ds.count true := by
  have hp := par_comb ds 0#32
  rw [h] at hp
  have hp0 : par 0#32 = false := by decide +kernel
  rw [hp0] at hp
  have he : ds.count true % 2 = 0 := by
    rcases Nat.mod_two_eq_zero_or_one (ds.count true) with h | h
    · exact h
    · rw [h] at hp; simp at hp
  rcases first_on ds with ⟨n, rfl⟩ | ⟨i, es, rfl⟩
  · left; simp [List.count_replicate]
  · rcases first_on es with ⟨n, rfl⟩ | ⟨j, fs, rfl⟩
    · exact absurd h (comb_one i n)
    · rcases first_on fs with ⟨n, rfl⟩ | ⟨m, gs, rfl⟩
      · refine absurd h (comb_two i j n ?_)
        simp at hl
        omega
      · right
        have hc : (List.replicate i false ++ true :: (List.replicate j false ++ true :: (List.replicate m false ++ true :: gs))).count true = gs.count true + 3 := by
          simp [List.count_append, List.count_replicate]
        rw [hc] at he ⊢
        omega

/-- Bits at a word's top. -/
def place : List Bool → BitVec 32
  | [] => 0#32
  | b :: es => onBit b ^^^ (place es >>> 1)
theorem place_low : ∀ (es : List Bool) (j : Nat), j + es.length < 32 → (place es).getLsbD j = false
  | [], j, _ => by simp [place]
  | b :: es, j, h => by
    simp only [List.length_cons] at h
    unfold place
    rw [BitVec.getLsbD_xor, BitVec.getLsbD_ushiftRight, place_low es (1 + j) (by omega)]
    have : (onBit b).getLsbD j = false := by
      cases b
      · simp [onBit]
      · unfold onBit u31
        simp only [if_true]
        have hj : j < 31 := by omega
        have hh : ∀ i : Fin 31, (0x80000000#32).getLsbD i.1 = false := by decide
        exact hh ⟨j, hj⟩
    rw [this]
    rfl
theorem T_half (x : BitVec 32) (h : x.getLsbD 0 = false) : T (x >>> 1) = x := by
  unfold T
  have hm : (x >>> 1).msb = false := by rw [BitVec.msb_eq_getLsbD_last]; simp
  rw [hm]
  apply BitVec.eq_of_getLsbD_eq
  intro i hi
  simp only [Bool.false_eq_true, if_false, BitVec.xor_zero, BitVec.getLsbD_shiftLeft, BitVec.getLsbD_ushiftRight]
  by_cases e : i = 0
  · subst e; rw [h]; rfl
  · have d1 : decide (i < 32) = true := by simpa using hi
    have d2 : decide (i < 1) = false := by rw [decide_eq_false_iff_not]; omega
    rw [show 1 + (i - 1) = i by omega, d1, d2]
    rfl
theorem comb_place : ∀ (es : List Bool) (s : BitVec 32), es.length ≤ 32 → comb s es = Tn es.length (s ^^^ place es)
  | [], s, _ => by simp [comb, place, Tn]
  | b :: es, s, h => by
    simp only [List.length_cons] at h
    show comb (stepR s b) es = Tn es.length (T (s ^^^ place (b :: es)))
    rw [comb_place es _ (by omega), stepR_T]
    congr 1
    have h1 : T (place es >>> 1) = place es := T_half _ (place_low es 0 (by omega))
    show _ = T (s ^^^ (onBit b ^^^ (place es >>> 1)))
    rw [← BitVec.xor_assoc, T_xor (s ^^^ onBit b), h1]
theorem place_zero : ∀ (es : List Bool), es.length ≤ 32 → place es = 0#32 → ∀ b ∈ es, b = false
  | [], _, _, _, hb => by cases hb
  | b :: es, h, hp, c, hc => by
    simp only [List.length_cons] at h
    have hb : b = false := by
      have := congrArg (fun t => t.getLsbD 31) hp
      unfold place at this
      simp only [BitVec.getLsbD_xor, BitVec.getLsbD_ushiftRight] at this
      have h2 : (place es).getLsbD (1 + 31) = false := by simp
      rw [h2] at this
      cases b
      · rfl
      · revert this; decide
    subst hb
    have hp2 : place es >>> 1 = 0#32 := by
      unfold place at hp
      simpa [onBit] using hp
    have hp3 : place es = 0#32 := by
      rw [← T_half (place es) (place_low es 0 (by omega)), hp2, T_zero]
    rcases List.mem_cons.1 hc with rfl | hc
    · rfl
    · exact place_zero es (by omega) hp3 c hc
/-- What comes to nothing does not stand within 32 bits. -/
theorem span_wide (i : Nat) (es : List Bool) (h : comb 0#32 (List.replicate i false ++ true :: es) = 0#32) : ∃ q, 31 ≤ q ∧ es[q]? = some true := by
  rw [comb_append, comb_off, Tn_zero] at h
  rcases Nat.lt_or_ge es.length 32 with hl | hl
  · have h1 := comb_place (true :: es) 0#32 (by simp only [List.length_cons]; omega)
    rw [h] at h1
    have h2 : Tn (true :: es).length (0#32 ^^^ place (true :: es)) = Tn (true :: es).length 0#32 := by rw [← h1, Tn_zero]
    have h3 := Tn_inj _ h2
    rw [BitVec.zero_xor] at h3
    exact absurd (place_zero (true :: es) (by simp only [List.length_cons]; omega) h3 true (by simp)) (by simp)
  · rcases first_on (es.drop 31) with ⟨n, hn⟩ | ⟨j, fs, hj⟩
    · exfalso
      have e : true :: es = (true :: es.take 31) ++ List.replicate n false := by rw [← hn, List.cons_append, List.take_append_drop]
      rw [e, comb_append, comb_off] at h
      have h1 : comb 0#32 (true :: es.take 31) = 0#32 := Tn_inj n (by rw [h, Tn_zero])
      have hlen : (true :: es.take 31).length ≤ 32 := by simp; omega
      rw [comb_place _ _ hlen] at h1
      have h3 := Tn_inj _ (h1.trans (Tn_zero _).symm)
      rw [BitVec.zero_xor] at h3
      exact absurd (place_zero _ hlen h3 true (by simp)) (by simp)
    · refine ⟨31 + j, by omega, ?_⟩
      rw [← List.getElem?_drop, hj, List.getElem?_append_right (by simp)]
      simp
end Crc
end Go.Proofs.Ytgnegofkffiopaa
