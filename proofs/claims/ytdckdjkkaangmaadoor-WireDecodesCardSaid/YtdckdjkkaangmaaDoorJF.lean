/- Joined texts: WireU, WireV, WireW, WireX, WireY, WireZ, WireA2, WireB2. -/
import Derived.Test.YtdckdjkkaangmaaDoorWireS
import Derived.Test.YtdckdjkkaangmaaDoorWireT
/- No kind: no fields. -/
namespace Go.Proofs.YtdckdjkkaangmaaDoor
set_option linter.unusedVariables false
set_option linter.unusedSimpArgs false
set_option maxRecDepth 100000
open Go.RowKit

set_option maxHeartbeats 4000000 in
theorem fields_none {w : World} {pb : Nat} {T : TypeId} {cs : Array Value} (v : Value) (h : Blk w pb T cs) {k : Int} (hk : cs[0]? = some (.int .i64 k)) (h1 : k ≠ 1) (h2 : k ≠ 2) (h3 : k ≠ 3) (h4 : k ≠ 4) (h5 : k ≠ 5) (h6 : k ≠ 6) :
    Calls Tryd.prog 22 #[v, pc pb 0] w fun e w' => e = .returned (.bool false) ∧ w = w' := by
  have k0 := (h.cell 0).trans hk
  have f1 : (k == 1) = false := by simpa using h1
  have f2 : (k == 2) = false := by simpa using h2
  have f3 : (k == 3) = false := by simpa using h3
  have f4 : (k == 4) = false := by simpa using h4
  have f5 : (k == 5) = false := by simpa using h5
  have f6 : (k == 6) = false := by simpa using h6
  unfold pc
  clear h hk h1 h2 h3 h4 h5 h6
  go_enter Tryd.func22, Tryd.ntmps22
  go_wp2_with fail
  go_ret
  exact ⟨rfl, rfl⟩
end Go.Proofs.YtdckdjkkaangmaaDoor

/- Has a packet more than is gone through? -/
namespace Go.Proofs.YtdckdjkkaangmaaDoor
set_option linter.unusedVariables false
set_option linter.unusedSimpArgs false
set_option maxRecDepth 100000
open Go.RowKit

set_option maxHeartbeats 4000000 in
theorem long_any {w : World} {cs : Array Value} {n : Nat → Nat} {m : Nat} (ht : ∀ o ∈ txtOffs, ∃ A c, cs[o]? = some (.slice A (n o) c) ∧ n o ≤ 140737488355328) (hk : ∃ A c, cs[28]? = some (.slice A m c) ∧ m ≤ 140737488355328) :
    Calls Tryd.prog 12 #[.agg cs] w fun e w' => e = .returned (.bool (decide (40000 < n 6 + n 18 + n 27 + n 37 + n 46 + n 55 + 8 * m))) ∧ Below w.heap.size w w' := by
  have kb := Blk.new w 44 cs
  obtain ⟨A6, c6, e6, l6⟩ := ht 6 (by decide)
  have a6 := (kb.cell 6).trans e6
  obtain ⟨A18, c18, e18, l18⟩ := ht 18 (by decide)
  have a18 := (kb.cell 18).trans e18
  obtain ⟨A27, c27, e27, l27⟩ := ht 27 (by decide)
  have a27 := (kb.cell 27).trans e27
  obtain ⟨A37, c37, e37, l37⟩ := ht 37 (by decide)
  have a37 := (kb.cell 37).trans e37
  obtain ⟨A46, c46, e46, l46⟩ := ht 46 (by decide)
  have a46 := (kb.cell 46).trans e46
  obtain ⟨A55, c55, e55, l55⟩ := ht 55 (by decide)
  have a55 := (kb.cell 55).trans e55
  obtain ⟨A28, c28, e28, l28⟩ := hk
  have a28 := (kb.cell 28).trans e28
  generalize n 6 = n6 at *
  generalize n 18 = n18 at *
  generalize n 27 = n27 at *
  generalize n 37 = n37 at *
  generalize n 46 = n46 at *
  generalize n 55 = n55 at *
  have w0 : IntKind.i64.wrap ((n6 : Int) + (n18 : Int)) = ((n6 : Int) + (n18 : Int)) := by rw [IntKind.wrap_i64]; omega
  have w1 : IntKind.i64.wrap (((n6 : Int) + (n18 : Int)) + (n27 : Int)) = (((n6 : Int) + (n18 : Int)) + (n27 : Int)) := by rw [IntKind.wrap_i64]; omega
  have w2 : IntKind.i64.wrap ((((n6 : Int) + (n18 : Int)) + (n27 : Int)) + (n37 : Int)) = ((((n6 : Int) + (n18 : Int)) + (n27 : Int)) + (n37 : Int)) := by rw [IntKind.wrap_i64]; omega
  have w3 : IntKind.i64.wrap (((((n6 : Int) + (n18 : Int)) + (n27 : Int)) + (n37 : Int)) + (n46 : Int)) = (((((n6 : Int) + (n18 : Int)) + (n27 : Int)) + (n37 : Int)) + (n46 : Int)) := by rw [IntKind.wrap_i64]; omega
  have w4 : IntKind.i64.wrap ((((((n6 : Int) + (n18 : Int)) + (n27 : Int)) + (n37 : Int)) + (n46 : Int)) + (n55 : Int)) = ((((((n6 : Int) + (n18 : Int)) + (n27 : Int)) + (n37 : Int)) + (n46 : Int)) + (n55 : Int)) := by rw [IntKind.wrap_i64]; omega
  have w5 : IntKind.i64.wrap (8 * (m : Int)) = 8 * (m : Int) := by rw [IntKind.wrap_i64]; omega
  have w6 : IntKind.i64.wrap (((((((n6 : Int) + (n18 : Int)) + (n27 : Int)) + (n37 : Int)) + (n46 : Int)) + (n55 : Int)) + 8 * (m : Int)) = ((((((n6 : Int) + (n18 : Int)) + (n27 : Int)) + (n37 : Int)) + (n46 : Int)) + (n55 : Int)) + 8 * (m : Int) := by rw [IntKind.wrap_i64]; omega
  have hb := below_new w (.cells cs 44)
  clear kb ht e6 e18 e27 e37 e46 e55 e28 l6 l18 l27 l37 l46 l55 l28
  go_enter Tryd.func12, Tryd.ntmps12
  go_wp2_with fail
  go_ret
  exact ⟨ret_bool (decide_eq_decide.2 (by omega)), hb⟩
end Go.Proofs.YtdckdjkkaangmaaDoor

/- What is read is a packet. -/
namespace Go.Proofs.YtdckdjkkaangmaaDoor
set_option linter.unusedVariables false
set_option linter.unusedSimpArgs false
set_option maxRecDepth 100000
open Go.RowKit

/-- Cells of a packet without a text, without a list. -/
structure Good (cs : Array Value) : Prop where
  size : cs.size = 56
  kind : ∃ k : Int, cs[0]? = some (.int .i64 k) ∧ -9223372036854775808 ≤ k ∧ k < 9223372036854775808
  ints : ∀ o ∈ intOffs, IsInt cs o
  nums : ∀ o ∈ numOffs, IsNum cs o
  txts : ∀ o ∈ txtOffs, cs[o]? = some (.slice none 0 0)
  keep : cs[28]? = some (.slice none 0 0)
theorem offs_apart : (∀ o ∈ numOffs, o ∉ intOffs ∧ o ∉ txtOffs ∧ o ≠ 28 ∧ o ≠ 0 ∧ o < 56) ∧ ∀ o ∈ intOffs, o ∉ numOffs ∧ o ∉ txtOffs ∧ o ≠ 28 ∧ o ≠ 0 ∧ o < 56 := by
  refine ⟨?_, ?_⟩ <;> decide
theorem set_get {cs : Array Value} {o i : Nat} {v : Value} (ho : o < cs.size) : (cs.setIfInBounds o v)[i]? = if i = o then some v else cs[i]? := by
  rw [Array.getElem?_setIfInBounds]
  by_cases h : o = i
  · rw [if_pos h, if_pos h.symm, if_pos ho]
  · rw [if_neg h, if_neg (fun e => h e.symm)]
theorem Good.zero {k : Int} (h1 : -9223372036854775808 ≤ k) (h2 : k < 9223372036854775808) : Good (zPk.setIfInBounds 0 (.int .i64 k)) := by
  have hz : 0 < zPk.size := by rw [zPk_size]; omega
  refine ⟨by rw [Array.size_setIfInBounds]; rfl, ⟨k, by rw [set_get hz, if_pos rfl], h1, h2⟩, fun o ho => ?_, fun o ho => ?_, fun o ho => ?_, ?_⟩
  · exact ⟨0, by rw [set_get hz, if_neg (by have := (offs_lt.1 o ho).1; omega)]; exact zPk_int o ho, zlo, zhi⟩
  · exact ⟨0, by rw [set_get hz, if_neg (by have := (offs_lt.2.1 o ho).1; omega)]; exact zPk_num o ho, Int.le_refl _, zhu⟩
  · rw [set_get hz, if_neg (by have := (offs_lt.2.2 o ho).1; omega)]
    exact zPk_txt o ho
  · rw [set_get hz, if_neg (by omega)]
    rfl
theorem rInt_lt (l : List UInt8) (s : Nat × Bool) : (rInt l s).1 ≤ 255 := by
  unfold rInt
  split
  · simp
  · omega
theorem Good.num {cs : Array Value} (h : Good cs) {o : Nat} (ho : o ∈ numOffs) {x : Nat} (hx : x < 18446744073709551616) : Good (cs.setIfInBounds o (.int .u64 (x : Int))) := by
  obtain ⟨a1, a2, a3, a4, a5⟩ := offs_apart.1 o ho
  have hs : o < cs.size := by rw [h.size]; exact a5
  refine ⟨by rw [Array.size_setIfInBounds]; exact h.size, ?_, fun i hi => ?_, fun i hi => ?_, fun i hi => ?_, ?_⟩
  · rw [set_get hs, if_neg (fun e => a4 e.symm)]
    exact h.kind
  · unfold IsInt
    rw [set_get hs, if_neg (show ¬ i = o from fun e => a1 (e ▸ hi))]
    exact h.ints i hi
  · unfold IsNum
    rw [set_get hs]
    by_cases e : i = o
    · rw [if_pos e]
      exact ⟨x, rfl, by omega, by omega⟩
    · rw [if_neg e]
      exact h.nums i hi
  · rw [set_get hs, if_neg (show ¬ i = o from fun e => a2 (e ▸ hi))]
    exact h.txts i hi
  · rw [set_get hs, if_neg (fun e => a3 e.symm)]
    exact h.keep
theorem Good.int {cs : Array Value} (h : Good cs) {o : Nat} (ho : o ∈ intOffs) {x : Nat} (hx : x ≤ 255) : Good (cs.setIfInBounds o (.int .i64 (x : Int))) := by
  obtain ⟨a1, a2, a3, a4, a5⟩ := offs_apart.2 o ho
  have hs : o < cs.size := by rw [h.size]; exact a5
  refine ⟨by rw [Array.size_setIfInBounds]; exact h.size, ?_, fun i hi => ?_, fun i hi => ?_, fun i hi => ?_, ?_⟩
  · rw [set_get hs, if_neg (fun e => a4 e.symm)]
    exact h.kind
  · unfold IsInt
    rw [set_get hs]
    by_cases e : i = o
    · rw [if_pos e]
      exact ⟨x, rfl, by omega, by omega⟩
    · rw [if_neg e]
      exact h.ints i hi
  · unfold IsNum
    rw [set_get hs, if_neg (show ¬ i = o from fun e => a1 (e ▸ hi))]
    exact h.nums i hi
  · rw [set_get hs, if_neg (show ¬ i = o from fun e => a2 (e ▸ hi))]
    exact h.txts i hi
  · rw [set_get hs, if_neg (fun e => a3 e.symm)]
    exact h.keep
theorem Good.fNum {l : List UInt8} {S : RS} (h : Good S.1) {o : Nat} (ho : o ∈ numOffs) : Good (fNum l S o).1 := h.num ho (rUint_lt l S.2)
theorem Good.fInt {l : List UInt8} {S : RS} (h : Good S.1) {o : Nat} (ho : o ∈ intOffs) : Good (fInt l S o).1 := h.int ho (rInt_lt l S.2)
theorem Good.fPl {l : List UInt8} {S : RS} (h : Good S.1) {o : Nat} (h1 : o ∈ intOffs) (h2 : o + 1 ∈ numOffs) : Good (fPl l S o).1 := (h.fInt h1).fNum h2
theorem Good.fBal {l : List UInt8} {S : RS} (h : Good S.1) {o : Nat} (h1 : o ∈ numOffs) (h2 : o + 1 ∈ intOffs) (h3 : o + 2 ∈ numOffs) : Good (fBal l S o).1 := ((h.fNum h1).fInt h2).fNum h3
theorem good_ask {l : List UInt8} {S : RS} (h : Good S.1) : Good (askR l S).1 := ((h.fInt (o := 1) (by decide)).fInt (o := 2) (by decide)).fBal (o := 3) (by decide) (by decide) (by decide)
theorem good_says {l : List UInt8} {S : RS} (h : Good S.1) : Good (saysR l S).1 := ((((h.fInt (o := 7) (by decide)).fInt (o := 8) (by decide)).fBal (o := 9) (by decide) (by decide) (by decide)).fBal (o := 12) (by decide) (by decide) (by decide)).fBal (o := 15) (by decide) (by decide) (by decide)
theorem good_req {l : List UInt8} {S : RS} (h : Good S.1) : Good (reqR l S).1 := ((((((h.fPl (o := 19) (by decide) (by decide)).fInt (o := 21) (by decide)).fNum (o := 22) (by decide)).fNum (o := 23) (by decide)).fNum (o := 24) (by decide)).fNum (o := 25) (by decide)).fInt (o := 26) (by decide)
theorem good_resp {l : List UInt8} {S : RS} (h : Good S.1) : Good (respR l S).1 := ((((((h.fPl (o := 29) (by decide) (by decide)).fInt (o := 31) (by decide)).fInt (o := 32) (by decide)).fNum (o := 33) (by decide)).fNum (o := 34) (by decide)).fNum (o := 35) (by decide)).fNum (o := 36) (by decide)
theorem good_call {l : List UInt8} {S : RS} (h : Good S.1) : Good (callR l S).1 := (((((((h.fInt (o := 38) (by decide)).fNum (o := 39) (by decide)).fNum (o := 40) (by decide)).fInt (o := 41) (by decide)).fInt (o := 42) (by decide)).fInt (o := 43) (by decide)).fNum (o := 44) (by decide)).fNum (o := 45) (by decide)
theorem good_reply {l : List UInt8} {S : RS} (h : Good S.1) : Good (replyR l S).1 := (((((((h.fInt (o := 47) (by decide)).fNum (o := 48) (by decide)).fNum (o := 49) (by decide)).fInt (o := 50) (by decide)).fNum (o := 51) (by decide)).fInt (o := 52) (by decide)).fInt (o := 53) (by decide)).fNum (o := 54) (by decide)
end Go.Proofs.YtdckdjkkaangmaaDoor

/- What is read is a packet: its text. -/
namespace Go.Proofs.YtdckdjkkaangmaaDoor
set_option linter.unusedVariables false
set_option linter.unusedSimpArgs false
set_option maxRecDepth 100000
open Go.RowKit

theorem txt_apart : ∀ o ∈ txtOffs, o ∉ intOffs ∧ o ∉ numOffs ∧ o ≠ 28 ∧ o ≠ 0 ∧ o < 56 := by decide
/-- The packet that was read: numbers out of the cells, one text. -/
def readPk (cs : Array Value) (ot : Nat) (b : List UInt8) (ks : List Nat) : Pk := { n := cellN cs, t := fun o => if o = ot then b else [], k := ks }
theorem cellN_of {cs : Array Value} {o : Nat} {k : IntKind} {n : Int} (h : cs[o]? = some (.int k n)) : cellN cs o = n := by unfold cellN; rw [h]
theorem Good.pkv {w : World} {cs : Array Value} (h : Good cs) {ot : Nat} (hot : ot ∈ txtOffs) {A : Option Addr} {b : List UInt8} {c : Nat} (hb : Bytes w A b) (h1 : b.length ≤ c) (h2 : c ≤ 9223372036854775807) (h3 : b.length ≤ 1000000) :
    PkV w (cs.setIfInBounds ot (.slice A b.length c)) (readPk cs ot b []) := by
  obtain ⟨a1, a2, a3, a4, a5⟩ := txt_apart ot hot
  have hs : ot < cs.size := by rw [h.size]; exact a5
  refine ⟨by rw [Array.size_setIfInBounds]; exact h.size, ?_, fun i hi => ?_, fun i hi => ?_, fun i hi => ?_, ?_, (fun x hx => by cases hx), fun A n c e ad ea => ?_⟩
  · obtain ⟨k, hk, hk2⟩ := h.kind
    rw [set_get hs, if_neg (fun e => a4 e.symm)]
    simp only [readPk, cellN_of hk]
    exact ⟨hk, hk2⟩
  · obtain ⟨n, hn, hn2⟩ := h.ints i hi
    rw [set_get hs, if_neg (show ¬ i = ot from fun e => a1 (e ▸ hi))]
    simp only [readPk, cellN_of hn]
    exact ⟨hn, hn2⟩
  · obtain ⟨n, hn, hn2⟩ := h.nums i hi
    rw [set_get hs, if_neg (show ¬ i = ot from fun e => a2 (e ▸ hi))]
    simp only [readPk, cellN_of hn]
    exact ⟨hn, hn2⟩
  · rw [set_get hs]
    simp only [readPk]
    by_cases e : i = ot
    · rw [if_pos e, if_pos e]
      exact ⟨A, c, rfl, hb, h1, h2, h3⟩
    · rw [if_neg e, if_neg e]
      exact ⟨none, 0, h.txts i hi, Reads.nil_ _ _ _, Nat.le_refl _, by decide, Nat.zero_le _⟩
  · rw [set_get hs, if_neg (fun e => a3 e.symm)]
    exact ⟨none, 0, h.keep, Reads.nil_ _ _ _, Nat.le_refl _, by decide, Nat.zero_le _⟩
  · rw [set_get hs, if_neg (fun e => a3 e.symm), h.keep] at e
    injection e with e
    injection e with e
    rw [ea] at e
    cases e
theorem rMany_lt (l : List UInt8) : ∀ (n : Nat) (s : Nat × Bool), ∀ x ∈ (rMany l n s).1, x < 18446744073709551616
  | 0, _, x, hx => by cases hx
  | n + 1, s, x, hx => by
    simp only [rMany, List.mem_append, List.mem_singleton] at hx
    rcases hx with hx | rfl
    · exact rMany_lt l n s x hx
    · exact rUint_lt _ _
theorem rList_lt (l : List UInt8) (s : Nat × Bool) : ∀ x ∈ (rList l s).1, x < 18446744073709551616 := by
  unfold rList
  split
  · intro x hx; cases hx
  · exact rMany_lt l _ _
theorem rList_len (l : List UInt8) (s : Nat × Bool) : (rList l s).1.length ≤ 64 := by
  unfold rList
  split
  · simp
  · rw [rMany_len]; omega
/-- With a list. -/
theorem Good.pkvk {w : World} {cs : Array Value} (h : Good cs) {ot : Nat} (hot : ot ∈ txtOffs) {A A2 : Option Addr} {b : List UInt8} {c c2 : Nat} {ks : List Nat} (hb : Bytes w A b) (h1 : b.length ≤ c) (h2 : c ≤ 9223372036854775807) (h3 : b.length ≤ 1000000)
    (hk : Keeps w A2 ks) (kb : ∀ ad, A2 = some ad → ad.block < w.heap.size) (k1 : ks.length ≤ c2) (k2 : c2 ≤ 9223372036854775807) (k3 : ks.length ≤ 1000000) (k4 : ∀ x ∈ ks, x < 18446744073709551616) :
    PkV w ((cs.setIfInBounds ot (.slice A b.length c)).setIfInBounds 28 (.slice A2 ks.length c2)) (readPk cs ot b ks) := by
  have p := h.pkv hot hb h1 h2 h3
  have hs : 28 < (cs.setIfInBounds ot (.slice A b.length c)).size := by rw [p.size]; omega
  have d : ∀ o, o ∈ intOffs ∨ o ∈ numOffs ∨ o ∈ txtOffs → o ≠ 28 := fun o ho => by
    rcases ho with ho | ho | ho
    · exact (offs_apart.2 o ho).2.2.1
    · exact (offs_apart.1 o ho).2.2.1
    · exact (txt_apart o ho).2.2.1
  refine ⟨by rw [Array.size_setIfInBounds]; exact p.size, ?_, fun i hi => ?_, fun i hi => ?_, fun i hi => ?_, ?_, k4, fun A n c e ad ea => ?_⟩
  · rw [set_get hs, if_neg (by omega)]
    exact p.kind
  · rw [set_get hs, if_neg (d i (.inl hi))]
    exact p.ints i hi
  · rw [set_get hs, if_neg (d i (.inr (.inl hi)))]
    exact p.nums i hi
  · rw [set_get hs, if_neg (d i (.inr (.inr hi)))]
    exact p.txts i hi
  · rw [set_get hs, if_pos rfl]
    exact ⟨A2, c2, rfl, hk, k1, k2, k3⟩
  · rw [set_get hs, if_pos rfl] at e
    injection e with e
    injection e with e
    exact kb ad (e.trans ea)
end Go.Proofs.YtdckdjkkaangmaaDoor

/- A packet's bytes and back: plain. -/
namespace Go.Proofs.YtdckdjkkaangmaaDoor
set_option linter.unusedVariables false
set_option linter.unusedSimpArgs false
set_option maxRecDepth 100000
open Go.RowKit

/-- A field: a number (true) or a small one, and its place. -/
abbrev Fd := Bool × Nat
def schema (k : Int) : List Fd :=
  if k = 1 then [(false, 1), (false, 2), (true, 3), (false, 4), (true, 5)]
  else if k = 2 then [(false, 7), (false, 8), (true, 9), (false, 10), (true, 11), (true, 12), (false, 13), (true, 14), (true, 15), (false, 16), (true, 17)]
  else if k = 3 then [(false, 19), (true, 20), (false, 21), (true, 22), (true, 23), (true, 24), (true, 25), (false, 26)]
  else if k = 4 then [(false, 29), (true, 30), (false, 31), (false, 32), (true, 33), (true, 34), (true, 35), (true, 36)]
  else if k = 5 then [(false, 38), (true, 39), (true, 40), (false, 41), (false, 42), (false, 43), (true, 44), (true, 45)]
  else if k = 6 then [(false, 47), (true, 48), (true, 49), (false, 50), (true, 51), (false, 52), (false, 53), (true, 54)] else []
def txtO (k : Int) : Nat := if k = 1 then 6 else if k = 2 then 18 else if k = 3 then 27 else if k = 4 then 37 else if k = 5 then 46 else 55
def rF (t : List UInt8) (S : RS) (f : Fd) : RS := match f.1 with | true => fNum t S f.2 | false => fInt t S f.2
def gF (n : Nat → Int) (S : WS) (f : Fd) : WS := match f.1 with | true => (S.1 ++ short (n f.2).toNat, S.2) | false => (S.1 ++ short (max (n f.2) 0).toNat, S.2 || decide (n f.2 < 0) || decide (255 < n f.2))
theorem askR_eq (t : List UInt8) (S : RS) : askR t S = (schema 1).foldl (rF t) S := rfl
theorem saysR_eq (t : List UInt8) (S : RS) : saysR t S = (schema 2).foldl (rF t) S := rfl
theorem reqR_eq (t : List UInt8) (S : RS) : reqR t S = (schema 3).foldl (rF t) S := rfl
theorem respR_eq (t : List UInt8) (S : RS) : respR t S = (schema 4).foldl (rF t) S := rfl
theorem callR_eq (t : List UInt8) (S : RS) : callR t S = (schema 5).foldl (rF t) S := rfl
theorem replyR_eq (t : List UInt8) (S : RS) : replyR t S = (schema 6).foldl (rF t) S := rfl
theorem askW_eq (cs : Array Value) (S : WS) : askW cs S = (schema 1).foldl (gF (cellN cs)) S := rfl
theorem saysW_eq (cs : Array Value) (S : WS) : saysW cs S = (schema 2).foldl (gF (cellN cs)) S := rfl
theorem reqW_eq (cs : Array Value) (S : WS) : reqW cs S = (schema 3).foldl (gF (cellN cs)) S := rfl
theorem respW_eq (cs : Array Value) (S : WS) : respW cs S = (schema 4).foldl (gF (cellN cs)) S := rfl
theorem callW_eq (cs : Array Value) (S : WS) : callW cs S = (schema 5).foldl (gF (cellN cs)) S := rfl
theorem replyW_eq (cs : Array Value) (S : WS) : replyW cs S = (schema 6).foldl (gF (cellN cs)) S := rfl
/-- What is decoded of bytes that were opened. -/
def decK (t : List UInt8) : Nat := (stepP 0 0 t false).1
def decS (t : List UInt8) : RS := (schema (decK t)).foldl (rF t) (zPk.setIfInBounds 0 (.int .i64 (decK t : Int)), ((stepP 0 0 t false).2.2.1, (stepP 0 0 t false).2.2.2))
def decX (t : List UInt8) : List UInt8 × (Nat × Bool) := rText t (decS t).2
def decL (t : List UInt8) : List Nat × (Nat × Bool) := if decK t = 3 then rList t (decX t).2 else ([], (decX t).2)
def decT (t : List UInt8) : Option Pk :=
  if 1 ≤ decK t ∧ decK t ≤ 6 then (if ((decL t).2.2 || decide ((decL t).2.1 < t.length)) = true then none else some (readPk (decS t).1 (txtO (decK t)) (decX t).1 (decL t).1)) else none
/-- A packet's bytes, and whether one of its numbers is too great. -/
def encS (P : Pk) : WS := gText (P.t (txtO (P.n 0))) ((schema (P.n 0)).foldl (gF P.n) ([UInt8.ofNat (P.n 0).toNat], false))
def enc (P : Pk) : WS := if P.n 0 = 3 then gList P.k (encS P) else encS P
/-- A packet may be, but for its length. -/
def OkP (P : Pk) : Prop := 1 ≤ P.n 0 ∧ P.n 0 ≤ 6 ∧ (enc P).2 = false ∧ PkEq (alonePk P) P
instance (P : Pk) : Decidable (OkP P) := by unfold OkP; infer_instance
/-- A field's bytes. -/
def wb (n : Nat → Int) (f : Fd) : List UInt8 := match f.1 with | true => short (n f.2).toNat | false => short (max (n f.2) 0).toNat
def badF (n : Nat → Int) (f : Fd) : Bool := match f.1 with | true => false | false => decide (n f.2 < 0) || decide (255 < n f.2)
theorem gF_eq (n : Nat → Int) (S : WS) (f : Fd) : gF n S f = (S.1 ++ wb n f, S.2 || badF n f) := by
  obtain ⟨b, o⟩ := f
  cases b
  · simp only [gF, wb, badF, Bool.or_assoc]
  · simp only [gF, wb, badF, Bool.or_false]
theorem gF_fold (n : Nat → Int) : ∀ (fs : List Fd) (S : WS), fs.foldl (gF n) S = (S.1 ++ fs.flatMap (wb n), S.2 || fs.any (badF n))
  | [], S => by simp
  | f :: fs, S => by
    rw [List.foldl_cons, gF_fold n fs, gF_eq]
    simp [Bool.or_assoc]
theorem gF_congr {n m : Nat → Int} : ∀ {fs : List Fd} (_ : ∀ f ∈ fs, n f.2 = m f.2) (S : WS), fs.foldl (gF n) S = fs.foldl (gF m) S
  | [], _, _ => rfl
  | f :: fs, h, S => by
    have h1 : gF n S f = gF m S f := by
      have := h f (List.mem_cons_self ..)
      obtain ⟨b, o⟩ := f
      cases b <;> simp only [gF] <;> simp only at this <;> rw [this]
    rw [List.foldl_cons, List.foldl_cons, h1]
    exact gF_congr (fun f hf => h f (List.mem_cons_of_mem _ hf)) _
/-- The numbers are of their sorts and small, as they are to be. -/
def FdOk (n : Nat → Int) (f : Fd) : Prop := match f.1 with | true => 0 ≤ n f.2 ∧ n f.2 < 18446744073709551616 | false => 0 ≤ n f.2 ∧ n f.2 ≤ 255
theorem rUint_some {t rest : List UInt8} {p x : Nat} (h : t.drop p = short x ++ rest) (hx : x < 18446744073709551616) : rUint t (p, false) = (x, (p + (short x).length, false)) := by
  have h1 := get_put (k := 2) (x := x) (b := []) (rest := rest) hx (by simp)
  have h2 : getP 2 0 (short x ++ rest) = some (x, [], (short x).length) := by
    have e : putP 2 x [] = short x := rfl
    rw [e] at h1
    exact h1
  unfold rUint
  simp only
  rw [h, stepP_some h2]
theorem rText_some {t rest b : List UInt8} {p : Nat} (h : t.drop p = short b.length ++ b ++ rest) (hb : b.length ≤ 16384) : rText t (p, false) = (b, (p + (short b.length ++ b).length, false)) := by
  have h2 : getP 3 16384 (short b.length ++ b ++ rest) = some (0, b, (short b.length ++ b).length) := by
    unfold getP
    simp only [if_true, show ¬ ((3 : Int) = 0) by decide, show ¬ ((3 : Int) = 1) by decide, show ¬ ((3 : Int) = 2) by decide, if_false, List.append_assoc]
    rw [num_whole b.length 0 (b ++ rest) (by omega) (by omega) (by omega), Option.bind_some, if_pos (by refine ⟨by decide, ?_, ?_⟩ <;> simp <;> omega)]
    simp
  unfold rText
  simp only
  rw [h, stepP_some h2]
theorem drop_step {t a b : List UInt8} {p : Nat} (h : t.drop p = a ++ b) : t.drop (p + a.length) = b := by
  rw [← List.drop_drop, h, List.drop_left]
def setF (n : Nat → Int) (cs : Array Value) (f : Fd) : Array Value := cs.setIfInBounds f.2 (.int (match f.1 with | true => .u64 | false => .i64) (n f.2))
theorem rF_some {n : Nat → Int} {t rest : List UInt8} {p : Nat} {f : Fd} {cs : Array Value} (h : t.drop p = wb n f ++ rest) (hf : FdOk n f) : rF t (cs, (p, false)) f = (setF n cs f, (p + (wb n f).length, false)) := by
  obtain ⟨b, o⟩ := f
  cases b
  · have hf : 0 ≤ n o ∧ n o ≤ 255 := hf
    have hw : wb n (false, o) = short (max (n o) 0).toNat := rfl
    rw [hw] at h ⊢
    have hx : ((max (n o) 0).toNat : Int) = n o := by omega
    have h1 := rUint_some h (by omega)
    have h2 : rInt t (p, false) = ((max (n o) 0).toNat, (p + (short (max (n o) 0).toNat).length, false)) := by
      unfold rInt
      rw [h1, if_neg (by simp only; omega)]
    simp only [rF, fInt, setF, h2, hx]
  · have hf : 0 ≤ n o ∧ n o < 18446744073709551616 := hf
    have hw : wb n (true, o) = short (n o).toNat := rfl
    rw [hw] at h ⊢
    have hx : ((n o).toNat : Int) = n o := by omega
    have h1 := rUint_some h (by omega)
    simp only [rF, fNum, setF, h1, hx]
theorem rF_fold {n : Nat → Int} {t : List UInt8} : ∀ (fs : List Fd) (rest : List UInt8) (p : Nat) (cs : Array Value) (_ : t.drop p = fs.flatMap (wb n) ++ rest) (_ : ∀ f ∈ fs, FdOk n f), fs.foldl (rF t) (cs, (p, false)) = (fs.foldl (setF n) cs, (p + (fs.flatMap (wb n)).length, false))
  | [], _, _, _, _, _ => rfl
  | f :: fs, rest, p, cs, h, hf => by
    rw [List.flatMap_cons, List.append_assoc] at h
    rw [List.foldl_cons, rF_some h (hf f (List.mem_cons_self ..)), rF_fold fs rest _ _ (drop_step h) fun g hg => hf g (List.mem_cons_of_mem _ hg)]
    simp only [List.foldl_cons, List.flatMap_cons, List.length_append, Nat.add_assoc]
theorem setF_fold (n : Nat → Int) : ∀ (fs : List Fd) (cs : Array Value) (o : Nat) (_ : o < cs.size) (_ : ∀ f ∈ fs, f.2 < cs.size), cellN (fs.foldl (setF n) cs) o = if o ∈ fs.map (·.2) then n o else cellN cs o
  | [], _, _, _, _ => by simp
  | f :: fs, cs, o, ho, hf => by
    have hs : (setF n cs f).size = cs.size := by unfold setF; rw [Array.size_setIfInBounds]
    rw [List.foldl_cons, setF_fold n fs _ o (by rw [hs]; exact ho) (fun g hg => by rw [hs]; exact hf g (List.mem_cons_of_mem _ hg))]
    by_cases h : o ∈ fs.map (·.2)
    · rw [if_pos h, if_pos (by rw [List.map_cons]; exact List.mem_cons_of_mem _ h)]
    · rw [if_neg h]
      have hff := hf f (List.mem_cons_self ..)
      unfold cellN setF
      rw [set_get hff]
      by_cases e : o = f.2
      · subst e
        rw [if_pos rfl, if_pos (by simp)]
      · rw [if_neg e, if_neg (by simp only [List.map_cons, List.mem_cons, not_or]; exact ⟨e, h⟩)]
theorem rMany_some {t : List UInt8} (xs : List Nat) (rest : List UInt8) (p : Nat) (h : t.drop p = xs.flatMap short ++ rest) (hx : ∀ x ∈ xs, x < 18446744073709551616) : ∀ k, k ≤ xs.length → rMany t k (p, false) = (xs.take k, (p + ((xs.take k).flatMap short).length, false))
  | 0, _ => by simp [rMany]
  | k + 1, hk => by
    have ih := rMany_some xs rest p h hx k (by omega)
    have e : xs = xs.take k ++ (xs[k] :: xs.drop (k + 1)) := by rw [← List.drop_eq_getElem_cons (by omega), List.take_append_drop]
    have h2 : t.drop p = (xs.take k).flatMap short ++ (short xs[k] ++ ((xs.drop (k + 1)).flatMap short ++ rest)) := by
      have hf : xs.flatMap short = (xs.take k).flatMap short ++ (short xs[k] ++ (xs.drop (k + 1)).flatMap short) := by
        have h9 : xs.flatMap short = (xs.take k ++ (xs[k] :: xs.drop (k + 1))).flatMap short := congrArg (fun l => l.flatMap short) e
        rw [List.flatMap_append, List.flatMap_cons] at h9
        exact h9
      rw [h, hf]
      simp only [List.append_assoc]
    have h3 := rUint_some (drop_step h2) (hx _ (List.getElem_mem (by omega)))
    simp only [rMany, ih, h3]
    rw [List.take_succ_eq_append_getElem (by omega)]
    simp only [List.flatMap_append, List.flatMap_cons, List.flatMap_nil, List.append_nil, List.length_append, Nat.add_assoc]
theorem rList_some {t rest : List UInt8} {xs : List Nat} {p : Nat} (h : t.drop p = short xs.length ++ xs.flatMap short ++ rest) (hl : xs.length ≤ 64) (hx : ∀ x ∈ xs, x < 18446744073709551616) : rList t (p, false) = (xs, (p + (short xs.length ++ xs.flatMap short).length, false)) := by
  rw [List.append_assoc] at h
  have h1 := rUint_some h (by omega)
  have h2 := rMany_some xs rest _ (drop_step h) hx xs.length (Nat.le_refl _)
  unfold rList
  simp only [h1]
  rw [if_neg (by omega), h2, List.take_length]
  simp only [List.length_append, Nat.add_assoc]
end Go.Proofs.YtdckdjkkaangmaaDoor

/- What was encoded is decoded, and what was decoded was encoded: plain. -/
namespace Go.Proofs.YtdckdjkkaangmaaDoor
set_option linter.unusedVariables false
set_option linter.unusedSimpArgs false
set_option maxRecDepth 100000
open Go.RowKit

theorem PkEq_iff (P Q : Pk) : PkEq P Q ↔ P.n 0 = Q.n 0 ∧ (∀ o ∈ intOffs, P.n o = Q.n o) ∧ (∀ o ∈ numOffs, P.n o = Q.n o) ∧ (∀ o ∈ txtOffs, P.t o = Q.t o) ∧ P.k = Q.k := by
  unfold PkEq intOffs numOffs txtOffs
  simp only [List.forall_mem_cons, List.not_mem_nil, false_imp_iff, implies_true, and_true]
  constructor
  · rintro ⟨h0, ⟨h1, h2, h3, h4, h5, h6⟩, ⟨⟨h7, h8, h9, h10, h11, h12, h13, h14, h15, h16, h17⟩, h18⟩, ⟨⟨h19, h20, h21, h22, h23, h24, h25, h26⟩, h27, h28⟩, ⟨⟨h29, h30, h31, h32, h33, h34, h35, h36⟩, h37⟩, ⟨⟨h38, h39, h40, h41, h42, h43, h44, h45⟩, h46⟩, ⟨⟨h47, h48, h49, h50, h51, h52, h53, h54⟩, h55⟩⟩
    exact ⟨h0, ⟨h1, h2, h4, h7, h8, h10, h13, h16, h19, h21, h26, h29, h31, h32, h38, h41, h42, h43, h47, h50, h52, h53⟩, ⟨h3, h5, h9, h11, h12, h14, h15, h17, h20, h22, h23, h24, h25, h30, h33, h34, h35, h36, h39, h40, h44, h45, h48, h49, h51, h54⟩, ⟨h6, h18, h27, h37, h46, h55⟩, h28⟩
  · rintro ⟨h0, ⟨h1, h2, h4, h7, h8, h10, h13, h16, h19, h21, h26, h29, h31, h32, h38, h41, h42, h43, h47, h50, h52, h53⟩, ⟨h3, h5, h9, h11, h12, h14, h15, h17, h20, h22, h23, h24, h25, h30, h33, h34, h35, h36, h39, h40, h44, h45, h48, h49, h51, h54⟩, ⟨h6, h18, h27, h37, h46, h55⟩, h28⟩
    exact ⟨h0, ⟨h1, h2, h3, h4, h5, h6⟩, ⟨⟨h7, h8, h9, h10, h11, h12, h13, h14, h15, h16, h17⟩, h18⟩, ⟨⟨h19, h20, h21, h22, h23, h24, h25, h26⟩, h27, h28⟩, ⟨⟨h29, h30, h31, h32, h33, h34, h35, h36⟩, h37⟩, ⟨⟨h38, h39, h40, h41, h42, h43, h44, h45⟩, h46⟩, ⟨⟨h47, h48, h49, h50, h51, h52, h53, h54⟩, h55⟩⟩
theorem PkEq.refl (P : Pk) : PkEq P P := (PkEq_iff P P).2 ⟨rfl, fun _ _ => rfl, fun _ _ => rfl, fun _ _ => rfl, rfl⟩
theorem PkEq.symm {P Q : Pk} (h : PkEq P Q) : PkEq Q P := by
  obtain ⟨h1, h2, h3, h4, h5⟩ := (PkEq_iff P Q).1 h
  exact (PkEq_iff Q P).2 ⟨h1.symm, fun o ho => (h2 o ho).symm, fun o ho => (h3 o ho).symm, fun o ho => (h4 o ho).symm, h5.symm⟩
theorem PkEq.trans {P Q R : Pk} (h : PkEq P Q) (h' : PkEq Q R) : PkEq P R := by
  obtain ⟨h1, h2, h3, h4, h5⟩ := (PkEq_iff P Q).1 h
  obtain ⟨k1, k2, k3, k4, k5⟩ := (PkEq_iff Q R).1 h'
  exact (PkEq_iff P R).2 ⟨h1.trans k1, fun o ho => (h2 o ho).trans (k2 o ho), fun o ho => (h3 o ho).trans (k3 o ho), fun o ho => (h4 o ho).trans (k4 o ho), h5.trans k5⟩
/-- A packet's numbers are of their sorts. -/
structure PkN (P : Pk) : Prop where
  ints : ∀ o ∈ intOffs, -9223372036854775808 ≤ P.n o ∧ P.n o < 9223372036854775808
  nums : ∀ o ∈ numOffs, 0 ≤ P.n o ∧ P.n o < 18446744073709551616
  keeps : ∀ x ∈ P.k, x < 18446744073709551616
theorem PkV.pkn {w : World} {cs : Array Value} {P : Pk} (h : PkV w cs P) : PkN P := ⟨fun o ho => (h.ints o ho).2, fun o ho => (h.nums o ho).2, h.keeps⟩
theorem six {k : Int} (h1 : 1 ≤ k) (h2 : k ≤ 6) : k = 1 ∨ k = 2 ∨ k = 3 ∨ k = 4 ∨ k = 5 ∨ k = 6 := by omega
theorem schema_sort {k : Int} (h1 : 1 ≤ k) (h2 : k ≤ 6) : ∀ f ∈ schema k, (f.1 = true ∧ f.2 ∈ numOffs) ∨ (f.1 = false ∧ f.2 ∈ intOffs) := by
  rcases six h1 h2 with rfl | rfl | rfl | rfl | rfl | rfl <;> decide
theorem schema_mem {k : Int} (h1 : 1 ≤ k) (h2 : k ≤ 6) : ∀ o ∈ intOffs ++ numOffs, (o ∈ (schema k).map (·.2) ↔ kLo k ≤ o ∧ o < kHi k) := by
  rcases six h1 h2 with rfl | rfl | rfl | rfl | rfl | rfl <;> decide
theorem schema_off {k : Int} (h1 : 1 ≤ k) (h2 : k ≤ 6) : ∀ f ∈ schema k, 0 < f.2 ∧ f.2 < 56 := by
  rcases six h1 h2 with rfl | rfl | rfl | rfl | rfl | rfl <;> decide
theorem txt_mem {k : Int} (h1 : 1 ≤ k) (h2 : k ≤ 6) : (∀ o ∈ txtOffs, (o = txtO k ↔ kLo k ≤ o ∧ o < kHi k)) ∧ txtO k ∈ txtOffs ∧ (k = 3 ↔ kLo k ≤ 28 ∧ 28 < kHi k) := by
  rcases six h1 h2 with rfl | rfl | rfl | rfl | rfl | rfl <;> decide
theorem zPk_cellN {o : Nat} (k : Int) (ho : o ∈ intOffs ++ numOffs) : cellN (zPk.setIfInBounds 0 (.int .i64 k)) o = 0 := by
  rcases List.mem_append.1 ho with h | h
  · obtain ⟨a1, a2⟩ := offs_lt.1 o h
    unfold cellN
    rw [set_get (by rw [zPk_size]; omega), if_neg (by omega), zPk_int o h]
  · obtain ⟨a1, a2⟩ := offs_lt.2.1 o h
    unfold cellN
    rw [set_get (by rw [zPk_size]; omega), if_neg (by omega), zPk_num o h]
theorem zPk_kind (k : Int) : cellN (zPk.setIfInBounds 0 (.int .i64 k)) 0 = k := by
  unfold cellN
  rw [set_get (by rw [zPk_size]; omega), if_pos rfl]
/-- The packet's bytes in one. -/
theorem enc_form (P : Pk) : (enc P).1 = UInt8.ofNat (P.n 0).toNat :: ((schema (P.n 0)).flatMap (wb P.n) ++ (short (P.t (txtO (P.n 0))).length ++ P.t (txtO (P.n 0)) ++ (if P.n 0 = 3 then short P.k.length ++ P.k.flatMap short else []))) := by
  unfold enc encS
  rw [gF_fold]
  by_cases h : P.n 0 = 3
  · rw [if_pos h, if_pos h]
    simp [gText, gList]
  · rw [if_neg h, if_neg h]
    simp [gText]
theorem enc_bad (P : Pk) : (enc P).2 = ((schema (P.n 0)).any (badF P.n) || (decide (P.n 0 = 3) && decide (64 < P.k.length))) := by
  unfold enc encS
  rw [gF_fold]
  by_cases h : P.n 0 = 3
  · rw [if_pos h]
    simp [gText, gList, h]
  · rw [if_neg h]
    simp [gText, h]
theorem fd_ok {P : Pk} (hN : PkN P) (h1 : 1 ≤ P.n 0) (h2 : P.n 0 ≤ 6) (hb : (schema (P.n 0)).any (badF P.n) = false) : ∀ f ∈ schema (P.n 0), FdOk P.n f := by
  intro f hf
  have hs := schema_sort h1 h2 f hf
  have hB := List.any_eq_false.1 hb f hf
  obtain ⟨b, o⟩ := f
  cases b
  · have hB : ¬ (decide (P.n o < 0) || decide (255 < P.n o)) = true := hB
    simp only [Bool.or_eq_true, decide_eq_true_eq] at hB
    show 0 ≤ P.n o ∧ P.n o ≤ 255
    omega
  · rcases hs with hs | hs
    · exact hN.nums o hs.2
    · cases hs.1
theorem dec_enc {P : Pk} (hN : PkN P) (h : OkP P) (hl : (enc P).1.length ≤ 16384) : ∃ Q, decT (enc P).1 = some Q ∧ PkEq Q P := by
  obtain ⟨h1, h2, h3, h4⟩ := h
  have hf := enc_form P
  rw [enc_bad, Bool.or_eq_false_iff] at h3
  have hok := fd_ok hN h1 h2 h3.1
  obtain ⟨hm1, hm2, hm3⟩ := txt_mem h1 h2
  have hsm := schema_mem h1 h2
  have hso := schema_off h1 h2
  generalize ht : (enc P).1 = t at hf hl
  clear ht
  have hkn : (UInt8.ofNat (P.n 0).toNat).toNat = (P.n 0).toNat := u8_ofNat (by omega)
  have hlen : (P.t (txtO (P.n 0))).length ≤ 16384 := by
    rw [hf] at hl
    simp only [List.length_cons, List.length_append] at hl
    omega
  have hst : stepP 0 0 t false = ((P.n 0).toNat, [], 1, false) := by
    refine stepP_some ?_
    unfold getP
    rw [if_pos rfl, hf, if_pos (by simp)]
    simp [leN, hkn]
  have hK : decK t = (P.n 0).toNat := by unfold decK; rw [hst]
  have hKi : (decK t : Int) = P.n 0 := by rw [hK]; omega
  have d1 : t.drop 1 = (schema (P.n 0)).flatMap (wb P.n) ++ (short (P.t (txtO (P.n 0))).length ++ P.t (txtO (P.n 0)) ++ (if P.n 0 = 3 then short P.k.length ++ P.k.flatMap short else [])) := by rw [hf]; rfl
  have hS : decS t = ((schema (P.n 0)).foldl (setF P.n) (zPk.setIfInBounds 0 (.int .i64 (P.n 0))), (1 + ((schema (P.n 0)).flatMap (wb P.n)).length, false)) := by
    unfold decS
    rw [hKi, hst]
    exact rF_fold _ _ _ _ d1 hok
  have d2 := drop_step d1
  have hX : decX t = (P.t (txtO (P.n 0)), (1 + ((schema (P.n 0)).flatMap (wb P.n)).length + (short (P.t (txtO (P.n 0))).length ++ P.t (txtO (P.n 0))).length, false)) := by
    unfold decX
    rw [hS]
    exact rText_some d2 hlen
  have d3 := drop_step d2
  have hL : ∃ p, decL t = (if P.n 0 = 3 then P.k else [], (p, false)) ∧ t.length ≤ p := by
    unfold decL
    rw [hX]
    by_cases h3' : P.n 0 = 3
    · rw [if_pos (show decK t = 3 by omega), if_pos h3']
      rw [if_pos h3'] at d3
      have h64 : ¬ 64 < P.k.length := by
        have := h3.2
        simpa [h3'] using this
      have d4 : t.drop (1 + ((schema (P.n 0)).flatMap (wb P.n)).length + (short (P.t (txtO (P.n 0))).length ++ P.t (txtO (P.n 0))).length) = short P.k.length ++ P.k.flatMap short ++ [] := by rw [List.append_nil]; exact d3
      refine ⟨_, rList_some d4 (by omega) hN.keeps, ?_⟩
      have := congrArg List.length (drop_step d4)
      rw [List.length_drop, List.length_nil] at this
      omega
    · rw [if_neg (show ¬ decK t = 3 by omega), if_neg h3']
      rw [if_neg h3'] at d3
      refine ⟨_, rfl, ?_⟩
      have := congrArg List.length d3
      rw [List.length_drop, List.length_nil] at this
      omega
  obtain ⟨p, hL, hp⟩ := hL
  have hko : (decK t : Nat) = (P.n 0).toNat := hK
  refine ⟨readPk (decS t).1 (txtO (decK t)) (decX t).1 (if P.n 0 = 3 then P.k else []), ?_, ?_⟩
  · unfold decT
    rw [if_pos (by omega), hL, if_neg (by simp; omega)]
  · obtain ⟨q1, q2, q3, q4, q5⟩ := (PkEq_iff _ _).1 h4
    have hz : (zPk.setIfInBounds 0 (.int .i64 (P.n 0))).size = 56 := by rw [Array.size_setIfInBounds]; rfl
    have hcell : ∀ o, o < 56 → cellN (decS t).1 o = if o ∈ (schema (P.n 0)).map (·.2) then P.n o else cellN (zPk.setIfInBounds 0 (.int .i64 (P.n 0))) o := fun o ho => by
      rw [hS]
      exact setF_fold _ _ _ _ (by rw [hz]; exact ho) fun f hf => by rw [hz]; exact (hso f hf).2
    have hno : ∀ o ∈ intOffs ++ numOffs, 0 < o → o < 56 → (alonePk P).n o = P.n o → cellN (decS t).1 o = P.n o := fun o ho h0 h56 ha => by
      rw [hcell o h56]
      split
      · rfl
      · rename_i hn
        rw [zPk_cellN _ ho]
        simp only [alonePk] at ha
        rw [if_neg (fun e => e.elim (by omega) fun e => hn ((hsm o ho).2 e))] at ha
        exact ha
    refine (PkEq_iff _ _).2 ⟨?_, fun o ho => ?_, fun o ho => ?_, fun o ho => ?_, ?_⟩
    · show cellN (decS t).1 0 = P.n 0
      rw [hcell 0 (by omega), if_neg (fun e => ?_), zPk_kind]
      obtain ⟨f, hf, e⟩ := List.mem_map.1 e
      have := (hso f hf).1
      omega
    · exact hno o (List.mem_append_left _ ho) (offs_lt.1 o ho).1 (offs_lt.1 o ho).2 (q2 o ho)
    · exact hno o (List.mem_append_right _ ho) (offs_lt.2.1 o ho).1 (offs_lt.2.1 o ho).2 (q3 o ho)
    · show (if o = txtO (decK t : Int) then (decX t).1 else []) = P.t o
      rw [hKi, hX]
      by_cases e : o = txtO (P.n 0)
      · rw [if_pos e, e]
      · rw [if_neg e]
        have ha := q4 o ho
        simp only [alonePk] at ha
        rw [if_neg fun e' => e ((hm1 o ho).2 e')] at ha
        exact ha
    · show (if P.n 0 = 3 then P.k else []) = P.k
      by_cases e : P.n 0 = 3
      · rw [if_pos e]
      · rw [if_neg e]
        simp only [alonePk] at q5
        rw [if_neg fun e' => e (hm3.2 e')] at q5
        exact q5
end Go.Proofs.YtdckdjkkaangmaaDoor

/- What was decoded was encoded: plain. -/
namespace Go.Proofs.YtdckdjkkaangmaaDoor
set_option linter.unusedVariables false
set_option linter.unusedSimpArgs false
set_option maxRecDepth 100000
open Go.RowKit

theorem rText_back {t : List UInt8} {s : Nat × Bool} (h : (rText t s).2.2 = false) : s.2 = false ∧ t.drop s.1 = short (rText t s).1.length ++ (rText t s).1 ++ t.drop (rText t s).2.1 ∧ (rText t s).1.length ≤ 16384 := by
  obtain ⟨p, f⟩ := s
  cases f with
  | true => cases h
  | false =>
    unfold rText at h ⊢
    simp only at h ⊢
    unfold stepP at h ⊢
    rw [if_neg (by decide)] at h ⊢
    cases hg : getP 3 16384 (t.drop p) with
    | none => rw [hg] at h; cases h
    | some r =>
      obtain ⟨x, s, j⟩ := r
      simp only
      unfold getP at hg
      simp only [if_true, show ¬ ((3 : Int) = 0) by decide, show ¬ ((3 : Int) = 1) by decide, show ¬ ((3 : Int) = 2) by decide, if_false, Option.bind_eq_some_iff] at hg
      obtain ⟨⟨r1, r2⟩, hr, e⟩ := hg
      obtain ⟨n1, n2, _⟩ := num_sound _ 0 _ _ (by omega) hr
      simp only at e
      split at e
      · rename_i hc
        injection e with e
        injection e with e1 e2
        injection e2 with e2 e3
        subst e1 e2 e3
        have hlen : (List.take r1 (List.drop r2 (t.drop p))).length = r1 := by rw [List.length_take, List.length_drop]; omega
        refine ⟨by first | rfl | trivial, ?_, by rw [hlen]; omega⟩
        rw [hlen, n2, ← List.drop_drop, List.append_assoc, ← List.drop_drop (i := r1) (j := r2)]
        rw [List.take_append_drop, List.take_append_drop]
      · cases e
end Go.Proofs.YtdckdjkkaangmaaDoor

/- A packet whose texts and list are its own; the fields of any kind, read. -/
namespace Go.Proofs.YtdckdjkkaangmaaDoor
set_option linter.unusedVariables false
set_option linter.unusedSimpArgs false
set_option maxRecDepth 100000
open Go.RowKit

/-- A text in a block of its own, that may be written. -/
def TxO (w : World) (B C : Nat) (A : Option Addr) (b : List UInt8) : Prop :=
  Bytes w A b ∧ ∀ ad, A = some ad → ad.spot = none ∧ ad.off = 0 ∧ B ≤ ad.block ∧ ad.block < C ∧ ad.block < w.heap.size ∧ ∀ i, i < b.length → w.frozen? ⟨ad.block, i, none⟩ = false
/-- A list in a block of its own, that may be written. -/
def KpO (w : World) (C : Nat) (A : Option Addr) (ks : List Nat) : Prop :=
  Keeps w A ks ∧ ∀ ad, A = some ad → ad.spot = none ∧ ad.off = 0 ∧ C ≤ ad.block ∧ ad.block < w.heap.size ∧ ∀ i, i < ks.length → w.frozen? ⟨ad.block, i, none⟩ = false
/-- The cells hold the packet; its texts and its list stand in blocks from B on that are its own. -/
structure PkO (B : Nat) (w : World) (cs : Array Value) (P : Pk) : Prop where
  pk : PkV w cs P
  own : ∃ C, B ≤ C ∧ (∀ o ∈ txtOffs, ∃ A c, cs[o]? = some (.slice A (P.t o).length c) ∧ TxO w B C A (P.t o)) ∧ ∃ A c, cs[28]? = some (.slice A P.k.length c) ∧ KpO w C A P.k
section
variable {S : Nat → Prop} {w w' : World} {B C : Nat} {A : Option Addr}
theorem TxO.mod {b : List UInt8} (h : TxO w B C A b) (hm : Mod S w w') (hS : ∀ k, B ≤ k → k < w.heap.size → ¬ S k) : TxO w' B C A b := by
  obtain ⟨h1, h2⟩ := h
  refine ⟨h1.mod hm fun ad e => ?_, fun ad e => ?_⟩
  · obtain ⟨_, _, a3, _, a5, _⟩ := h2 ad e
    exact hS _ a3 a5
  · obtain ⟨a1, a2, a3, a4, a5, a6⟩ := h2 ad e
    refine ⟨a1, a2, a3, a4, Nat.lt_of_lt_of_le a5 hm.size, fun i hi => ?_⟩
    rw [World.frozen?_of_block (a := ⟨ad.block, i, none⟩) (hm.block ad.block a5 (hS _ a3 a5))]
    exact a6 i hi
theorem KpO.mod {ks : List Nat} (h : KpO w C A ks) (hm : Mod S w w') (hS : ∀ k, C ≤ k → k < w.heap.size → ¬ S k) : KpO w' C A ks := by
  obtain ⟨h1, h2⟩ := h
  refine ⟨Reads.mod h1 hm fun ad e => ?_, fun ad e => ?_⟩
  · obtain ⟨_, _, a3, a5, _⟩ := h2 ad e
    exact hS _ a3 a5
  · obtain ⟨a1, a2, a3, a5, a6⟩ := h2 ad e
    refine ⟨a1, a2, a3, Nat.lt_of_lt_of_le a5 hm.size, fun i hi => ?_⟩
    rw [World.frozen?_of_block (a := ⟨ad.block, i, none⟩) (hm.block ad.block a5 (hS _ a3 a5))]
    exact a6 i hi
theorem PkO.mod {cs : Array Value} {P : Pk} (h : PkO B w cs P) (hm : Mod S w w') (hS : ∀ k, B ≤ k → k < w.heap.size → ¬ S k) : PkO B w' cs P := by
  obtain ⟨⟨p1, p2, p3, p4, p5, p6, p7, p8⟩, C, hC, h1, h2⟩ := h
  have k1 : ∀ o ∈ txtOffs, ∃ A c, cs[o]? = some (.slice A (P.t o).length c) ∧ TxO w' B C A (P.t o) := fun o ho => by
    obtain ⟨A, c, e, hT⟩ := h1 o ho
    exact ⟨A, c, e, hT.mod hm hS⟩
  have k2 : ∃ A c, cs[28]? = some (.slice A P.k.length c) ∧ KpO w' C A P.k := by
    obtain ⟨A, c, e, hT⟩ := h2
    exact ⟨A, c, e, hT.mod hm fun k hk hk2 => hS k (Nat.le_trans hC hk) hk2⟩
  refine ⟨⟨p1, p2, p3, p4, fun o ho => ?_, ?_, p7, fun A n c e ad ea => Nat.lt_of_lt_of_le (p8 A n c e ad ea) hm.size⟩, C, hC, k1, k2⟩
  · obtain ⟨A, c, e, hT⟩ := k1 o ho
    obtain ⟨A', c', e', q1, q2⟩ := p5 o ho
    rw [e] at e'
    injection e' with e'
    injection e' with e1 e2 e3
    subst e1 e3
    exact ⟨A, c, e, hT.1, q2⟩
  · obtain ⟨A, c, e, hT⟩ := k2
    obtain ⟨A', c', e', q1, q2⟩ := p6
    rw [e] at e'
    injection e' with e'
    injection e' with e1 e2 e3
    subst e1 e3
    exact ⟨A, c, e, hT.1, q2⟩
theorem TxO.nil (w : World) (B C : Nat) : TxO w B C none [] := ⟨Bytes.nil_ _ _, fun ad e => by cases e⟩
theorem KpO.nil (w : World) (C : Nat) : KpO w C none [] := ⟨Reads.nil_ _ _ _, fun ad e => by cases e⟩
theorem TxO.row {b : List UInt8} {g : Nat} (h : WRow w g b) (h1 : B ≤ g) (h2 : g < C) : TxO w B C (some ⟨g, 0, none⟩) b :=
  ⟨h.bytes, fun ad e => by
    injection e with e
    subst e
    exact ⟨rfl, rfl, h1, h2, h.lt, fun i hi => (h.at_ hi).2⟩⟩
theorem own_frozen {base : Nat} {e : TypeId} {n c : Nat} {xs : List Value} (h : w.ownsRow base e 1 (.slice A n c) n xs) : ∀ ad, A = some ad → ad.spot = none ∧ ad.off = 0 ∧ base ≤ ad.block ∧ ad.block < w.heap.size ∧ ∀ i, w.frozen? ⟨ad.block, i, none⟩ = false := by
  intro ad e
  obtain ⟨a1, a2, a3, a4⟩ := row_at_head h ad e
  refine ⟨a1, a2, a3, a4, fun i => ?_⟩
  subst e
  obtain ⟨g, o, s⟩ := ad
  simp only at a1 a2
  subst a1 a2
  obtain ⟨cur, _, hb, _⟩ := own_unfold h
  exact Blk.free (t := _) (cs := cur) hb i
theorem TxO.own {b : List UInt8} {c : Nat} {e : TypeId} (h : w.ownsRow B e 1 (.slice A b.length c) b.length (b.map bv)) (hC : w.heap.size ≤ C) : TxO w B C A b :=
  ⟨own_bytes h, fun ad e => by
    obtain ⟨a1, a2, a3, a4, a5⟩ := own_frozen h ad e
    exact ⟨a1, a2, a3, by omega, a4, fun i _ => a5 i⟩⟩
theorem KpO.own {ks : List Nat} {c : Nat} {e : TypeId} (h : w.ownsRow C e 1 (.slice A ks.length c) ks.length (ks.map u64v)) : KpO w C A ks :=
  ⟨Reads.of_own h, fun ad e => by
    obtain ⟨a1, a2, a3, a4, a5⟩ := own_frozen h ad e
    exact ⟨a1, a2, a3, a4, fun i _ => a5 i⟩⟩
theorem Good.pko {cs : Array Value} (h : Good cs) {ot : Nat} (hot : ot ∈ txtOffs) {g : Nat} {b : List UInt8} {c : Nat} (hb : WRow w g b) (h1 : b.length ≤ c) (h2 : c ≤ 9223372036854775807) (h3 : b.length ≤ 1000000) (hB : B ≤ g) :
    PkO B w (cs.setIfInBounds ot (.slice (some ⟨g, 0, none⟩) b.length c)) (readPk cs ot b []) := by
  have hs : ot < cs.size := by rw [h.size]; exact (txt_apart ot hot).2.2.2.2
  refine ⟨h.pkv hot hb.bytes h1 h2 h3, g + 1, by omega, fun o ho => ?_, none, 0, ?_, KpO.nil _ _⟩
  · rw [set_get hs]
    simp only [readPk]
    by_cases e : o = ot
    · rw [if_pos e, if_pos e]
      exact ⟨_, c, rfl, TxO.row hb hB (by omega)⟩
    · rw [if_neg e, if_neg e]
      exact ⟨none, 0, h.txts o ho, TxO.nil _ _ _⟩
  · rw [set_get hs, if_neg (fun e => (txt_apart ot hot).2.2.1 e.symm)]
    exact h.keep
theorem Good.pkok {cs : Array Value} (h : Good cs) {ot : Nat} (hot : ot ∈ txtOffs) {g : Nat} {b : List UInt8} {c c2 : Nat} {ks : List Nat} (hb : WRow w g b) (h1 : b.length ≤ c) (h2 : c ≤ 9223372036854775807) (h3 : b.length ≤ 1000000) (hB : B ≤ g) {e : TypeId}
    (hk : w.ownsRow (g + 1) e 1 (.slice A ks.length c2) ks.length (ks.map u64v)) (k3 : ks.length ≤ 1000000) (k4 : ∀ x ∈ ks, x < 18446744073709551616) :
    PkO B w ((cs.setIfInBounds ot (.slice (some ⟨g, 0, none⟩) b.length c)).setIfInBounds 28 (.slice A ks.length c2)) (readPk cs ot b ks) := by
  have hs : ot < cs.size := by rw [h.size]; exact (txt_apart ot hot).2.2.2.2
  have hs2 : 28 < (cs.setIfInBounds ot (.slice (some ⟨g, 0, none⟩) b.length c)).size := by rw [Array.size_setIfInBounds, h.size]; omega
  have hsl := own_slice hk
  obtain ⟨A', c', e1, hc1, hc2⟩ := hsl
  injection e1 with e1 e2 e3
  subst e3
  refine ⟨h.pkvk hot hb.bytes h1 h2 h3 (Reads.of_own hk) (fun ad e => (row_at_head hk ad e).2.2.2) hc1 (by simpa [maxLen] using hc2) k3 k4, g + 1, by omega, fun o ho => ?_, A, c2, ?_, KpO.own hk⟩
  · rw [set_get hs2, if_neg ((txt_apart o ho).2.2.1), set_get hs]
    simp only [readPk]
    by_cases e : o = ot
    · rw [if_pos e, if_pos e]
      exact ⟨_, c, rfl, TxO.row hb hB (by omega)⟩
    · rw [if_neg e, if_neg e]
      exact ⟨none, 0, h.txts o ho, TxO.nil _ _ _⟩
  · rw [set_get hs2, if_pos rfl]
    rfl
end
theorem rText_max (t : List UInt8) (s : Nat × Bool) : (rText t s).1.length ≤ 16384 := by
  by_cases h : (rText t s).2.2 = false
  · exact (rText_back h).2.2
  · obtain ⟨p, f⟩ := s
    cases f with
    | true => simp [rText, stepP]
    | false =>
      unfold rText at h ⊢
      simp only at h ⊢
      unfold stepP at h ⊢
      rw [if_neg (by decide)] at h ⊢
      cases hg : getP 3 16384 (t.drop p) with
      | none => simp
      | some r => rw [hg] at h; simp at h
/-- What the fields of bytes that were opened are read as. -/
def FPost (w0 : World) (lo hi r pb : Nat) (t : List UInt8) (e : Ending) (w' : World) : Prop :=
  if 1 ≤ decK t ∧ decK t ≤ 6 then e = .returned (.bool true) ∧ ∃ cs, Blk w' pb 44 cs ∧ PkO w0.heap.size w' cs (readPk (decS t).1 (txtO (decK t)) (decX t).1 (decL t).1) ∧ Rdr w' lo hi r t (decL t).2.1 (decL t).2.2 ∧ Mod (Rw lo hi pb) w0 w'
  else e = .returned (.bool false) ∧ w0 = w'
/-- The cells ahead of the fields. -/
def decC (t : List UInt8) : Array Value := zPk.setIfInBounds 0 (.int .i64 (decK t : Int))
def dec0 (t : List UInt8) : RS := (decC t, ((stepP 0 0 t false).2.2.1, (stepP 0 0 t false).2.2.2))
theorem decC_size (t : List UInt8) : (decC t).size = 56 := by unfold decC; rw [Array.size_setIfInBounds]; rfl
theorem decC_kind (t : List UInt8) : (decC t)[0]? = some (.int .i64 (decK t : Int)) := by unfold decC; rw [set_get (by rw [zPk_size]; omega), if_pos rfl]
theorem decC_keep (t : List UInt8) : (decC t)[28]? = some (.slice none 0 0) := by unfold decC; rw [set_get (by rw [zPk_size]; omega), if_neg (by omega)]; rfl
theorem decK_lt (t : List UInt8) : decK t < 256 := by
  unfold decK stepP
  rw [if_neg (by decide)]
  unfold getP
  rw [if_pos rfl]
  cases t with
  | nil => simp
  | cons c t =>
    rw [if_pos (by simp)]
    simp only [List.take_succ_cons, List.take_zero, leN]
    have := c.toNat_lt
    omega
theorem decC_good (t : List UInt8) : Good (decC t) := Good.zero (by omega) (by have := decK_lt t; omega)
theorem dec_sch {t : List UInt8} {k : Nat} (h : decK t = k) : decS t = (schema (k : Int)).foldl (rF t) (dec0 t) := by unfold decS dec0 decC; rw [← h]
theorem ftext {w0 w' : World} {xb lo hi r pb : Nat} {t : List UInt8} {e : Ending} {ot : Nat} (hk : 1 ≤ decK t ∧ decK t ≤ 6) (h3 : decK t ≠ 3) (ho : txtO (decK t) = ot) (hg : Good (decS t).1) (h : RText w0 xb lo hi r pb 44 t (decS t) ot e w') : FPost w0 lo hi r pb t e w' := by
  obtain ⟨rfl, g, c, h1, h2, h4, h5, h6, h7⟩ := h
  have hot := (txt_mem (k := (decK t : Int)) (by omega) (by omega)).2.1
  have hL : decL t = ([], (decX t).2) := by unfold decL; rw [if_neg h3]
  unfold FPost
  rw [if_pos hk, hL, ho]
  rw [ho] at hot
  exact ⟨rfl, _, h6.pk, hg.pko hot h5 h1 h2 (Nat.le_trans (rText_max _ _) (by decide)) h4, h6.rd, h7⟩
theorem flist {w0 w' : World} {xb lo hi r pb : Nat} {t : List UInt8} {e : Ending} (hk : decK t = 3) (hg : Good (decS t).1) (h : RKeep w0 xb lo hi r pb 44 t (decS t) 27 e w') : FPost w0 lo hi r pb t e w' := by
  obtain ⟨rfl, g, c, A, c2, h1, h2, h4, h5, h6, h7, h8⟩ := h
  have hL : decL t = rList t (decX t).2 := by unfold decL; rw [if_pos hk]
  have ho : txtO (decK t) = 27 := by rw [hk]; rfl
  unfold FPost
  rw [if_pos (by omega), hL, ho]
  exact ⟨rfl, _, h7.pk, hg.pkok (by decide) h5 h1 h2 (Nat.le_trans (rText_max _ _) (by decide)) h4 h6 (Nat.le_trans (rList_len _ _) (by decide)) (rList_lt _ _), h7.rd, h8⟩
theorem rfields_all {w0 : World} {xb lo hi r pb : Nat} {t : List UInt8} (h : RSt w0 xb lo hi r pb 44 t (dec0 t)) (hhi : hi ≤ w0.heap.size) (hll : t.length ≤ 1000000) :
    Calls Tryd.prog 22 #[.iface 64 (.pointer (some ⟨xb, 0, none⟩)), pc pb 0] w0 (FPost w0 lo hi r pb t) := by
  have hk0 := decC_kind t
  have hz := decC_size t
  have hgd := decC_good t
  by_cases h1 : decK t = 1
  · have e := (dec_sch h1).trans (askR_eq t (dec0 t)).symm
    refine (rfields_ask h hhi hll (by show (decC t)[0]? = _; rw [hk0, h1]; rfl) hz).mono fun e' w' hp => ?_
    rw [← e] at hp
    exact ftext (by omega) (by omega) (by rw [h1]; rfl) (by rw [e]; exact good_ask hgd) hp
  by_cases h2 : decK t = 2
  · have e := (dec_sch h2).trans (saysR_eq t (dec0 t)).symm
    refine (rfields_says h hhi hll (by show (decC t)[0]? = _; rw [hk0, h2]; rfl) hz).mono fun e' w' hp => ?_
    rw [← e] at hp
    exact ftext (by omega) (by omega) (by rw [h2]; rfl) (by rw [e]; exact good_says hgd) hp
  by_cases h3 : decK t = 3
  · have e := (dec_sch h3).trans (reqR_eq t (dec0 t)).symm
    refine (rfields_req h hhi hll (by show (decC t)[0]? = _; rw [hk0, h3]; rfl) hz (decC_keep t)).mono fun e' w' hp => ?_
    rw [← e] at hp
    exact flist h3 (by rw [e]; exact good_req hgd) hp
  by_cases h4 : decK t = 4
  · have e := (dec_sch h4).trans (respR_eq t (dec0 t)).symm
    refine (rfields_resp h hhi hll (by show (decC t)[0]? = _; rw [hk0, h4]; rfl) hz).mono fun e' w' hp => ?_
    rw [← e] at hp
    exact ftext (by omega) (by omega) (by rw [h4]; rfl) (by rw [e]; exact good_resp hgd) hp
  by_cases h5 : decK t = 5
  · have e := (dec_sch h5).trans (callR_eq t (dec0 t)).symm
    refine (rfields_call h hhi hll (by show (decC t)[0]? = _; rw [hk0, h5]; rfl) hz).mono fun e' w' hp => ?_
    rw [← e] at hp
    exact ftext (by omega) (by omega) (by rw [h5]; rfl) (by rw [e]; exact good_call hgd) hp
  by_cases h6 : decK t = 6
  · have e := (dec_sch h6).trans (replyR_eq t (dec0 t)).symm
    obtain ⟨x, hx, _⟩ := hgd.ints 50 (by decide)
    refine (rfields_reply h hhi hll (by show (decC t)[0]? = _; rw [hk0, h6]; rfl) hz x hx).mono fun e' w' hp => ?_
    rw [← e] at hp
    exact ftext (by omega) (by omega) (by rw [h6]; rfl) (by rw [e]; exact good_reply hgd) hp
  · refine (fields_none _ h.pk hk0 (by omega) (by omega) (by omega) (by omega) (by omega) (by omega)).mono fun e' w' hp => ?_
    unfold FPost
    rw [if_neg (by omega)]
    exact hp
end Go.Proofs.YtdckdjkkaangmaaDoor
