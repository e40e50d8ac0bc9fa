/- The document's Same. -/
import Derived.Test.YtdckdjkkaangmaaDoorWireO5
import Derived.Test.YtdckdjkkaangmaaDoorWireI2
namespace Go.Proofs.YtdckdjkkaangmaaDoor
set_option linter.unusedVariables false
set_option linter.unusedSimpArgs false
set_option maxRecDepth 100000
open Go.RowKit

theorem wpList_load_rgG {P : Program} {ops : Array Oper} {rest : List Oper} {op : Oper} {a : Act} {w : World} {Q : Exit → Act → World → Prop} (hw : Region.wanted op (yielded ops a.tmps) = true) {ty : TypeId} {x : Operand} (ho : op.op = .load ty x) {b o : Nat} (hx : a.eval x = .pointer (some ⟨b, o, none⟩)) {vs : List Value} {d : TypeDesc} (hc : w.rangeAt b o vs)
    (hu : P.underlying ty = some d) (hd : d.isRow = true) (hi : (P.info? ty).map (·.size) = some vs.length) (h : wpList P ops Q rest (a.put op.dst (.agg vs.toArray)) w) : wpList P ops Q (op :: rest) a w :=
  wpList_step fun K hK => by
    rw [if_pos hw]
    exact wp_load_mid ty x ho b o hx vs d hc hu hd hi (hK _ _ h)
theorem rg_ask {w w' : World} {g : Nat} {cs : Array Value} {P : Pk} (hP : PkV w cs P) (hB : Blk w' g 44 cs) {A : Option Addr} {c : Nat} (e : cs[6]? = some (.slice A (P.t 6).length c)) : w'.rangeAt g 1 [.int .i64 (P.n 1), .int .i64 (P.n 2), .int .u64 (P.n 3), .int .i64 (P.n 4), .int .u64 (P.n 5), .slice A (P.t 6).length c] := by
  intro j v hv
  rcases j with _ | _ | _ | _ | _ | _ | j
  · injection hv with hv; subst hv; exact (hB.cell 1).trans (hP.ints 1 (by decide)).1
  · injection hv with hv; subst hv; exact (hB.cell 2).trans (hP.ints 2 (by decide)).1
  · injection hv with hv; subst hv; exact (hB.cell 3).trans (hP.nums 3 (by decide)).1
  · injection hv with hv; subst hv; exact (hB.cell 4).trans (hP.ints 4 (by decide)).1
  · injection hv with hv; subst hv; exact (hB.cell 5).trans (hP.nums 5 (by decide)).1
  · injection hv with hv; subst hv; exact (hB.cell 6).trans e
  · simp at hv
theorem in_ask : (Tryd.prog.info? 28).map (·.size) = some 6 := by kernel_rfl
theorem rg_says {w w' : World} {g : Nat} {cs : Array Value} {P : Pk} (hP : PkV w cs P) (hB : Blk w' g 44 cs) {A : Option Addr} {c : Nat} (e : cs[18]? = some (.slice A (P.t 18).length c)) : w'.rangeAt g 7 [.int .i64 (P.n 7), .int .i64 (P.n 8), .int .u64 (P.n 9), .int .i64 (P.n 10), .int .u64 (P.n 11), .int .u64 (P.n 12), .int .i64 (P.n 13), .int .u64 (P.n 14), .int .u64 (P.n 15), .int .i64 (P.n 16), .int .u64 (P.n 17), .slice A (P.t 18).length c] := by
  intro j v hv
  rcases j with _ | _ | _ | _ | _ | _ | _ | _ | _ | _ | _ | _ | j
  · injection hv with hv; subst hv; exact (hB.cell 7).trans (hP.ints 7 (by decide)).1
  · injection hv with hv; subst hv; exact (hB.cell 8).trans (hP.ints 8 (by decide)).1
  · injection hv with hv; subst hv; exact (hB.cell 9).trans (hP.nums 9 (by decide)).1
  · injection hv with hv; subst hv; exact (hB.cell 10).trans (hP.ints 10 (by decide)).1
  · injection hv with hv; subst hv; exact (hB.cell 11).trans (hP.nums 11 (by decide)).1
  · injection hv with hv; subst hv; exact (hB.cell 12).trans (hP.nums 12 (by decide)).1
  · injection hv with hv; subst hv; exact (hB.cell 13).trans (hP.ints 13 (by decide)).1
  · injection hv with hv; subst hv; exact (hB.cell 14).trans (hP.nums 14 (by decide)).1
  · injection hv with hv; subst hv; exact (hB.cell 15).trans (hP.nums 15 (by decide)).1
  · injection hv with hv; subst hv; exact (hB.cell 16).trans (hP.ints 16 (by decide)).1
  · injection hv with hv; subst hv; exact (hB.cell 17).trans (hP.nums 17 (by decide)).1
  · injection hv with hv; subst hv; exact (hB.cell 18).trans e
  · simp at hv
theorem in_says : (Tryd.prog.info? 30).map (·.size) = some 12 := by kernel_rfl
theorem rg_req {w w' : World} {g : Nat} {cs : Array Value} {P : Pk} (hP : PkV w cs P) (hB : Blk w' g 44 cs) {A : Option Addr} {c : Nat} (e : cs[27]? = some (.slice A (P.t 27).length c)) {K : Option Addr} {kc : Nat} (ek : cs[28]? = some (.slice K P.k.length kc)) : w'.rangeAt g 19 [.int .i64 (P.n 19), .int .u64 (P.n 20), .int .i64 (P.n 21), .int .u64 (P.n 22), .int .u64 (P.n 23), .int .u64 (P.n 24), .int .u64 (P.n 25), .int .i64 (P.n 26), .slice A (P.t 27).length c, .slice K P.k.length kc] := by
  intro j v hv
  rcases j with _ | _ | _ | _ | _ | _ | _ | _ | _ | _ | j
  · injection hv with hv; subst hv; exact (hB.cell 19).trans (hP.ints 19 (by decide)).1
  · injection hv with hv; subst hv; exact (hB.cell 20).trans (hP.nums 20 (by decide)).1
  · injection hv with hv; subst hv; exact (hB.cell 21).trans (hP.ints 21 (by decide)).1
  · injection hv with hv; subst hv; exact (hB.cell 22).trans (hP.nums 22 (by decide)).1
  · injection hv with hv; subst hv; exact (hB.cell 23).trans (hP.nums 23 (by decide)).1
  · injection hv with hv; subst hv; exact (hB.cell 24).trans (hP.nums 24 (by decide)).1
  · injection hv with hv; subst hv; exact (hB.cell 25).trans (hP.nums 25 (by decide)).1
  · injection hv with hv; subst hv; exact (hB.cell 26).trans (hP.ints 26 (by decide)).1
  · injection hv with hv; subst hv; exact (hB.cell 27).trans e
  · injection hv with hv; subst hv; exact (hB.cell 28).trans ek
  · simp at hv
theorem in_req : (Tryd.prog.info? 35).map (·.size) = some 10 := by kernel_rfl
theorem rg_resp {w w' : World} {g : Nat} {cs : Array Value} {P : Pk} (hP : PkV w cs P) (hB : Blk w' g 44 cs) {A : Option Addr} {c : Nat} (e : cs[37]? = some (.slice A (P.t 37).length c)) : w'.rangeAt g 29 [.int .i64 (P.n 29), .int .u64 (P.n 30), .int .i64 (P.n 31), .int .i64 (P.n 32), .int .u64 (P.n 33), .int .u64 (P.n 34), .int .u64 (P.n 35), .int .u64 (P.n 36), .slice A (P.t 37).length c] := by
  intro j v hv
  rcases j with _ | _ | _ | _ | _ | _ | _ | _ | _ | j
  · injection hv with hv; subst hv; exact (hB.cell 29).trans (hP.ints 29 (by decide)).1
  · injection hv with hv; subst hv; exact (hB.cell 30).trans (hP.nums 30 (by decide)).1
  · injection hv with hv; subst hv; exact (hB.cell 31).trans (hP.ints 31 (by decide)).1
  · injection hv with hv; subst hv; exact (hB.cell 32).trans (hP.ints 32 (by decide)).1
  · injection hv with hv; subst hv; exact (hB.cell 33).trans (hP.nums 33 (by decide)).1
  · injection hv with hv; subst hv; exact (hB.cell 34).trans (hP.nums 34 (by decide)).1
  · injection hv with hv; subst hv; exact (hB.cell 35).trans (hP.nums 35 (by decide)).1
  · injection hv with hv; subst hv; exact (hB.cell 36).trans (hP.nums 36 (by decide)).1
  · injection hv with hv; subst hv; exact (hB.cell 37).trans e
  · simp at hv
theorem in_resp : (Tryd.prog.info? 37).map (·.size) = some 9 := by kernel_rfl
theorem rg_call {w w' : World} {g : Nat} {cs : Array Value} {P : Pk} (hP : PkV w cs P) (hB : Blk w' g 44 cs) {A : Option Addr} {c : Nat} (e : cs[46]? = some (.slice A (P.t 46).length c)) : w'.rangeAt g 38 [.int .i64 (P.n 38), .int .u64 (P.n 39), .int .u64 (P.n 40), .int .i64 (P.n 41), .int .i64 (P.n 42), .int .i64 (P.n 43), .int .u64 (P.n 44), .int .u64 (P.n 45), .slice A (P.t 46).length c] := by
  intro j v hv
  rcases j with _ | _ | _ | _ | _ | _ | _ | _ | _ | j
  · injection hv with hv; subst hv; exact (hB.cell 38).trans (hP.ints 38 (by decide)).1
  · injection hv with hv; subst hv; exact (hB.cell 39).trans (hP.nums 39 (by decide)).1
  · injection hv with hv; subst hv; exact (hB.cell 40).trans (hP.nums 40 (by decide)).1
  · injection hv with hv; subst hv; exact (hB.cell 41).trans (hP.ints 41 (by decide)).1
  · injection hv with hv; subst hv; exact (hB.cell 42).trans (hP.ints 42 (by decide)).1
  · injection hv with hv; subst hv; exact (hB.cell 43).trans (hP.ints 43 (by decide)).1
  · injection hv with hv; subst hv; exact (hB.cell 44).trans (hP.nums 44 (by decide)).1
  · injection hv with hv; subst hv; exact (hB.cell 45).trans (hP.nums 45 (by decide)).1
  · injection hv with hv; subst hv; exact (hB.cell 46).trans e
  · simp at hv
theorem in_call : (Tryd.prog.info? 39).map (·.size) = some 9 := by kernel_rfl
theorem rg_reply {w w' : World} {g : Nat} {cs : Array Value} {P : Pk} (hP : PkV w cs P) (hB : Blk w' g 44 cs) {A : Option Addr} {c : Nat} (e : cs[55]? = some (.slice A (P.t 55).length c)) : w'.rangeAt g 47 [.int .i64 (P.n 47), .int .u64 (P.n 48), .int .u64 (P.n 49), .int .i64 (P.n 50), .int .u64 (P.n 51), .int .i64 (P.n 52), .int .i64 (P.n 53), .int .u64 (P.n 54), .slice A (P.t 55).length c] := by
  intro j v hv
  rcases j with _ | _ | _ | _ | _ | _ | _ | _ | _ | j
  · injection hv with hv; subst hv; exact (hB.cell 47).trans (hP.ints 47 (by decide)).1
  · injection hv with hv; subst hv; exact (hB.cell 48).trans (hP.nums 48 (by decide)).1
  · injection hv with hv; subst hv; exact (hB.cell 49).trans (hP.nums 49 (by decide)).1
  · injection hv with hv; subst hv; exact (hB.cell 50).trans (hP.ints 50 (by decide)).1
  · injection hv with hv; subst hv; exact (hB.cell 51).trans (hP.nums 51 (by decide)).1
  · injection hv with hv; subst hv; exact (hB.cell 52).trans (hP.ints 52 (by decide)).1
  · injection hv with hv; subst hv; exact (hB.cell 53).trans (hP.ints 53 (by decide)).1
  · injection hv with hv; subst hv; exact (hB.cell 54).trans (hP.nums 54 (by decide)).1
  · injection hv with hv; subst hv; exact (hB.cell 55).trans e
  · simp at hv
theorem in_reply : (Tryd.prog.info? 42).map (·.size) = some 9 := by kernel_rfl
theorem PkEq_parts (P Q : Pk) : PkEq P Q ↔ P.n 0 = Q.n 0 ∧ ((P.n 1 = Q.n 1 ∧ P.n 2 = Q.n 2 ∧ P.n 3 = Q.n 3 ∧ P.n 4 = Q.n 4 ∧ P.n 5 = Q.n 5) ∧ P.t 6 = Q.t 6) ∧ ((P.n 7 = Q.n 7 ∧ P.n 8 = Q.n 8 ∧ P.n 9 = Q.n 9 ∧ P.n 10 = Q.n 10 ∧ P.n 11 = Q.n 11 ∧ P.n 12 = Q.n 12 ∧ P.n 13 = Q.n 13 ∧ P.n 14 = Q.n 14 ∧ P.n 15 = Q.n 15 ∧ P.n 16 = Q.n 16 ∧ P.n 17 = Q.n 17) ∧ P.t 18 = Q.t 18) ∧ ((P.n 19 = Q.n 19 ∧ P.n 20 = Q.n 20 ∧ P.n 21 = Q.n 21 ∧ P.n 22 = Q.n 22 ∧ P.n 23 = Q.n 23 ∧ P.n 24 = Q.n 24 ∧ P.n 25 = Q.n 25 ∧ P.n 26 = Q.n 26) ∧ P.t 27 = Q.t 27 ∧ P.k.length = Q.k.length) ∧ (P.k = Q.k) ∧ ((P.n 29 = Q.n 29 ∧ P.n 30 = Q.n 30 ∧ P.n 31 = Q.n 31 ∧ P.n 32 = Q.n 32 ∧ P.n 33 = Q.n 33 ∧ P.n 34 = Q.n 34 ∧ P.n 35 = Q.n 35 ∧ P.n 36 = Q.n 36) ∧ P.t 37 = Q.t 37) ∧ ((P.n 38 = Q.n 38 ∧ P.n 39 = Q.n 39 ∧ P.n 40 = Q.n 40 ∧ P.n 41 = Q.n 41 ∧ P.n 42 = Q.n 42 ∧ P.n 43 = Q.n 43 ∧ P.n 44 = Q.n 44 ∧ P.n 45 = Q.n 45) ∧ P.t 46 = Q.t 46) ∧ ((P.n 47 = Q.n 47 ∧ P.n 48 = Q.n 48 ∧ P.n 49 = Q.n 49 ∧ P.n 50 = Q.n 50 ∧ P.n 51 = Q.n 51 ∧ P.n 52 = Q.n 52 ∧ P.n 53 = Q.n 53 ∧ P.n 54 = Q.n 54) ∧ P.t 55 = Q.t 55) := by
  unfold PkEq
  constructor
  · rintro ⟨h0, ⟨h1, h2, h3, h4, h5, h6⟩, hs, ⟨hr, ht, hk⟩, hp, hc, hy⟩
    exact ⟨h0, ⟨⟨h1, h2, h3, h4, h5⟩, h6⟩, hs, ⟨hr, ht, by rw [hk]⟩, hk, hp, hc, hy⟩
  · rintro ⟨h0, ⟨⟨h1, h2, h3, h4, h5⟩, h6⟩, hs, ⟨hr, ht, _⟩, hk, hp, hc, hy⟩
    exact ⟨h0, ⟨h1, h2, h3, h4, h5, h6⟩, hs, ⟨hr, ht, hk⟩, hp, hc, hy⟩
set_option maxRecDepth 100000 in
set_option maxHeartbeats 64000000 in
theorem dsame_any {w : World} {ca cb : Array Value} {P Q : Pk} (hP : PkV w ca P) (hQ : PkV w cb Q) :
    Calls Tryd.prog 10 #[.agg ca, .agg cb] w fun e w' => e = .returned (.bool (decide (PkEq P Q))) ∧ Below w.heap.size w w' := by
  have hbW : Below w.heap.size w ((w.alloc (.cells ca 44)).alloc (.cells cb 44)) := (below_new w _).alloc (by simp) _
  have kA : Blk ((w.alloc (.cells ca 44)).alloc (.cells cb 44)) w.heap.size 44 ca := (Blk.new w _ _).alloc _
  have kB : Blk ((w.alloc (.cells ca 44)).alloc (.cells cb 44)) (w.heap.size + 1) 44 cb := by simpa using Blk.new (w.alloc (.cells ca 44)) 44 cb
  have HP := Lib.hid hP
  have HQ := Lib.hid hQ
  have HPQ : Hid (decide (PkEq P Q) = decide (P.n 0 = Q.n 0 ∧ ((P.n 1 = Q.n 1 ∧ P.n 2 = Q.n 2 ∧ P.n 3 = Q.n 3 ∧ P.n 4 = Q.n 4 ∧ P.n 5 = Q.n 5) ∧ P.t 6 = Q.t 6) ∧ ((P.n 7 = Q.n 7 ∧ P.n 8 = Q.n 8 ∧ P.n 9 = Q.n 9 ∧ P.n 10 = Q.n 10 ∧ P.n 11 = Q.n 11 ∧ P.n 12 = Q.n 12 ∧ P.n 13 = Q.n 13 ∧ P.n 14 = Q.n 14 ∧ P.n 15 = Q.n 15 ∧ P.n 16 = Q.n 16 ∧ P.n 17 = Q.n 17) ∧ P.t 18 = Q.t 18) ∧ ((P.n 19 = Q.n 19 ∧ P.n 20 = Q.n 20 ∧ P.n 21 = Q.n 21 ∧ P.n 22 = Q.n 22 ∧ P.n 23 = Q.n 23 ∧ P.n 24 = Q.n 24 ∧ P.n 25 = Q.n 25 ∧ P.n 26 = Q.n 26) ∧ P.t 27 = Q.t 27 ∧ P.k.length = Q.k.length) ∧ (P.k = Q.k) ∧ ((P.n 29 = Q.n 29 ∧ P.n 30 = Q.n 30 ∧ P.n 31 = Q.n 31 ∧ P.n 32 = Q.n 32 ∧ P.n 33 = Q.n 33 ∧ P.n 34 = Q.n 34 ∧ P.n 35 = Q.n 35 ∧ P.n 36 = Q.n 36) ∧ P.t 37 = Q.t 37) ∧ ((P.n 38 = Q.n 38 ∧ P.n 39 = Q.n 39 ∧ P.n 40 = Q.n 40 ∧ P.n 41 = Q.n 41 ∧ P.n 42 = Q.n 42 ∧ P.n 43 = Q.n 43 ∧ P.n 44 = Q.n 44 ∧ P.n 45 = Q.n 45) ∧ P.t 46 = Q.t 46) ∧ ((P.n 47 = Q.n 47 ∧ P.n 48 = Q.n 48 ∧ P.n 49 = Q.n 49 ∧ P.n 50 = Q.n 50 ∧ P.n 51 = Q.n 51 ∧ P.n 52 = Q.n 52 ∧ P.n 53 = Q.n 53 ∧ P.n 54 = Q.n 54) ∧ P.t 55 = Q.t 55))) := decide_eq_decide.2 (PkEq_parts P Q)
  have a0 := (kA.cell 0).trans hP.kind.1
  have b0 := (kB.cell 0).trans hQ.kind.1
  have HKA := Lib.hid kA
  have HKB := Lib.hid kB
  have HBW := Lib.hid hbW
  clear hP hQ kA kB hbW
  by_cases hk : P.n 0 = Q.n 0
  · have hd0 : decide (P.n 0 = Q.n 0) = true := decide_eq_true hk
    have hd1 : (P.n 0 == Q.n 0) = true := beq_iff_eq.2 hk
    have HC0 := Lib.hid hk
    clear hk
    obtain ⟨A6, Ac6, eA6, hA6, _, _, lA6⟩ := HP.out.txts 6 (by decide)
    have EA6 := Lib.hid eA6
    have HA6 := Lib.hid hA6
    clear eA6 hA6 lA6
    obtain ⟨A18, Ac18, eA18, hA18, _, _, lA18⟩ := HP.out.txts 18 (by decide)
    have EA18 := Lib.hid eA18
    have HA18 := Lib.hid hA18
    clear eA18 hA18 lA18
    obtain ⟨A27, Ac27, eA27, hA27, _, _, lA27⟩ := HP.out.txts 27 (by decide)
    have EA27 := Lib.hid eA27
    have HA27 := Lib.hid hA27
    clear eA27 hA27 lA27
    obtain ⟨A37, Ac37, eA37, hA37, _, _, lA37⟩ := HP.out.txts 37 (by decide)
    have EA37 := Lib.hid eA37
    have HA37 := Lib.hid hA37
    clear eA37 hA37 lA37
    obtain ⟨A46, Ac46, eA46, hA46, _, _, lA46⟩ := HP.out.txts 46 (by decide)
    have EA46 := Lib.hid eA46
    have HA46 := Lib.hid hA46
    clear eA46 hA46 lA46
    obtain ⟨A55, Ac55, eA55, hA55, _, _, lA55⟩ := HP.out.txts 55 (by decide)
    have EA55 := Lib.hid eA55
    have HA55 := Lib.hid hA55
    clear eA55 hA55 lA55
    obtain ⟨AK, Akc, eAK, hAK, _, _, lAK⟩ := HP.out.keep
    have EAK := Lib.hid eAK
    have HAK := Lib.hid hAK
    have LAK := Lib.hid lAK
    clear eAK hAK lAK
    obtain ⟨B6, Bc6, eB6, hB6, _, _, lB6⟩ := HQ.out.txts 6 (by decide)
    have EB6 := Lib.hid eB6
    have HB6 := Lib.hid hB6
    clear eB6 hB6 lB6
    obtain ⟨B18, Bc18, eB18, hB18, _, _, lB18⟩ := HQ.out.txts 18 (by decide)
    have EB18 := Lib.hid eB18
    have HB18 := Lib.hid hB18
    clear eB18 hB18 lB18
    obtain ⟨B27, Bc27, eB27, hB27, _, _, lB27⟩ := HQ.out.txts 27 (by decide)
    have EB27 := Lib.hid eB27
    have HB27 := Lib.hid hB27
    clear eB27 hB27 lB27
    obtain ⟨B37, Bc37, eB37, hB37, _, _, lB37⟩ := HQ.out.txts 37 (by decide)
    have EB37 := Lib.hid eB37
    have HB37 := Lib.hid hB37
    clear eB37 hB37 lB37
    obtain ⟨B46, Bc46, eB46, hB46, _, _, lB46⟩ := HQ.out.txts 46 (by decide)
    have EB46 := Lib.hid eB46
    have HB46 := Lib.hid hB46
    clear eB46 hB46 lB46
    obtain ⟨B55, Bc55, eB55, hB55, _, _, lB55⟩ := HQ.out.txts 55 (by decide)
    have EB55 := Lib.hid eB55
    have HB55 := Lib.hid hB55
    clear eB55 hB55 lB55
    obtain ⟨BK, Bkc, eBK, hBK, _, _, lBK⟩ := HQ.out.keep
    have EBK := Lib.hid eBK
    have HBK := Lib.hid hBK
    have LBK := Lib.hid lBK
    clear eBK hBK lBK
    go_enter Tryd.func10, Tryd.ntmps10
    go_wp2_with (refine wpList_load_rgG (by kernel_rfl) (ty := 28) rfl rfl (rg_ask HP.out HKA.out EA6.out) Tryd.underlying28 rfl in_ask ?_; refine Hid.out ?_)
    refine Lib.hid ?_
    generalize ((w.alloc (.cells ca 44)).alloc (.cells cb 44)) = W at *
    go_wp2_with (refine wpList_load_rgG (by kernel_rfl) (ty := 28) rfl rfl (rg_ask HQ.out HKB.out EB6.out) Tryd.underlying28 rfl in_ask ?_; refine Hid.out ?_)
    refine Lib.hid ?_
    clear a0 b0
    have HKA0 := HKA
    have HKB0 := HKB
    have HBW0 := HBW
    go_wp2_with fail
    refine (dask_any (HA6.out.below HBW0.out) (HB6.out.below HBW0.out)).mono ?_
    rintro e w1 ⟨rfl, hb1⟩
    have hw := hb1
    have HBW1 := Lib.hid (below_call HBW0.out HBW0.out.size hw)
    have HKA1 := Lib.hid (HKA0.out.below hw HKA0.out.lt)
    have HKB1 := Lib.hid (HKB0.out.below hw HKB0.out.lt)
    clear hb1 hw HKA0 HKB0
    by_cases hc : (P.n 1 = Q.n 1 ∧ P.n 2 = Q.n 2 ∧ P.n 3 = Q.n 3 ∧ P.n 4 = Q.n 4 ∧ P.n 5 = Q.n 5) ∧ P.t 6 = Q.t 6
    · have hd : decide ((P.n 1 = Q.n 1 ∧ P.n 2 = Q.n 2 ∧ P.n 3 = Q.n 3 ∧ P.n 4 = Q.n 4 ∧ P.n 5 = Q.n 5) ∧ P.t 6 = Q.t 6) = true := decide_eq_true hc
      have HC1 := Lib.hid hc
      rw [hd]
      clear hd hc
      go_wp2_with (refine wpList_load_rgG (by kernel_rfl) (ty := 30) rfl rfl (rg_says HP.out HKA1.out EA18.out) Tryd.underlying30 rfl in_says ?_; refine Hid.out ?_)
      refine Lib.hid ?_
      go_wp2_with (refine wpList_load_rgG (by kernel_rfl) (ty := 30) rfl rfl (rg_says HQ.out HKB1.out EB18.out) Tryd.underlying30 rfl in_says ?_; refine Hid.out ?_)
      refine Lib.hid ?_
      go_wp2_with fail
      refine (dsays_any (HA18.out.below HBW1.out) (HB18.out.below HBW1.out)).mono ?_
      rintro e w2 ⟨rfl, hb1⟩
      have hw := hb1
      have HBW2 := Lib.hid (below_call HBW1.out HBW1.out.size hw)
      have HKA2 := Lib.hid (HKA1.out.below hw HKA1.out.lt)
      have HKB2 := Lib.hid (HKB1.out.below hw HKB1.out.lt)
      clear hb1 hw HKA1 HKB1
      by_cases hc : (P.n 7 = Q.n 7 ∧ P.n 8 = Q.n 8 ∧ P.n 9 = Q.n 9 ∧ P.n 10 = Q.n 10 ∧ P.n 11 = Q.n 11 ∧ P.n 12 = Q.n 12 ∧ P.n 13 = Q.n 13 ∧ P.n 14 = Q.n 14 ∧ P.n 15 = Q.n 15 ∧ P.n 16 = Q.n 16 ∧ P.n 17 = Q.n 17) ∧ P.t 18 = Q.t 18
      · have hd : decide ((P.n 7 = Q.n 7 ∧ P.n 8 = Q.n 8 ∧ P.n 9 = Q.n 9 ∧ P.n 10 = Q.n 10 ∧ P.n 11 = Q.n 11 ∧ P.n 12 = Q.n 12 ∧ P.n 13 = Q.n 13 ∧ P.n 14 = Q.n 14 ∧ P.n 15 = Q.n 15 ∧ P.n 16 = Q.n 16 ∧ P.n 17 = Q.n 17) ∧ P.t 18 = Q.t 18) = true := decide_eq_true hc
        have HC2 := Lib.hid hc
        rw [hd]
        clear hd hc
        go_wp2_with (refine wpList_load_rgG (by kernel_rfl) (ty := 35) rfl rfl (rg_req HP.out HKA2.out EA27.out EAK.out) Tryd.underlying35 rfl in_req ?_; refine Hid.out ?_)
        refine Lib.hid ?_
        go_wp2_with (refine wpList_load_rgG (by kernel_rfl) (ty := 35) rfl rfl (rg_req HQ.out (HKB2.out.alloc _) EB27.out EBK.out) Tryd.underlying35 rfl in_req ?_; refine Hid.out ?_)
        refine Lib.hid ?_
        go_wp2_with fail
        have hbl : Below w2.heap.size w2 ((w2.alloc (.cells #[.int .i64 (P.n 19), .int .u64 (P.n 20), .int .i64 (P.n 21), .int .u64 (P.n 22), .int .u64 (P.n 23), .int .u64 (P.n 24), .int .u64 (P.n 25), .int .i64 (P.n 26), .slice A27 (P.t 27).length Ac27, .slice AK P.k.length Akc] 35)).alloc (.cells #[.int .i64 (Q.n 19), .int .u64 (Q.n 20), .int .i64 (Q.n 21), .int .u64 (Q.n 22), .int .u64 (Q.n 23), .int .u64 (Q.n 24), .int .u64 (Q.n 25), .int .i64 (Q.n 26), .slice B27 (Q.t 27).length Bc27, .slice BK Q.k.length Bkc] 35)) := (below_new _ _).alloc (by simp) _
        have hbw := below_call HBW2.out HBW2.out.size hbl
        refine (dreqs_any (g := w2.heap.size) (h := w2.heap.size + 1) ((Blk.new w2 35 _).alloc _) (by simpa using Blk.new (w2.alloc (.cells #[.int .i64 (P.n 19), .int .u64 (P.n 20), .int .i64 (P.n 21), .int .u64 (P.n 22), .int .u64 (P.n 23), .int .u64 (P.n 24), .int .u64 (P.n 25), .int .i64 (P.n 26), .slice A27 (P.t 27).length Ac27, .slice AK P.k.length Akc] 35)) 35 #[.int .i64 (Q.n 19), .int .u64 (Q.n 20), .int .i64 (Q.n 21), .int .u64 (Q.n 22), .int .u64 (Q.n 23), .int .u64 (Q.n 24), .int .u64 (Q.n 25), .int .i64 (Q.n 26), .slice B27 (Q.t 27).length Bc27, .slice BK Q.k.length Bkc]) (HA27.out.below hbw) (HB27.out.below hbw)).mono ?_
        rintro e w3 ⟨rfl, hb1⟩
        have hw := below_call hbl hbl.size hb1
        clear hbl hbw
        have HBW3 := Lib.hid (below_call HBW2.out HBW2.out.size hw)
        have HKA3 := Lib.hid (HKA2.out.below hw HKA2.out.lt)
        have HKB3 := Lib.hid (HKB2.out.below hw HKB2.out.lt)
        clear hb1 hw HKA2 HKB2
        by_cases hc : (P.n 19 = Q.n 19 ∧ P.n 20 = Q.n 20 ∧ P.n 21 = Q.n 21 ∧ P.n 22 = Q.n 22 ∧ P.n 23 = Q.n 23 ∧ P.n 24 = Q.n 24 ∧ P.n 25 = Q.n 25 ∧ P.n 26 = Q.n 26) ∧ P.t 27 = Q.t 27 ∧ P.k.length = Q.k.length
        · have hd : decide ((P.n 19 = Q.n 19 ∧ P.n 20 = Q.n 20 ∧ P.n 21 = Q.n 21 ∧ P.n 22 = Q.n 22 ∧ P.n 23 = Q.n 23 ∧ P.n 24 = Q.n 24 ∧ P.n 25 = Q.n 25 ∧ P.n 26 = Q.n 26) ∧ P.t 27 = Q.t 27 ∧ P.k.length = Q.k.length) = true := decide_eq_true hc
          have HC3 := Lib.hid hc
          rw [hd]
          clear hd hc
          have cA := (HKA3.out.cell 28).trans EAK.out
          have cB := (HKB3.out.cell 28).trans EBK.out
          go_wp2_with fail
          clear cA cB
          refine (dkeep_any (Reads.below HAK.out HBW3.out) (Reads.below HBK.out HBW3.out) LAK.out LBK.out).mono ?_
          rintro e w4 ⟨rfl, hb1⟩
          have hw := hb1
          have HBW4 := Lib.hid (below_call HBW3.out HBW3.out.size hw)
          have HKA4 := Lib.hid (HKA3.out.below hw HKA3.out.lt)
          have HKB4 := Lib.hid (HKB3.out.below hw HKB3.out.lt)
          clear hb1 hw HKA3 HKB3
          by_cases hc : P.k = Q.k
          · have hd : decide (P.k = Q.k) = true := decide_eq_true hc
            have HC4 := Lib.hid hc
            rw [hd]
            clear hd hc
            go_wp2_with (refine wpList_load_rgG (by kernel_rfl) (ty := 37) rfl rfl (rg_resp HP.out HKA4.out EA37.out) Tryd.underlying37 rfl in_resp ?_; refine Hid.out ?_)
            refine Lib.hid ?_
            go_wp2_with (refine wpList_load_rgG (by kernel_rfl) (ty := 37) rfl rfl (rg_resp HQ.out HKB4.out EB37.out) Tryd.underlying37 rfl in_resp ?_; refine Hid.out ?_)
            refine Lib.hid ?_
            go_wp2_with fail
            refine (dresp_any (HA37.out.below HBW4.out) (HB37.out.below HBW4.out)).mono ?_
            rintro e w5 ⟨rfl, hb1⟩
            have hw := hb1
            have HBW5 := Lib.hid (below_call HBW4.out HBW4.out.size hw)
            have HKA5 := Lib.hid (HKA4.out.below hw HKA4.out.lt)
            have HKB5 := Lib.hid (HKB4.out.below hw HKB4.out.lt)
            clear hb1 hw HKA4 HKB4
            by_cases hc : (P.n 29 = Q.n 29 ∧ P.n 30 = Q.n 30 ∧ P.n 31 = Q.n 31 ∧ P.n 32 = Q.n 32 ∧ P.n 33 = Q.n 33 ∧ P.n 34 = Q.n 34 ∧ P.n 35 = Q.n 35 ∧ P.n 36 = Q.n 36) ∧ P.t 37 = Q.t 37
            · have hd : decide ((P.n 29 = Q.n 29 ∧ P.n 30 = Q.n 30 ∧ P.n 31 = Q.n 31 ∧ P.n 32 = Q.n 32 ∧ P.n 33 = Q.n 33 ∧ P.n 34 = Q.n 34 ∧ P.n 35 = Q.n 35 ∧ P.n 36 = Q.n 36) ∧ P.t 37 = Q.t 37) = true := decide_eq_true hc
              have HC5 := Lib.hid hc
              rw [hd]
              clear hd hc
              go_wp2_with (refine wpList_load_rgG (by kernel_rfl) (ty := 39) rfl rfl (rg_call HP.out HKA5.out EA46.out) Tryd.underlying39 rfl in_call ?_; refine Hid.out ?_)
              refine Lib.hid ?_
              go_wp2_with (refine wpList_load_rgG (by kernel_rfl) (ty := 39) rfl rfl (rg_call HQ.out HKB5.out EB46.out) Tryd.underlying39 rfl in_call ?_; refine Hid.out ?_)
              refine Lib.hid ?_
              go_wp2_with fail
              refine (dcall_any (HA46.out.below HBW5.out) (HB46.out.below HBW5.out)).mono ?_
              rintro e w6 ⟨rfl, hb1⟩
              have hw := hb1
              have HBW6 := Lib.hid (below_call HBW5.out HBW5.out.size hw)
              have HKA6 := Lib.hid (HKA5.out.below hw HKA5.out.lt)
              have HKB6 := Lib.hid (HKB5.out.below hw HKB5.out.lt)
              clear hb1 hw HKA5 HKB5
              by_cases hc : (P.n 38 = Q.n 38 ∧ P.n 39 = Q.n 39 ∧ P.n 40 = Q.n 40 ∧ P.n 41 = Q.n 41 ∧ P.n 42 = Q.n 42 ∧ P.n 43 = Q.n 43 ∧ P.n 44 = Q.n 44 ∧ P.n 45 = Q.n 45) ∧ P.t 46 = Q.t 46
              · have hd : decide ((P.n 38 = Q.n 38 ∧ P.n 39 = Q.n 39 ∧ P.n 40 = Q.n 40 ∧ P.n 41 = Q.n 41 ∧ P.n 42 = Q.n 42 ∧ P.n 43 = Q.n 43 ∧ P.n 44 = Q.n 44 ∧ P.n 45 = Q.n 45) ∧ P.t 46 = Q.t 46) = true := decide_eq_true hc
                have HC6 := Lib.hid hc
                rw [hd]
                clear hd hc
                go_wp2_with (refine wpList_load_rgG (by kernel_rfl) (ty := 42) rfl rfl (rg_reply HP.out HKA6.out EA55.out) Tryd.underlying42 rfl in_reply ?_; refine Hid.out ?_)
                refine Lib.hid ?_
                go_wp2_with (refine wpList_load_rgG (by kernel_rfl) (ty := 42) rfl rfl (rg_reply HQ.out HKB6.out EB55.out) Tryd.underlying42 rfl in_reply ?_; refine Hid.out ?_)
                refine Lib.hid ?_
                go_wp2_with fail
                refine (dreply_any (HA55.out.below HBW6.out) (HB55.out.below HBW6.out)).mono ?_
                rintro e w7 ⟨rfl, hb1⟩
                have hw := hb1
                have HBW7 := Lib.hid (below_call HBW6.out HBW6.out.size hw)
                have HKA7 := Lib.hid (HKA6.out.below hw HKA6.out.lt)
                have HKB7 := Lib.hid (HKB6.out.below hw HKB6.out.lt)
                clear hb1 hw HKA6 HKB6
                by_cases hc : (P.n 47 = Q.n 47 ∧ P.n 48 = Q.n 48 ∧ P.n 49 = Q.n 49 ∧ P.n 50 = Q.n 50 ∧ P.n 51 = Q.n 51 ∧ P.n 52 = Q.n 52 ∧ P.n 53 = Q.n 53 ∧ P.n 54 = Q.n 54) ∧ P.t 55 = Q.t 55
                · have hd : decide ((P.n 47 = Q.n 47 ∧ P.n 48 = Q.n 48 ∧ P.n 49 = Q.n 49 ∧ P.n 50 = Q.n 50 ∧ P.n 51 = Q.n 51 ∧ P.n 52 = Q.n 52 ∧ P.n 53 = Q.n 53 ∧ P.n 54 = Q.n 54) ∧ P.t 55 = Q.t 55) = true := decide_eq_true hc
                  have HC7 := Lib.hid hc
                  rw [hd]
                  clear hd hc
                  go_wp2_with fail
                  go_ret
                  exact ⟨ret_bool (by rw [HPQ.out]; symm; rw [decide_eq_true_iff]; exact ⟨HC0.out, HC1.out, HC2.out, HC3.out, HC4.out, HC5.out, HC6.out, HC7.out⟩), HBW7.out⟩
                · have hd : decide ((P.n 47 = Q.n 47 ∧ P.n 48 = Q.n 48 ∧ P.n 49 = Q.n 49 ∧ P.n 50 = Q.n 50 ∧ P.n 51 = Q.n 51 ∧ P.n 52 = Q.n 52 ∧ P.n 53 = Q.n 53 ∧ P.n 54 = Q.n 54) ∧ P.t 55 = Q.t 55) = false := decide_eq_false hc
                  have HN := Lib.hid hc
                  rw [hd]
                  clear hd hc
                  go_wp2_with fail
                  go_ret
                  exact ⟨ret_bool (by rw [HPQ.out]; symm; rw [decide_eq_false_iff_not]; rintro ⟨q0, q1, q2, q3, q4, q5, q6, q7⟩; exact HN.out q7), HBW7.out⟩
              · have hd : decide ((P.n 38 = Q.n 38 ∧ P.n 39 = Q.n 39 ∧ P.n 40 = Q.n 40 ∧ P.n 41 = Q.n 41 ∧ P.n 42 = Q.n 42 ∧ P.n 43 = Q.n 43 ∧ P.n 44 = Q.n 44 ∧ P.n 45 = Q.n 45) ∧ P.t 46 = Q.t 46) = false := decide_eq_false hc
                have HN := Lib.hid hc
                rw [hd]
                clear hd hc
                go_wp2_with fail
                go_ret
                exact ⟨ret_bool (by rw [HPQ.out]; symm; rw [decide_eq_false_iff_not]; rintro ⟨q0, q1, q2, q3, q4, q5, q6, q7⟩; exact HN.out q6), HBW6.out⟩
            · have hd : decide ((P.n 29 = Q.n 29 ∧ P.n 30 = Q.n 30 ∧ P.n 31 = Q.n 31 ∧ P.n 32 = Q.n 32 ∧ P.n 33 = Q.n 33 ∧ P.n 34 = Q.n 34 ∧ P.n 35 = Q.n 35 ∧ P.n 36 = Q.n 36) ∧ P.t 37 = Q.t 37) = false := decide_eq_false hc
              have HN := Lib.hid hc
              rw [hd]
              clear hd hc
              go_wp2_with fail
              go_ret
              exact ⟨ret_bool (by rw [HPQ.out]; symm; rw [decide_eq_false_iff_not]; rintro ⟨q0, q1, q2, q3, q4, q5, q6, q7⟩; exact HN.out q5), HBW5.out⟩
          · have hd : decide (P.k = Q.k) = false := decide_eq_false hc
            have HN := Lib.hid hc
            rw [hd]
            clear hd hc
            go_wp2_with fail
            go_ret
            exact ⟨ret_bool (by rw [HPQ.out]; symm; rw [decide_eq_false_iff_not]; rintro ⟨q0, q1, q2, q3, q4, q5, q6, q7⟩; exact HN.out q4), HBW4.out⟩
        · have hd : decide ((P.n 19 = Q.n 19 ∧ P.n 20 = Q.n 20 ∧ P.n 21 = Q.n 21 ∧ P.n 22 = Q.n 22 ∧ P.n 23 = Q.n 23 ∧ P.n 24 = Q.n 24 ∧ P.n 25 = Q.n 25 ∧ P.n 26 = Q.n 26) ∧ P.t 27 = Q.t 27 ∧ P.k.length = Q.k.length) = false := decide_eq_false hc
          have HN := Lib.hid hc
          rw [hd]
          clear hd hc
          go_wp2_with fail
          go_ret
          exact ⟨ret_bool (by rw [HPQ.out]; symm; rw [decide_eq_false_iff_not]; rintro ⟨q0, q1, q2, q3, q4, q5, q6, q7⟩; exact HN.out q3), HBW3.out⟩
      · have hd : decide ((P.n 7 = Q.n 7 ∧ P.n 8 = Q.n 8 ∧ P.n 9 = Q.n 9 ∧ P.n 10 = Q.n 10 ∧ P.n 11 = Q.n 11 ∧ P.n 12 = Q.n 12 ∧ P.n 13 = Q.n 13 ∧ P.n 14 = Q.n 14 ∧ P.n 15 = Q.n 15 ∧ P.n 16 = Q.n 16 ∧ P.n 17 = Q.n 17) ∧ P.t 18 = Q.t 18) = false := decide_eq_false hc
        have HN := Lib.hid hc
        rw [hd]
        clear hd hc
        go_wp2_with fail
        go_ret
        exact ⟨ret_bool (by rw [HPQ.out]; symm; rw [decide_eq_false_iff_not]; rintro ⟨q0, q1, q2, q3, q4, q5, q6, q7⟩; exact HN.out q2), HBW2.out⟩
    · have hd : decide ((P.n 1 = Q.n 1 ∧ P.n 2 = Q.n 2 ∧ P.n 3 = Q.n 3 ∧ P.n 4 = Q.n 4 ∧ P.n 5 = Q.n 5) ∧ P.t 6 = Q.t 6) = false := decide_eq_false hc
      have HN := Lib.hid hc
      rw [hd]
      clear hd hc
      go_wp2_with fail
      go_ret
      exact ⟨ret_bool (by rw [HPQ.out]; symm; rw [decide_eq_false_iff_not]; rintro ⟨q0, q1, q2, q3, q4, q5, q6, q7⟩; exact HN.out q1), HBW1.out⟩
  · have hd0 : decide (P.n 0 = Q.n 0) = false := decide_eq_false hk
    have hd1 : (P.n 0 == Q.n 0) = false := beq_eq_false_iff_ne.2 hk
    have HN := Lib.hid hk
    clear hk
    go_enter Tryd.func10, Tryd.ntmps10
    go_wp2_with fail
    go_ret
    exact ⟨ret_bool (by rw [HPQ.out]; symm; rw [decide_eq_false_iff_not]; exact fun h => HN.out h.1), HBW.out⟩
end Go.Proofs.YtdckdjkkaangmaaDoor
