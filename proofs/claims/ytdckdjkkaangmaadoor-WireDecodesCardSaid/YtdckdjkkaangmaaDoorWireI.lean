/- The writing walker: its methods over cells of a block. -/
import Derived.Test.YtdckdjkkaangmaaDoorJE
namespace Go.Proofs.YtdckdjkkaangmaaDoor
set_option linter.unusedVariables false
set_option linter.unusedSimpArgs false
set_option maxRecDepth 100000
open Go.RowKit

def From (lo : Nat) (w : World) (b : Nat) : Prop := lo ≤ b ∧ b < w.heap.size
abbrev WS := List UInt8 × Bool
def cellN (cs : Array Value) (o : Nat) : Int := match cs[o]? with | some (.int _ n) => n | _ => 0
def gNum (cs : Array Value) (S : WS) (o : Nat) : WS := (S.1 ++ short (cellN cs o).toNat, S.2)
def gInt (cs : Array Value) (S : WS) (o : Nat) : WS := (S.1 ++ short (max (cellN cs o) 0).toNat, S.2 || decide (cellN cs o < 0) || decide (255 < cellN cs o))
/-- The cell is a number that is to be written. -/
def IsNum (cs : Array Value) (o : Nat) : Prop := ∃ n : Int, cs[o]? = some (.int .u64 n) ∧ 0 ≤ n ∧ n < 18446744073709551616
def IsInt (cs : Array Value) (o : Nat) : Prop := ∃ n : Int, cs[o]? = some (.int .i64 n) ∧ -9223372036854775808 ≤ n ∧ n < 9223372036854775808
/-- The writing walker in block xb, on the writer in wb, at work on block pb; K's blocks are none of its own. -/
structure WSt (w : World) (K : Nat → Prop) (xb wb pb : Nat) (T : TypeId) (cs : Array Value) (S : WS) : Prop where
  wr : ∃ row, Wr w wb row S.1 ∧ some xb ≠ row ∧ ∀ b, K b → b ≠ wb ∧ some b ≠ row
  me : Blk w xb 132 #[.pointer (some ⟨wb, 0, none⟩), .bool S.2]
  pk : Blk w pb T cs
  ne : xb ≠ wb
  kp : K pb
  kx : ∀ b, K b → b < w.heap.size ∧ b ≠ xb
section
variable {w w' W : World} {K K' : Nat → Prop} {xb wb pb : Nat} {T : TypeId} {cs : Array Value} {S : WS}
theorem WSt.below (h : WSt w K xb wb pb T cs S) (hb : Below w.heap.size w w') : WSt w' (fun b => K b ∨ From w.heap.size w' b) xb wb pb T cs S := by
  obtain ⟨⟨row, h1, h2, h3⟩, h4, h5, h6, h7, h8⟩ := h
  refine ⟨⟨row, h1.below hb, h2, fun b hk => ?_⟩, h4.below hb h4.lt, h5.below hb h5.lt, h6, .inl h7, fun b hk => ?_⟩
  · rcases hk with hk | hk
    · exact h3 b hk
    · exact ⟨fun e => by have := h1.lt; have := hk.1; omega, fun e => by have := h1.row_lt b e.symm; have := hk.1; omega⟩
  · rcases hk with hk | hk
    · exact ⟨Nat.lt_of_lt_of_le (h8 b hk).1 hb.size, (h8 b hk).2⟩
    · exact ⟨hk.2, fun e => by have := h4.lt; have := hk.1; omega⟩
theorem WSt.less (h : WSt w K xb wb pb T cs S) (hK : ∀ b, K' b → K b) (hp : K' pb) : WSt w K' xb wb pb T cs S := by
  obtain ⟨⟨row, h1, h2, h3⟩, h4, h5, h6, h7, h8⟩ := h
  exact ⟨⟨row, h1, h2, fun b hk => h3 b (hK b hk)⟩, h4, h5, h6, hp, fun b hk => h8 b (hK b hk)⟩
theorem WSt.same (h : WSt w K xb wb pb T cs S) (hb : Below w.heap.size w w') : WSt w' K xb wb pb T cs S := (h.below hb).less (fun b => .inl) h.kp
/-- The writer has written. -/
theorem WSt.wrote {l : List UInt8} (h : WSt w K xb wb pb T cs S) {row : Option Nat} (hw : Wr w wb row S.1) (h2 : some xb ≠ row) (h3 : ∀ b, K b → b ≠ wb ∧ some b ≠ row) (ht : Wrt wb row l w w') : WSt w' K xb wb pb T cs (l, S.2) ∧ Mod (fun b => ¬ K b) w w' := by
  obtain ⟨row', t1, t2, t3⟩ := ht
  have hx := h.me.lt
  refine ⟨⟨⟨row', t1, ?_, fun b hk => ⟨(h3 b hk).1, ?_⟩⟩, h.me.mod t3 (fun e => e.elim h.ne h2), h.pk.mod t3 (fun e => e.elim (h3 _ h.kp).1 (h3 _ h.kp).2), h.ne, h.kp, fun b hk => ⟨Nat.lt_of_lt_of_le (h.kx b hk).1 t3.size, (h.kx b hk).2⟩⟩, t3.mono fun b _ e hk => e.elim (h3 b hk).1 (h3 b hk).2⟩
  · rcases t2 with rfl | ⟨g, hg, rfl⟩
    · exact h2
    · intro e; injection e with e; omega
  · rcases t2 with rfl | ⟨g, hg, rfl⟩
    · exact (h3 b hk).2
    · intro e; injection e with e; have := (h.kx b hk).1; omega
/-- The walker's mark is set. -/
theorem WSt.bad (h : WSt w K xb wb pb T cs S) (v : Bool) : WSt (w.setCell ⟨xb, 1, none⟩ (.bool v)) K xb wb pb T cs (S.1, v) ∧ Mod (fun b => ¬ K b) w (w.setCell ⟨xb, 1, none⟩ (.bool v)) := by
  have hm : Mod (fun b => b = xb) w (w.setCell ⟨xb, 1, none⟩ (.bool v)) := Mod.set (S := fun b => b = xb) (Mod.refl _ _) (p := ⟨xb, 1, none⟩) (fun _ => rfl) _
  obtain ⟨⟨row, h1, h2, h3⟩, h4, h5, h6, h7, h8⟩ := h
  refine ⟨⟨⟨row, ?_, h2, h3⟩, h4.put 1 _, h5.mod hm (h8 _ h7).2, h6, h7, fun b hk => ⟨Nat.lt_of_lt_of_le (h8 b hk).1 hm.size, (h8 b hk).2⟩⟩, hm.mono fun b _ e hk => (h8 b hk).2 e⟩
  exact Buf.mod h1 hm (fun e => h6 e.symm) fun g e e' => h2 (by rw [e, e'])
end
def WTo (w : World) (K : Nat → Prop) (xb wb pb : Nat) (T : TypeId) (cs : Array Value) (S : WS) (e : Ending) (w' : World) : Prop := e = .returned (.tuple #[]) ∧ WSt w' K xb wb pb T cs S ∧ Mod (fun b => ¬ K b) w w'
theorem gfold_take {g : WS → Nat → WS} {os : List Nat} {k : Nat} (hk : k < os.length) (S : WS) : (os.take (k + 1)).foldl g S = g ((os.take k).foldl g S) os[k] := by
  rw [List.take_succ_eq_append_getElem hk, List.foldl_append]
  rfl
theorem short_len' (x : Nat) (hx : x < 18446744073709551616) : (short x).length ≤ 10 := short_len hx
set_option maxHeartbeats 4000000 in
theorem wnums_any {w : World} {K : Nat → Prop} {xb wb pb : Nat} {T : TypeId} {cs : Array Value} {S : WS} (h : WSt w K xb wb pb T cs S) (os : List Nat) (A : Option Addr) (c : Nat) (hA : Reads w 1 A os.length (os.map (pc pb))) (hn : os.length ≤ 1000000)
    (hB : ∀ ad, A = some ad → K ad.block) (ho : ∀ o ∈ os, IsNum cs o) (hl : S.1.length ≤ 1000000000) :
    Calls Tryd.prog 117 #[.pointer (some ⟨xb, 0, none⟩), .slice A os.length c] w (WTo w K xb wb pb T cs (os.foldl (gNum cs) S)) := by
  go_enter Tryd.func117, Tryd.ntmps117
  go_wp2_with fail
  go_loopw [8] (fun i wr => ∃ k : Nat, k ≤ os.length ∧ i = .int .i64 k ∧ WSt wr K xb wb pb T cs ((os.take k).foldl (gNum cs) S) ∧ ((os.take k).foldl (gNum cs) S).1.length ≤ S.1.length + 10 * k ∧ Mod (fun b => ¬ K b) w wr) (fun i _ => os.length - (intOf i).toNat)
  case atStart => exact ⟨0, by omega, rfl, h, by simp, Mod.refl _ _⟩
  case round =>
    obtain ⟨k, hk, rfl, hS, hL, hM⟩ := hrel
    by_cases hlt : k < os.length
    · have hA2 := Reads.mod hA hM fun ad e hn => hn (hB ad e)
      obtain ⟨b, o, rfl, hbl, hc⟩ := Reads.flat hA2 (by omega) (by decide)
      have c0 : wr.cell? ⟨b, o + k, none⟩ = some (.pointer (some ⟨pb, os[k], none⟩)) := by
        exact hc k (pc pb os[k]) (by rw [List.getElem?_map, List.getElem?_eq_getElem hlt]; rfl)
      have hF := gfold_take (g := gNum cs) hlt S
      obtain ⟨n, hn1, hn2, hn3⟩ := ho _ (List.getElem_mem hlt)
      generalize (os.take k).foldl (gNum cs) S = R at hS hF hL
      generalize os[k] = j at c0 hF hn1
      have m0 := hS.me.cell 0
      have p0 := hS.pk.cell j
      rw [hn1] at p0
      simp only [List.getElem?_toArray, List.getElem?_cons_zero] at m0
      obtain ⟨row, hr1, hr2, hr3⟩ := (hS.same (Below.refl _ wr).drew).wr
      obtain ⟨x, rfl⟩ := Int.eq_ofNat_of_zero_le hn2
      have hu := wuint_any wb row R.1 x (by omega) wr.drew hr1 (by omega)
      have hsl := short_len' x (by omega)
      have hcn : gNum cs R j = (R.1 ++ short x, R.2) := by
        unfold gNum cellN
        rw [hn1]
        rfl
      rw [hcn] at hF
      have HF := Lib.hid hF
      have HS := Lib.hid (hS.same (Below.refl _ wr).drew)
      have HR := Lib.hid hr1
      have HR2 := Lib.hid hr2
      have HR3 := Lib.hid hr3
      have HM := Lib.hid hM
      clear hF hS hM hA hA2 h hc hn1 hcn hr1 hr2 hr3
      go_wp2_with fail
      refine PF.pf_begin (by kernel_rfl) ?_
      refine PF.pf_take0 0 (by kernel_rfl) rfl (fun _ _ _ _ _ h => h) (by kernel_rfl) (fun u => by go_simp; try rfl) ?_
      try simp only [Act.put, pz0, pz1, pz2]
      refine PF.pf_take0 1 (by kernel_rfl) rfl (fun _ _ _ _ _ h => h) (by kernel_rfl) (fun u => by go_simp; try rfl) ?_
      try simp only [Act.put, pz0, pz1, pz2]
      refine PF.pf_take0 2 (by kernel_rfl) rfl (fun _ _ _ _ _ h => h) (by kernel_rfl) (fun u => by go_simp; try rfl) ?_
      try simp only [Act.put, pz0, pz1, pz2]
      refine PF.pf_take1 3 (PF.Same (xb) _) (by kernel_rfl) rfl (fun _ _ _ _ _ h => h) (by kernel_rfl) (PF.Same.refl _ _) (fun u hu => by have hcu := hu.cell; go_simp; try rfl) ?_
      try simp only [Act.put, pz0, pz1, pz2]
      refine PF.pf_take0 4 (by kernel_rfl) rfl (fun _ _ _ _ _ h => h) (by kernel_rfl) (fun u => by go_simp; try rfl) ?_
      try simp only [Act.put, pz0, pz1, pz2]
      refine PF.pf_take0 5 (by kernel_rfl) rfl (fun _ _ _ _ _ h => h) (by kernel_rfl) (fun u => by go_simp; try rfl) ?_
      try simp only [Act.put, pz0, pz1, pz2]
      refine PF.pf_take1 6 (PF.Same (pb) _) (by kernel_rfl) rfl (fun _ _ _ _ _ h => h) (by kernel_rfl) (PF.Same.refl _ _) (fun u hu => by have hcu := hu.cell; go_simp; try rfl) ?_
      try simp only [Act.put, pz0, pz1, pz2]
      refine PF.pf_exec 7 (by kernel_rfl) rfl (by kernel_rfl) (fun K hK => ?_)
      go_simp
      refine hu.mono ?_
      rintro e w2 ⟨rfl, hw2⟩
      refine hK _ _ (by repeat (first | exact PF.owes_nil | refine PF.owes_left ?_ | refine PF.owes_no (by decide +kernel) ?_ | refine PF.owes_yes (by first | rfl | assumption | go_simp) ?_)) ?_
      clear hK K
      try simp only [Act.put, pz0, pz1, pz2]
      refine PF.pf_done (by kernel_rfl) ?_
      obtain ⟨hS2, hM2⟩ := HS.out.wrote HR.out HR2.out HR3.out hw2
      have HS2 := Lib.hid hS2
      have HM2 := Lib.hid (HM.out.trans (((Mod.refl _ wr).drew).trans hM2))
      clear hu hw2 hS2 hM2
      go_wp2_with fail
      go_roundw
      case rel => exact ⟨k + 1, by omega, by go_num, by rw [HF.out]; exact HS2.out, by rw [HF.out]; simp only [List.length_append]; omega, HM2.out⟩
      case measure => simp [intOf]; omega
    · obtain rfl : k = os.length := by omega
      rw [List.take_length] at hS
      have HS := Lib.hid hS
      clear hS
      go_wp2_with fail
      go_end0
      exact ⟨rfl, HS.out, hM⟩
end Go.Proofs.YtdckdjkkaangmaaDoor
