/- Joined texts: WireA, WireB, WireC, WireD. -/
import Derived.Test.YtdckdjkkaangmaaDoorJC
import Derived.Test.YtdckdjkkaangmaaDoorJA
/- The reading walker: its methods over cells of a block. -/
namespace Go.Proofs.YtdckdjkkaangmaaDoor
set_option linter.unusedVariables false
set_option linter.unusedSimpArgs false
set_option maxRecDepth 100000
open Go.RowKit

/-- A region's end, once for all its forks. -/
def Norm (a' : Act) (S : World → Prop) (e : Exit) (b : Act) (w' : World) : Prop := match e with | .normal => b = a' ∧ S w' | _ => False
theorem share {P : Program} {c : Code} {Q : Exit → Act → World → Prop} {a a' : Act} {w : World} {S : World → Prop} (walk : c.wp P (Norm a' S) a w) (rest : ∀ w', S w' → Q .normal a' w') : c.wp P Q a w :=
  Code.wp_mono (fun e b w' h => by
    cases e with
    | normal => obtain ⟨rfl, hs⟩ := h; exact rest w' hs
    | _ => exact h.elim) walk
/-- What a number is read as, and where the reader stands then. -/
def rUint (l : List UInt8) (s : Nat × Bool) : Nat × (Nat × Bool) := ((stepP 2 0 (l.drop s.1) s.2).1, (s.1 + (stepP 2 0 (l.drop s.1) s.2).2.2.1, (stepP 2 0 (l.drop s.1) s.2).2.2.2))
def rInt (l : List UInt8) (s : Nat × Bool) : Nat × (Nat × Bool) := if 255 < (rUint l s).1 then (0, ((rUint l s).2.1, true)) else rUint l s
def rText (l : List UInt8) (s : Nat × Bool) : List UInt8 × (Nat × Bool) := ((stepP 3 16384 (l.drop s.1) s.2).2.1, (s.1 + (stepP 3 16384 (l.drop s.1) s.2).2.2.1, (stepP 3 16384 (l.drop s.1) s.2).2.2.2))
abbrev RS := Array Value × (Nat × Bool)
def fNum (l : List UInt8) (S : RS) (o : Nat) : RS := (S.1.setIfInBounds o (.int .u64 ((rUint l S.2).1 : Int)), (rUint l S.2).2)
def fInt (l : List UInt8) (S : RS) (o : Nat) : RS := (S.1.setIfInBounds o (.int .i64 ((rInt l S.2).1 : Int)), (rInt l S.2).2)
/-- The reading walker in block xb, on the reader in r, at work on block pb. -/
structure RSt (w : World) (xb lo hi r pb : Nat) (T : TypeId) (l : List UInt8) (S : RS) : Prop where
  rd : Rdr w lo hi r l S.2.1 S.2.2
  me : Blk w xb 66 #[.pointer (some ⟨r, 0, none⟩)]
  pk : Blk w pb T S.1
  ax : ¬ Iv lo hi xb
  ap : ¬ Iv lo hi pb
  ne : xb ≠ pb
def Rw (lo hi pb b : Nat) : Prop := Iv lo hi b ∨ b = pb
theorem RSt.below {w w' : World} {xb lo hi r pb : Nat} {T : TypeId} {l : List UInt8} {S : RS} (h : RSt w xb lo hi r pb T l S) (hb : Below w.heap.size w w') : RSt w' xb lo hi r pb T l S :=
  ⟨h.rd.below hb, h.me.below hb h.me.lt, h.pk.below hb h.pk.lt, h.ax, h.ap, h.ne⟩
theorem rUint_lt (l : List UInt8) (s : Nat × Bool) : (rUint l s).1 < 18446744073709551616 := by
  refine stepP_num _ (by decide) fun x s j h => ?_
  unfold getP at h
  rw [if_neg (by decide), if_neg (by decide), if_pos rfl, Option.map_eq_some_iff] at h
  obtain ⟨⟨y, k⟩, h1, h2⟩ := h
  simp only [Prod.mk.injEq] at h2
  rw [← h2.1]
  exact (num_digits h1).2.2
/-- A pointer to a cell. -/
def pc (pb o : Nat) : Value := .pointer (some ⟨pb, o, none⟩)
/-- A cell of the block is written. -/
theorem RSt.put {w w2 : World} {xb lo hi r pb : Nat} {T : TypeId} {l : List UInt8} {S : RS} (h : RSt w xb lo hi r pb T l S) {s : Nat × Bool} (hr : Rdr w2 lo hi r l s.1 s.2) (hm : Mod (Iv lo hi) w w2) (j : Nat) (v : Value) :
    RSt (w2.setCell ⟨pb, j, none⟩ v) xb lo hi r pb T l (S.1.setIfInBounds j v, s) ∧ Mod (Rw lo hi pb) w (w2.setCell ⟨pb, j, none⟩ v) := by
  have h1 : Mod (fun b => b = pb) w2 (w2.setCell ⟨pb, j, none⟩ v) := Mod.set (S := fun b => b = pb) (Mod.refl _ _) (p := ⟨pb, j, none⟩) (fun _ => rfl) v
  exact ⟨⟨hr.mod h1 fun k h2 h3 e => h.ap (e ▸ ⟨h2, h3⟩), (h.me.mod hm h.ax).mod h1 h.ne, (h.pk.mod hm h.ap).put j v, h.ax, h.ap, h.ne⟩, (hm.mono fun b _ e => .inl e).trans (h1.mono fun b _ e => .inr e)⟩
theorem RSt.at_ {w w2 : World} {xb lo hi r pb : Nat} {T : TypeId} {l : List UInt8} {S : RS} (h : RSt w xb lo hi r pb T l S) (hm : Mod (Iv lo hi) w w2) {j : Nat} (hj : j < S.1.size) : w2.cell? ⟨pb, j, none⟩ = some S.1[j] ∧ w2.frozen? ⟨pb, j, none⟩ = false :=
  ⟨by rw [(h.pk.mod hm h.ap).cell, Array.getElem?_eq_getElem hj], (h.pk.mod hm h.ap).free j⟩
theorem fNum_size (l : List UInt8) (S : RS) (o : Nat) : (fNum l S o).1.size = S.1.size := by simp [fNum]
theorem fInt_size (l : List UInt8) (S : RS) (o : Nat) : (fInt l S o).1.size = S.1.size := by simp [fInt]
theorem fold_size {f : RS → Nat → RS} (hf : ∀ S o, (f S o).1.size = S.1.size) (os : List Nat) (S : RS) : (os.foldl f S).1.size = S.1.size := by
  induction os generalizing S with
  | nil => rfl
  | cons o os ih => rw [List.foldl_cons, ih, hf]
theorem fold_take1 {f : RS → Nat → RS} {os : List Nat} {k : Nat} (hk : k < os.length) (S : RS) : (os.take (k + 1)).foldl f S = f ((os.take k).foldl f S) os[k] := by
  rw [List.take_succ_eq_append_getElem hk, List.foldl_append]
  rfl
set_option maxHeartbeats 4000000 in
theorem rnums_any {w : World} {xb lo hi r pb : Nat} {T : TypeId} {l : List UInt8} {S : RS} (h : RSt w xb lo hi r pb T l S) (os : List Nat) (A : Option Addr) (c : Nat) (hA : Reads w 1 A os.length (os.map (pc pb))) (hn : os.length ≤ 1000000)
    (hB : ∀ ad, A = some ad → ¬ Rw lo hi pb ad.block) (ho : ∀ o ∈ os, o < S.1.size) :
    Calls Tryd.prog 108 #[.pointer (some ⟨xb, 0, none⟩), .slice A os.length c] w fun e w' => e = .returned (.tuple #[]) ∧ RSt w' xb lo hi r pb T l (os.foldl (fNum l) S) ∧ Mod (Rw lo hi pb) w w' := by
  go_enter Tryd.func108, Tryd.ntmps108
  go_wp2_with fail
  go_loopw [8] (fun i wr => ∃ k : Nat, k ≤ os.length ∧ i = .int .i64 k ∧ RSt wr xb lo hi r pb T l ((os.take k).foldl (fNum l) S) ∧ Mod (Rw lo hi pb) w wr) (fun i _ => os.length - (intOf i).toNat)
  case atStart => exact ⟨0, by omega, rfl, h, Mod.refl _ _⟩
  case round =>
    obtain ⟨k, hk, rfl, hS, hM⟩ := hrel
    by_cases hlt : k < os.length
    · have hA2 := Reads.mod hA hM hB
      obtain ⟨b, o, rfl, hbl, hc⟩ := Reads.flat hA2 (by omega) (by decide)
      have c0 : wr.cell? ⟨b, o + k, none⟩ = some (.pointer (some ⟨pb, os[k], none⟩)) := by
        exact hc k (pc pb os[k]) (by rw [List.getElem?_map, List.getElem?_eq_getElem hlt]; rfl)
      have hF := fold_take1 (f := fNum l) hlt S
      have hsz : os[k] < ((os.take k).foldl (fNum l) S).1.size := by rw [fold_size (fNum_size l)]; exact ho _ (List.getElem_mem hlt)
      generalize (os.take k).foldl (fNum l) S = R at hS hF hsz
      generalize os[k] = j at c0 hF hsz
      have m0 := hS.me.cell 0
      simp only [List.getElem?_toArray, List.getElem?_cons_zero] at m0
      have hu := rdr_uint wr lo hi r l R.2.1 R.2.2 hS.rd
      have HF := Lib.hid hF
      have HS := Lib.hid hS
      have HM := Lib.hid hM
      clear hF hS hM hA hA2 h hc
      go_wp2_with fail
      refine hu.mono ?_
      rintro e w2 ⟨rfl, hr2, hm2⟩
      obtain ⟨c1, f1⟩ := HS.out.at_ hm2 hsz
      obtain ⟨hP, hM2⟩ := HS.out.put (s := (rUint l R.2).2) hr2 hm2 j (.int .u64 ((rUint l R.2).1 : Int))
      have HP := Lib.hid hP
      have HM2 := Lib.hid hM2
      generalize R.1[j] = u at c1
      have hv : (stepP 2 0 (l.drop R.2.1) R.2.2).1 = (rUint l R.2).1 := rfl
      rw [hv]
      clear hu hr2 hm2 hP hM2 hv
      go_wp2_with fail
      go_roundw
      case rel => exact ⟨k + 1, by omega, by go_num, by rw [HF.out]; exact HP.out, HM.out.trans HM2.out⟩
      case measure => simp [intOf]; omega
    · obtain rfl : k = os.length := by omega
      rw [List.take_length] at hS
      have HS := Lib.hid hS
      clear hS
      go_wp2_with fail
      go_end0
      exact ⟨rfl, HS.out, hM⟩
end Go.Proofs.YtdckdjkkaangmaaDoor

/- The reading walker: small numbers, a text, a list. -/
namespace Go.Proofs.YtdckdjkkaangmaaDoor
set_option linter.unusedVariables false
set_option linter.unusedSimpArgs false
set_option maxRecDepth 100000
open Go.RowKit

/-- A new row of bytes that may be written. -/
def WRow (w : World) (g : Nat) (l : List UInt8) : Prop := ∃ C e fr, w.heap[g]? = some (.cells C e fr) ∧ C.size ≤ fr.1 ∧ ∀ i (_ : i < l.length), C[i]? = some (bv l[i])
section
variable {w w' : World} {g : Nat} {l : List UInt8}
theorem WRow.lt (h : WRow w g l) : g < w.heap.size := by
  obtain ⟨C, e, fr, h1, _⟩ := h
  exact (Array.getElem?_eq_some_iff.1 h1).1
theorem WRow.mod {S : Nat → Prop} (h : WRow w g l) (hm : Mod S w w') (hg : ¬ S g) : WRow w' g l := by
  have hlt := h.lt
  obtain ⟨C, e, fr, h1, h2⟩ := h
  exact ⟨C, e, fr, (hm.block g hlt hg).trans h1, h2⟩
theorem WRow.at_ (h : WRow w g l) {i : Nat} (hi : i < l.length) : w.cell? ⟨g, i, none⟩ = some (bv l[i]) ∧ w.frozen? ⟨g, i, none⟩ = false := by
  obtain ⟨C, e, ⟨f1, f2⟩, h1, h2, h3⟩ := h
  refine ⟨by rw [cell_of_row _ _ _ _ _ _ h1]; exact h3 i hi, ?_⟩
  have hlt : i < C.size := (Array.getElem?_eq_some_iff.1 (h3 i hi)).1
  unfold World.frozen?
  rw [h1]
  simp only at h2 ⊢
  simp
  omega
theorem WRow.put (h : WRow w g l) {i : Nat} (hi : i < l.length) (q : UInt8) : WRow (w.setCell ⟨g, i, none⟩ (bv q)) g (l.set i q) := by
  obtain ⟨C, e, fr, h1, h2, h3⟩ := h
  refine ⟨C.setIfInBounds i (bv q), e, fr, by simp [World.setCell, Array.getElem?_modify, h1], by simpa using h2, fun j hj => ?_⟩
  have hj' : j < l.length := by simpa using hj
  have h4 := h3 j hj'
  have hlt : j < C.size := (Array.getElem?_eq_some_iff.1 h4).1
  rw [Array.getElem?_setIfInBounds, List.getElem_set]
  by_cases e : i = j
  · subst e
    rw [if_pos rfl, if_pos hlt, if_pos rfl]
  · rw [if_neg e, if_neg e]
    exact h4
theorem WRow.bytes (h : WRow w g l) : Bytes w (some ⟨g, 0, none⟩) l := by
  refine ⟨by simp, fun _ => ⟨_, rfl, by simpa using h.lt, fun j u hu => ?_⟩⟩
  rw [add_flat, Nat.zero_add]
  have hj : j < l.length := by
    have := (List.getElem?_eq_some_iff.1 hu).1
    simpa using this
  rw [(h.at_ hj).1, ← hu, List.getElem?_map, List.getElem?_eq_getElem hj]
  rfl
end
theorem str_own_list {P : Program} {w : World} {ops : Array Oper} {rest : List Oper} {o : Oper} {a : Act} {Q : Exit → Act → World → Prop} (hgd : o.guard = none) {x : Operand} {src dst e : TypeId} (ho : o.op = .convert src dst x)
    (hs : P.underlying src = some .string) (hd : P.underlying dst = some (.slice e)) (he : P.underlying e = some (.int .u8)) {l : List UInt8} (hl : l.length ≤ 9223372036854775807) (hx : a.eval x = .string ⟨l.toArray⟩)
    (h : ∀ c w', WRow w' w.heap.size l → l.length ≤ c → c ≤ 9223372036854775807 → Below w.heap.size w w' → wpList P ops Q rest (a.put o.dst (.slice (some ⟨w.heap.size, 0, none⟩) l.length c)) w') : wpList P ops Q (o :: rest) a w :=
  wpList_plain hgd fun _ hK => by
    have hrun := run_bytes_of_string w src dst e ⟨l.toArray⟩ hs hd he
    unfold Oper.wp execOp
    simp only [ho, hx, Sem.run_bind, hrun, Result.andThen_ok, Sem.run_pure]
    refine hK _ _ (h _ _ ⟨_, _, _, heap_alloc_new w.drew _, by simp, fun i hi => ?_⟩ (grownCap_ge _ _ _ _) (grownCap_le_maxLen w _ _ _ hl) ((Below.refl _ _).drew.alloc (Nat.le_refl _) _))
    exact bytesRow_at l _ i _ (by rw [List.getElem?_map, List.getElem?_eq_getElem hi]; rfl)
set_option maxHeartbeats 4000000 in
theorem rints_any {w : World} {xb lo hi r pb : Nat} {T : TypeId} {l : List UInt8} {S : RS} (h : RSt w xb lo hi r pb T l S) (os : List Nat) (A : Option Addr) (c : Nat) (hA : Reads w 1 A os.length (os.map (pc pb))) (hn : os.length ≤ 1000000)
    (hB : ∀ ad, A = some ad → ¬ Rw lo hi pb ad.block) (ho : ∀ o ∈ os, o < S.1.size) :
    Calls Tryd.prog 106 #[.pointer (some ⟨xb, 0, none⟩), .slice A os.length c] w fun e w' => e = .returned (.tuple #[]) ∧ RSt w' xb lo hi r pb T l (os.foldl (fInt l) S) ∧ Mod (Rw lo hi pb) w w' := by
  go_enter Tryd.func106, Tryd.ntmps106
  go_wp2_with fail
  go_loopw [9] (fun i wr => ∃ k : Nat, k ≤ os.length ∧ i = .int .i64 k ∧ RSt wr xb lo hi r pb T l ((os.take k).foldl (fInt l) S) ∧ Mod (Rw lo hi pb) w wr) (fun i _ => os.length - (intOf i).toNat)
  case atStart => exact ⟨0, by omega, rfl, h, Mod.refl _ _⟩
  case round =>
    obtain ⟨k, hk, rfl, hS, hM⟩ := hrel
    by_cases hlt : k < os.length
    · have hA2 := Reads.mod hA hM hB
      obtain ⟨b, o, rfl, hbl, hc⟩ := Reads.flat hA2 (by omega) (by decide)
      have c0 : wr.cell? ⟨b, o + k, none⟩ = some (.pointer (some ⟨pb, os[k], none⟩)) := by
        exact hc k (pc pb os[k]) (by rw [List.getElem?_map, List.getElem?_eq_getElem hlt]; rfl)
      have hF := fold_take1 (f := fInt l) hlt S
      have hsz : os[k] < ((os.take k).foldl (fInt l) S).1.size := by rw [fold_size (fInt_size l)]; exact ho _ (List.getElem_mem hlt)
      generalize (os.take k).foldl (fInt l) S = R at hS hF hsz
      generalize os[k] = j at c0 hF hsz
      have m0 := hS.me.cell 0
      simp only [List.getElem?_toArray, List.getElem?_cons_zero] at m0
      have hu := rdr_uint wr lo hi r l R.2.1 R.2.2 hS.rd
      have HF := Lib.hid hF
      have HS := Lib.hid hS
      have HM := Lib.hid hM
      clear hF hS hM hA hA2 h hc
      go_wp2_with fail
      refine hu.mono ?_
      rintro e w2 ⟨rfl, hr2, hm2⟩
      by_cases hbig : 255 < (rUint l R.2).1
      · have hd1 : decide ((255 : Int) < ((rUint l R.2).1 : Int)) = true := decide_eq_true (by omega)
        have hd2 : decide (255 < (rUint l R.2).1) = true := decide_eq_true hbig
        have hI : rInt l R.2 = (0, ((rUint l R.2).2.1, true)) := by unfold rInt; rw [if_pos hbig]
        have HI := Lib.hid hI
        have hfl := rdr_fail w2 lo hi r l _ _ hr2
        have m1 := (HS.out.me.mod hm2 HS.out.ax).cell 0
        simp only [List.getElem?_toArray, List.getElem?_cons_zero] at m1
        have hv : (stepP 2 0 (l.drop R.2.1) R.2.2).1 = (rUint l R.2).1 := rfl
        rw [hv]
        clear hbig hI hv
        go_wp2_with fail
        refine hfl.mono ?_
        rintro e w3 ⟨rfl, hr3, hm3⟩
        have hm23 := hm2.trans hm3
        obtain ⟨c1, f1⟩ := HS.out.at_ hm23 hsz
        obtain ⟨hP, hM2⟩ := HS.out.put (s := ((rUint l R.2).2.1, true)) hr3 hm23 j (.int .i64 0)
        have HP := Lib.hid hP
        have HM2 := Lib.hid hM2
        generalize R.1[j] = u at c1
        clear hu hr2 hm2 hP hM2 hfl hr3 hm3 hm23
        go_wp2_with fail
        go_roundw
        case rel => exact ⟨k + 1, by omega, by go_num, by rw [HF.out]; unfold fInt; rw [HI.out]; exact HP.out, HM.out.trans HM2.out⟩
        case measure => simp [intOf]; omega
      have hd1 : decide ((255 : Int) < ((rUint l R.2).1 : Int)) = false := decide_eq_false (by omega)
      have hd2 : decide (255 < (rUint l R.2).1) = false := decide_eq_false hbig
      have hI : rInt l R.2 = rUint l R.2 := by unfold rInt; rw [if_neg hbig]
      have HI := Lib.hid hI
      have hw : IntKind.i64.wrap ((rUint l R.2).1 : Int) = ((rUint l R.2).1 : Int) := by rw [IntKind.wrap_i64]; omega
      obtain ⟨c1, f1⟩ := HS.out.at_ hm2 hsz
      obtain ⟨hP, hM2⟩ := HS.out.put (s := (rUint l R.2).2) hr2 hm2 j (.int .i64 ((rUint l R.2).1 : Int))
      have HP := Lib.hid hP
      have HM2 := Lib.hid hM2
      generalize R.1[j] = u at c1
      have hv : (stepP 2 0 (l.drop R.2.1) R.2.2).1 = (rUint l R.2).1 := rfl
      rw [hv]
      clear hu hr2 hm2 hP hM2 hv hI hbig
      go_wp2_with fail
      go_roundw
      case rel => exact ⟨k + 1, by omega, by go_num, by rw [HF.out]; unfold fInt; rw [HI.out]; exact HP.out, HM.out.trans HM2.out⟩
      case measure => simp [intOf]; omega
    · obtain rfl : k = os.length := by omega
      rw [List.take_length] at hS
      have HS := Lib.hid hS
      clear hS
      go_wp2_with fail
      go_end0
      exact ⟨rfl, HS.out, hM⟩
end Go.Proofs.YtdckdjkkaangmaaDoor

/- The reading walker: a text, a list. -/
namespace Go.Proofs.YtdckdjkkaangmaaDoor
set_option linter.unusedVariables false
set_option linter.unusedSimpArgs false
set_option maxRecDepth 100000
open Go.RowKit

theorem rText_len (l : List UInt8) (s : Nat × Bool) : (rText l s).1.length ≤ l.length := by
  unfold rText stepP
  split
  · simp
  · split
    · rename_i x t j hg
      unfold getP at hg
      rw [if_neg (by decide), if_neg (by decide), if_neg (by decide), if_pos rfl, Option.bind_eq_some_iff] at hg
      obtain ⟨⟨y, k⟩, _, hg⟩ := hg
      split at hg
      · simp only [Option.some.injEq, Prod.mk.injEq] at hg
        have h2 := hg.2.1
        subst h2
        show ((List.drop k (List.drop s.1 l)).take y).length ≤ l.length
        rw [List.length_take, List.length_drop, List.length_drop]
        omega
      · cases hg
    · simp
set_option maxHeartbeats 4000000 in
theorem rtext_any {w : World} {xb lo hi r pb : Nat} {T : TypeId} {l : List UInt8} {S : RS} (h : RSt w xb lo hi r pb T l S) (hl : l.length ≤ 1000000) (o : Nat) (ho : o < S.1.size) :
    Calls Tryd.prog 109 #[.pointer (some ⟨xb, 0, none⟩), pc pb o] w fun e w' => e = .returned (.tuple #[]) ∧ ∃ g c, (rText l S.2).1.length ≤ c ∧ c ≤ 9223372036854775807 ∧ w.heap.size ≤ g ∧ WRow w' g (rText l S.2).1 ∧
      RSt w' xb lo hi r pb T l (S.1.setIfInBounds o (.slice (some ⟨g, 0, none⟩) (rText l S.2).1.length c), (rText l S.2).2) ∧ Mod (Rw lo hi pb) w w' := by
  have m0 := h.me.cell 0
  simp only [List.getElem?_toArray, List.getElem?_cons_zero] at m0
  have hu := rdr_text w lo hi r l S.2.1 S.2.2 h.rd 16384 (by decide) (by decide)
  have hlen := rText_len l S.2
  have hv : (stepP 3 16384 (l.drop S.2.1) S.2.2).2.1 = (rText l S.2).1 := rfl
  rw [hv] at hu
  have HS := Lib.hid h
  unfold pc
  clear h hv
  go_enter Tryd.func109, Tryd.ntmps109
  go_wp2_with fail
  refine hu.mono ?_
  rintro e w2 ⟨rfl, hr2, hm2⟩
  have hr2 : Rdr w2 lo hi r l (rText l S.2).2.1 (rText l S.2).2.2 := hr2
  have HR2 := Lib.hid hr2
  have HM2 := Lib.hid hm2
  clear hu hr2 hm2
  go_wp2_with (refine str_own_list rfl rfl Tryd.underlying9 Tryd.underlying22 Tryd.underlying5 (l := (rText l S.2).1) (by omega) rfl ?_; intro c w3 hW3 hc1 hc2 hb3; refine Hid.out ?_)
  refine Lib.hid ?_
  have hS3 : RSt w3 xb lo hi r pb T l (S.1, (rText l S.2).2) := RSt.below ⟨HR2.out, HS.out.me.mod HM2.out HS.out.ax, HS.out.pk.mod HM2.out HS.out.ap, HS.out.ax, HS.out.ap, HS.out.ne⟩ hb3
  have hm3 : Mod (Rw lo hi pb) w w3 := (HM2.out.mono fun b _ e => .inl e).trans (Mod.below hb3 (Nat.le_refl _))
  obtain ⟨c1, f1⟩ := hS3.at_ (Mod.refl _ _) (j := o) ho
  obtain ⟨hP, hM4⟩ := hS3.put (s := (rText l S.2).2) hS3.rd (Mod.refl _ _) o (.slice (some ⟨w2.heap.size, 0, none⟩) (rText l S.2).1.length c)
  have hgp : ¬ w2.heap.size = pb := fun e => by have := (HS.out.pk.mod HM2.out HS.out.ap).lt; omega
  have hW4 : WRow (w3.setCell ⟨pb, o, none⟩ (.slice (some ⟨w2.heap.size, 0, none⟩) (rText l S.2).1.length c)) w2.heap.size (rText l S.2).1 := hW3.mod (S := fun b => b = pb) (Mod.set (S := fun b => b = pb) (Mod.refl _ _) (p := ⟨pb, o, none⟩) (fun _ => rfl) _) hgp
  have HP := Lib.hid hP
  have HM := Lib.hid (hm3.trans hM4)
  have HW4 := Lib.hid hW4
  have HZ := Lib.hid HM2.out.size
  simp only at c1
  generalize S.1[o] = u at c1
  clear hS3 hm3 hP hM4 hW3 hW4 hgp hb3
  go_wp2_with fail
  go_end0
  exact ⟨rfl, _, c, hc1, hc2, HZ.out, HW4.out, HP.out, HM.out⟩
theorem u64_ty : SliceTy Tryd.prog 33 24 1 8 := SliceTy.mk Tryd.underlying33 (z := .int .u64 0) (by kernel_rfl) rfl
theorem own_stay {w w' : World} {base : Nat} {e : TypeId} {size n : Nat} {v : Value} {xs : List Value} (h : w.ownsRow base e size v n xs) (hz : w.heap.size ≤ w'.heap.size) (hk : ∀ g, v.ownBlock = some g → w'.heap[g]? = w.heap[g]?) : w'.ownsRow base e size v n xs := by
  refine ⟨h.1, ?_⟩
  rcases h.2 with h2 | ⟨g, cap, cur, hv, hg, hb, r⟩
  · exact .inl h2
  · exact .inr ⟨g, cap, cur, hv, hg, (hk g (by rw [hv]; rfl)).trans hb, r⟩
theorem u64_one (l : List Nat) : ∀ u ∈ l.map u64v, u.oneCell' = true := by
  intro u hu
  obtain ⟨x, _, rfl⟩ := List.mem_map.1 hu
  rfl
/-- Numbers, one behind the other. -/
def rMany (l : List UInt8) : Nat → (Nat × Bool) → List Nat × (Nat × Bool)
  | 0, s => ([], s)
  | n + 1, s => ((rMany l n s).1 ++ [(rUint l (rMany l n s).2).1], (rUint l (rMany l n s).2).2)
theorem rMany_len (l : List UInt8) (n : Nat) (s : Nat × Bool) : (rMany l n s).1.length = n := by
  induction n with
  | zero => rfl
  | succ n ih => simp [rMany, ih]
def rList (l : List UInt8) (s : Nat × Bool) : List Nat × (Nat × Bool) := if 64 < (rUint l s).1 then ([], ((rUint l s).2.1, true)) else rMany l (rUint l s).1 (rUint l s).2
theorem RSt.modc {w w' : World} {xb lo hi r pb : Nat} {T : TypeId} {l : List UInt8} {S : RS} {Q : Nat → Prop} (h : RSt w xb lo hi r pb T l S) (hm : Mod Q w w') (hQ : ∀ b, Iv lo hi b ∨ b = xb ∨ b = pb → ¬ Q b) : RSt w' xb lo hi r pb T l S :=
  ⟨h.rd.mod hm fun k h1 h2 => hQ k (.inl ⟨h1, h2⟩), h.me.mod hm (hQ _ (.inr (.inl rfl))), h.pk.mod hm (hQ _ (.inr (.inr rfl))), h.ax, h.ap, h.ne⟩
theorem set_self {cs : Array Value} {o : Nat} {v : Value} (h : cs[o]? = some v) : cs.setIfInBounds o v = cs := by
  apply Array.ext
  · simp
  · intro i h1 h2
    rw [Array.getElem_setIfInBounds (by simpa using h1)]
    split
    · rename_i e
      subst e
      obtain ⟨_, h3⟩ := Array.getElem?_eq_some_iff.1 h
      exact h3.symm
    · rfl
theorem set_set {cs : Array Value} {o : Nat} {u v : Value} : (cs.setIfInBounds o u).setIfInBounds o v = cs.setIfInBounds o v := by
  apply Array.ext
  · simp
  · intro i h1 h2
    have hi : i < cs.size := by simpa using h1
    rw [Array.getElem_setIfInBounds (by simpa using hi), Array.getElem_setIfInBounds (by simpa using hi), Array.getElem_setIfInBounds (by simpa using hi)]
    split <;> rfl
set_option maxHeartbeats 4000000 in
theorem rlist_any {w : World} {xb lo hi r pb : Nat} {T : TypeId} {l : List UInt8} {S : RS} (h : RSt w xb lo hi r pb T l S) (hhi : hi ≤ w.heap.size) (o : Nat) (ho : S.1[o]? = some (.slice none 0 0)) :
    Calls Tryd.prog 107 #[.pointer (some ⟨xb, 0, none⟩), pc pb o, .int .i64 64] w fun e w' => e = .returned (.tuple #[]) ∧ ∃ A c, w'.ownsRow w.heap.size 24 1 (.slice A (rList l S.2).1.length c) (rList l S.2).1.length ((rList l S.2).1.map u64v) ∧
      RSt w' xb lo hi r pb T l (S.1.setIfInBounds o (.slice A (rList l S.2).1.length c), (rList l S.2).2) ∧ Mod (Rw lo hi pb) w w' := by
  have hsz : o < S.1.size := (Array.getElem?_eq_some_iff.1 ho).1
  have m0 := h.me.cell 0
  simp only [List.getElem?_toArray, List.getElem?_cons_zero] at m0
  have hu := rdr_uint w lo hi r l S.2.1 S.2.2 h.rd
  have hv : (stepP 2 0 (l.drop S.2.1) S.2.2).1 = (rUint l S.2).1 := rfl
  rw [hv] at hu
  have HS := Lib.hid h
  have HO := Lib.hid ho
  unfold pc
  clear h hv ho
  go_enter Tryd.func107, Tryd.ntmps107
  go_wp2_with fail
  refine hu.mono ?_
  rintro e w2 ⟨rfl, hr2, hm2⟩
  have hr2 : Rdr w2 lo hi r l (rUint l S.2).2.1 (rUint l S.2).2.2 := hr2
  have hS2 : RSt w2 xb lo hi r pb T l (S.1, (rUint l S.2).2) := ⟨hr2, HS.out.me.mod hm2 HS.out.ax, HS.out.pk.mod hm2 HS.out.ap, HS.out.ax, HS.out.ap, HS.out.ne⟩
  have HM2 : Hid (Mod (Rw lo hi pb) w w2) := hm2.mono fun b _ e => .inl e
  by_cases hbig : 64 < (rUint l S.2).1
  · have hd1 : decide ((64 : Int) < ((rUint l S.2).1 : Int)) = true := decide_eq_true (by omega)
    have hd2 : decide (64 < (rUint l S.2).1) = true := decide_eq_true hbig
    have hI : rList l S.2 = ([], ((rUint l S.2).2.1, true)) := by unfold rList; rw [if_pos hbig]
    have HI := Lib.hid hI
    have hfl := rdr_fail w2 lo hi r l _ _ hr2
    have m1 := hS2.me.cell 0
    simp only [List.getElem?_toArray, List.getElem?_cons_zero] at m1
    have HS2 := Lib.hid hS2
    clear hbig hI hu hr2 hm2 hS2
    go_wp2_with fail
    refine hfl.mono ?_
    rintro e w3 ⟨rfl, hr3, hm3⟩
    go_wp2_with fail
    refine bodyPost_ret (results_none rfl _ _ _) rfl ?_
    rw [HI.out]
    refine ⟨rfl, none, 0, World.ownsRow_nil _ _ _ _, ?_, HM2.out.trans (hm3.mono fun b _ e => .inl e)⟩
    simp only [List.length_nil]
    rw [set_self HO.out]
    exact ⟨hr3, HS2.out.me.mod hm3 HS.out.ax, HS2.out.pk.mod hm3 HS.out.ap, HS.out.ax, HS.out.ap, HS.out.ne⟩
  have hd1 : decide ((64 : Int) < ((rUint l S.2).1 : Int)) = false := decide_eq_false (by omega)
  have hd2 : decide (64 < (rUint l S.2).1) = false := decide_eq_false hbig
  have hI : rList l S.2 = rMany l (rUint l S.2).1 (rUint l S.2).2 := by unfold rList; rw [if_neg hbig]
  have HI := Lib.hid hI
  have hn64 : (rUint l S.2).1 ≤ 64 := by omega
  have HS2 := Lib.hid hS2
  generalize hS' : (rUint l S.2).2 = s0 at *
  generalize hn' : (rUint l S.2).1 = n at *
  clear hbig hI hu hr2 hm2 hS2 hS' hn'
  go_wp2_with fail
  clear hd1 hd2
  go_loopw [22] (fun i wr => ∃ (k : Nat) (A : Option Addr) (c : Nat), k ≤ n ∧ i = .int .u64 k ∧ wr.ownsRow w.heap.size 24 1 (.slice A k c) k ((rMany l k s0).1.map u64v) ∧ RSt wr xb lo hi r pb T l (S.1.setIfInBounds o (.slice A k c), (rMany l k s0).2) ∧ Mod (Rw lo hi pb) w wr) (fun i _ => n - (intOf i).toNat)
  case atStart =>
    refine ⟨0, none, 0, by omega, rfl, World.ownsRow_nil _ _ _ _, ?_, HM2.out⟩
    rw [set_self HO.out]
    exact HS2.out
  case round =>
    obtain ⟨k, A, c, hk, rfl, hown, hS, hM⟩ := hrel
    by_cases hlt : k < n
    · have m1 := hS.me.cell 0
      have m2 := hS.pk.cell o
      rw [Array.getElem?_setIfInBounds, if_pos rfl, if_pos hsz] at m2
      simp only [List.getElem?_toArray, List.getElem?_cons_zero] at m1
      have hun := rdr_uint wr.drew lo hi r l (rMany l k s0).2.1 (rMany l k s0).2.2 (hS.below (Below.refl _ _).drew).rd
      have hv : (stepP 2 0 (l.drop (rMany l k s0).2.1) (rMany l k s0).2.2).1 = (rUint l (rMany l k s0).2).1 := rfl
      rw [hv] at hun
      have hwk : IntKind.u64.wrap ((k : Int) + 1) = ((k + 1 : Nat) : Int) := by rw [IntKind.wrap_u64]; omega
      have HR : Hid (rMany l (k + 1) s0 = ((rMany l k s0).1 ++ [(rUint l (rMany l k s0).2).1], (rUint l (rMany l k s0).2).2)) := rfl
      have HL := Lib.hid (rMany_len l k s0)
      have HS3 := Lib.hid hS
      have HM3 := Lib.hid hM
      have HOW := Lib.hid hown
      generalize rMany l k s0 = q at *
      obtain ⟨qs, qt⟩ := q
      simp only at hun HR HL
      generalize hx : (rUint l qt).1 = x at *
      clear hx
      clear hv hM
      have hwz := HM3.out.size
      have hna := HS3.out.ax
      have hnp := HS3.out.ap
      have hpl := HS3.out.pk.lt
      have hxl := HS3.out.me.lt
      have hpw : pb < w.heap.size := HS.out.pk.lt
      have hxw : xb < w.heap.size := HS.out.me.lt
      have HF : Hid (∀ g, (Value.slice A k c).ownBlock = some g → g < wr.heap.size ∧ ¬ Iv lo hi g ∧ g ≠ pb ∧ g ≠ xb) := fun g e => by
        obtain ⟨h1, h2⟩ := HOW.out.lt g e
        exact ⟨h2, fun e => by have := e.2; omega, by omega, by omega⟩
      clear hown hS
      go_wp2_with fail
      refine PF.pf_begin (by kernel_rfl) ?_
      refine PF.pf_take0 0 (by kernel_rfl) rfl (fun _ _ _ _ _ h => h) (by kernel_rfl) (fun u => by go_simp; try rfl) ?_
      try simp only [Act.put, pz0, pz1, pz2]
      refine PF.pf_take0 1 (by kernel_rfl) rfl (fun _ _ _ _ _ h => h) (by kernel_rfl) (fun u => by go_simp; try rfl) ?_
      try simp only [Act.put, pz0, pz1, pz2]
      refine PF.pf_take0 2 (by kernel_rfl) rfl (fun _ _ _ _ _ h => h) (by kernel_rfl) (fun u => by go_simp; try rfl) ?_
      try simp only [Act.put, pz0, pz1, pz2]
      refine PF.pf_take1 3 (PF.Same (pb) _) (by kernel_rfl) rfl (fun _ _ _ _ _ h => h) (by kernel_rfl) (PF.Same.refl _ _) (fun u hu => by have hcu := hu.cell; go_simp; try rfl) ?_
      try simp only [Act.put, pz0, pz1, pz2]
      refine PF.pf_take0 4 (by kernel_rfl) rfl (fun _ _ _ _ _ h => h) (by kernel_rfl) (fun u => by go_simp; try rfl) ?_
      try simp only [Act.put, pz0, pz1, pz2]
      refine PF.pf_take0 5 (by kernel_rfl) rfl (fun _ _ _ _ _ h => h) (by kernel_rfl) (fun u => by go_simp; try rfl) ?_
      try simp only [Act.put, pz0, pz1, pz2]
      refine PF.pf_take0 6 (by kernel_rfl) rfl (fun _ _ _ _ _ h => h) (by kernel_rfl) (fun u => by go_simp; try rfl) ?_
      try simp only [Act.put, pz0, pz1, pz2]
      refine PF.pf_take1 7 (PF.Same (xb) _) (by kernel_rfl) rfl (fun _ _ _ _ _ h => h) (by kernel_rfl) (PF.Same.refl _ _) (fun u hu => by have hcu := hu.cell; go_simp; try rfl) ?_
      try simp only [Act.put, pz0, pz1, pz2]
      refine PF.pf_exec 8 (by kernel_rfl) rfl (by kernel_rfl) (fun K hK => ?_)
      go_simp
      refine hun.mono ?_
      rintro e w3 ⟨rfl, hr3, hm3⟩
      have hS4 : RSt w3 xb lo hi r pb T l (S.1.setIfInBounds o (.slice A k c), (rUint l qt).2) := ⟨hr3, (HS3.out.below (Below.refl _ _).drew).me.mod hm3 HS3.out.ax, (HS3.out.below (Below.refl _ _).drew).pk.mod hm3 HS3.out.ap, HS3.out.ax, HS3.out.ap, HS3.out.ne⟩
      have hownB : (w3.alloc (.cells #[.int .u64 (x : Int)] 24)).ownsRow w.heap.size 24 1 (.slice A k c) k (qs.map u64v) := (own_stay HOW.out hm3.size fun g e => hm3.block g (HF.out g e).1 (HF.out g e).2.1).alloc _
      have hbs : w.heap.size ≤ (w3.alloc (.cells #[.int .u64 (x : Int)] 24)).heap.size := by rw [alloc_size]; have h1 : wr.heap.size ≤ w3.heap.size := hm3.size; omega
      have hs8 : ∀ b, b = pb ∨ b = xb → w3.heap[b]? = wr.drew.heap[b]? := fun b hb => hb.elim (fun e => by rw [e]; exact hm3.block pb hpl hnp) (fun e => by rw [e]; exact hm3.block xb hxl hna)
      have hs9 : ∀ b, b = pb ∨ b = xb → (w3.alloc (.cells #[.int .u64 (x : Int)] 24)).heap[b]? = wr.drew.heap[b]? := fun b hb => ((below_new w3 _).block b (by have h1 : wr.heap.size ≤ w3.heap.size := hm3.size; rcases hb with rfl | rfl <;> omega)).trans (hs8 b hb)
      refine hK _ _ (by repeat (first | exact PF.owes_nil | refine PF.owes_left ?_ | refine PF.owes_no (by decide +kernel) ?_ | refine PF.owes_yes (by exact hs8 _ (by first | exact .inl rfl | exact .inr rfl)) ?_)) ?_
      clear hK K
      try simp only [Act.put, pz0, pz1, pz2]
      refine PF.pf_exec 9 (by kernel_rfl) rfl (by kernel_rfl) (fun K hK => ?_)
      go_simp
      refine hK _ _ (by repeat (first | exact PF.owes_nil | refine PF.owes_left ?_ | refine PF.owes_no (by decide +kernel) ?_ | refine PF.owes_yes (by exact hs9 _ (by first | exact .inl rfl | exact .inr rfl)) ?_)) ?_
      clear hK K
      try simp only [Act.put, pz0, pz1, pz2]
      refine PF.pf_exec 10 (by kernel_rfl) rfl (by kernel_rfl) (fun K hK => ?_)
      refine app_wp u64_ty rfl hownB rfl (Reads.one w3 24 (.int .u64 (x : Int))) rfl (by intro u hu; cases hu with | head => rfl | tail _ h => cases h) (by omega) hbs ?_
      intro v4 w4 ho4 hg4 _
      obtain ⟨A4, c4, rfl, _, _⟩ := own_slice ho4
      have hS5 : RSt w4 xb lo hi r pb T l (S.1.setIfInBounds o (.slice A k c), (rUint l qt).2) := (hS4.below (below_new _ _)).modc (Mod.grown (S := fun b => (Value.slice A k c).ownBlock = some b) hg4 fun g e _ => e) fun b hb e => by rcases hb with hb | hb | hb <;> have hf := HF.out b e <;> first | exact hf.2.1 hb | exact hf.2.2.2 hb | exact hf.2.2.1 hb
      have hs10 : ∀ b, b = pb ∨ b = xb → w4.heap[b]? = wr.drew.heap[b]? := fun b hb => (hg4.block b (by rw [alloc_size]; have h1 : wr.heap.size ≤ w3.heap.size := hm3.size; rcases hb with rfl | rfl <;> omega) (fun e => by have hf := HF.out b e.symm; rcases hb with hb | hb; exact hf.2.2.1 hb; exact hf.2.2.2 hb)).trans (hs9 b hb)
      obtain ⟨m5, f5⟩ := hS5.at_ (Mod.refl _ _) (j := o) (by simpa using hsz)
      refine hK _ _ (by repeat (first | exact PF.owes_nil | refine PF.owes_left ?_ | refine PF.owes_no (by decide +kernel) ?_ | refine PF.owes_yes (by exact hs10 _ (by first | exact .inl rfl | exact .inr rfl)) ?_)) ?_
      clear hK K
      try simp only [Act.put, pz0, pz1, pz2]
      refine PF.pf_take0 11 (by kernel_rfl) rfl (fun _ _ _ _ _ h => h) (by kernel_rfl) (fun u => by go_simp; try rfl) ?_
      try simp only [Act.put, pz0, pz1, pz2]
      refine PF.pf_exec 12 (by kernel_rfl) rfl (by kernel_rfl) (fun K hK => ?_)
      go_simp
      refine hK _ _ (by repeat (first | exact PF.owes_nil | refine PF.owes_left ?_ | refine PF.owes_no (by decide +kernel) ?_ | refine PF.owes_yes (by first | rfl | assumption | go_simp) ?_)) ?_
      clear hK K
      try simp only [Act.put, pz0, pz1, pz2]
      refine PF.pf_done (by kernel_rfl) ?_
      obtain ⟨hP, hM6⟩ := hS5.put (s := (rUint l qt).2) hS5.rd ((Mod.refl _ _)) o (.slice A4 (k + 1) c4)
      rw [set_set] at hP
      have m1 : Mod (Rw lo hi pb) w w3 := HM3.out.trans (((Mod.refl _ wr).drew).trans (hm3.mono fun b _ e => .inl e))
      have m2 : Mod (Rw lo hi pb) w (w3.alloc (.cells #[.int .u64 (x : Int)] 24)) := m1.alloc _
      have m3 : Mod (Rw lo hi pb) w w4 := m2.join (Mod.grown (S := fun b => (Value.slice A k c).ownBlock = some b) hg4 fun g e _ => e) fun b hb e => by have := (HOW.out.lt b e).1; omega
      have HP := Lib.hid hP
      have HM7 := Lib.hid (m3.trans hM6)
      have ho5 : (w4.setCell ⟨pb, o, none⟩ (.slice A4 (k + 1) c4)).ownsRow w.heap.size 24 1 (.slice A4 (k + 1) c4) (k + 1) ((qs ++ [x]).map u64v) := by
        rw [List.map_append]
        exact own_stay ho4 hM6.size fun g e => Below.heap_setCell w4 ⟨pb, o, none⟩ _ g fun e' => by have := (ho4.lt g e).1; have e'' : g = pb := e'; omega
      have HO5 := Lib.hid ho5
      clear hP m1 m2 m3 ho5 hM6 hS4 hS5 hownB hs8 hs9 hs10 hg4 ho4 hm3 hr3
      go_wp2_with fail
      go_roundw
      case rel => exact ⟨k + 1, A4, c4, by omega, by go_num, by rw [HR.out]; exact HO5.out, by rw [HR.out]; exact HP.out, HM7.out⟩
      case measure => simp [intOf]; omega
    · obtain rfl : k = n := by omega
      have HS3 := Lib.hid hS
      have HOW := Lib.hid hown
      have HL := Lib.hid (rMany_len l k s0)
      clear hS hown
      go_wp2_with fail
      go_end0
      rw [HI.out, HL.out]
      exact ⟨rfl, A, c, HOW.out, HS3.out, hM⟩
end Go.Proofs.YtdckdjkkaangmaaDoor

/- The reading walker: a place, ballots. -/
namespace Go.Proofs.YtdckdjkkaangmaaDoor
set_option linter.unusedVariables false
set_option linter.unusedSimpArgs false
set_option maxRecDepth 100000
open Go.RowKit

/-- Nothing that stood is written; one row of pointers is new. -/
theorem ptrs_row {w : World} {pb : Nat} (os : List Nat) (t : TypeId) : Reads ((w.alloc (.cells (os.map (pc pb)).toArray t)).drew) 1 (some ⟨w.heap.size, 0, none⟩) os.length (os.map (pc pb)) := by
  refine ⟨by simp, fun _ => ⟨_, rfl, by show _ < (w.alloc _).heap.size; simp, fun j u hu => ?_⟩⟩
  rw [add_flat, Nat.zero_add]
  show (w.alloc _).cell? _ = _
  rw [(Blk.new w t _).cell]
  simpa using hu
theorem rd_ints (xb : Nat) (w : World) : (method 286 64 (.pointer (some ⟨xb, 0, none⟩)) "scrivener/wire.ints").run Tryd.prog w = .ok (106, .pointer (some ⟨xb, 0, none⟩)) w := by kernel_rfl
theorem rd_nums (xb : Nat) (w : World) : (method 286 64 (.pointer (some ⟨xb, 0, none⟩)) "scrivener/wire.nums").run Tryd.prog w = .ok (108, .pointer (some ⟨xb, 0, none⟩)) w := by kernel_rfl
theorem rd_text (xb : Nat) (w : World) : (method 286 64 (.pointer (some ⟨xb, 0, none⟩)) "scrivener/wire.text").run Tryd.prog w = .ok (109, .pointer (some ⟨xb, 0, none⟩)) w := by kernel_rfl
theorem rd_list (xb : Nat) (w : World) : (method 286 64 (.pointer (some ⟨xb, 0, none⟩)) "scrivener/wire.list").run Tryd.prog w = .ok (107, .pointer (some ⟨xb, 0, none⟩)) w := by kernel_rfl
section
variable {w W : World} {xb lo hi r pb : Nat} {T : TypeId} {l : List UInt8} {S : RS}
theorem rints_var (h : RSt w xb lo hi r pb T l S) (hhi : hi ≤ w.heap.size) (os : List Nat) (hn : os.length ≤ 1000000) (ho : ∀ o ∈ os, o < S.1.size) (hb : Below w.heap.size w W) (hA : Reads W 1 (some ⟨w.heap.size, 0, none⟩) os.length (os.map (pc pb))) :
    Calls Tryd.prog 106 #[.pointer (some ⟨xb, 0, none⟩), .slice (some ⟨w.heap.size, 0, none⟩) os.length os.length] W fun e w' => e = .returned (.tuple #[]) ∧ RSt w' xb lo hi r pb T l (os.foldl (fInt l) S) ∧ Mod (Rw lo hi pb) w w' := by
  have hp := h.pk.lt
  refine (rints_any (h.below hb) os _ _ hA hn (fun ad e hr => ?_) ho).mono fun e w' ⟨h1, h2, h3⟩ => ⟨h1, h2, (Mod.below hb (Nat.le_refl _)).trans h3⟩
  injection e with e
  subst e
  exact hr.elim (fun e => by have e2 := e.2; simp only at e2; omega) fun e => by simp only at e; omega
theorem rnums_var (h : RSt w xb lo hi r pb T l S) (hhi : hi ≤ w.heap.size) (os : List Nat) (hn : os.length ≤ 1000000) (ho : ∀ o ∈ os, o < S.1.size) (hb : Below w.heap.size w W) (hA : Reads W 1 (some ⟨w.heap.size, 0, none⟩) os.length (os.map (pc pb))) :
    Calls Tryd.prog 108 #[.pointer (some ⟨xb, 0, none⟩), .slice (some ⟨w.heap.size, 0, none⟩) os.length os.length] W fun e w' => e = .returned (.tuple #[]) ∧ RSt w' xb lo hi r pb T l (os.foldl (fNum l) S) ∧ Mod (Rw lo hi pb) w w' := by
  have hp := h.pk.lt
  refine (rnums_any (h.below hb) os _ _ hA hn (fun ad e hr => ?_) ho).mono fun e w' ⟨h1, h2, h3⟩ => ⟨h1, h2, (Mod.below hb (Nat.le_refl _)).trans h3⟩
  injection e with e
  subst e
  exact hr.elim (fun e => by have e2 := e.2; simp only at e2; omega) fun e => by simp only at e; omega
end
theorem below_var (w : World) (o : Obj) : Below w.heap.size w (w.alloc o).drew := (below_new w o).drew
set_option maxHeartbeats 4000000 in
theorem rplace_any {w : World} {xb lo hi r pb : Nat} {T : TypeId} {l : List UInt8} {S : RS} (h : RSt w xb lo hi r pb T l S) (hhi : hi ≤ w.heap.size) (o : Nat) (ho : o + 1 < S.1.size) :
    Calls Tryd.prog 60 #[.iface 64 (.pointer (some ⟨xb, 0, none⟩)), pc pb o] w fun e w' => e = .returned (.tuple #[]) ∧ RSt w' xb lo hi r pb T l (fNum l (fInt l S o) (o + 1)) ∧ Mod (Rw lo hi pb) w w' := by
  have hm1 := rd_ints xb
  have hm2 := rd_nums xb
  have HH := Lib.hid h
  clear h
  unfold pc
  go_enter Tryd.func60, Tryd.ntmps60
  go_wp2_with fail
  apply share (S := fun w' => RSt w' xb lo hi r pb T l (fInt l S o) ∧ Mod (Rw lo hi pb) w w')
  case walk =>
    have hc := rints_var HH.out hhi [o] (by simp) (by simp; omega) (below_var w _) (ptrs_row [o] 109)
    simp only [List.map_cons, List.map_nil, List.length_cons, List.length_nil, List.foldl_cons, List.foldl_nil, pc, Nat.zero_add] at hc
    refine PF.pf_begin (by kernel_rfl) ?_
    refine PF.pf_take0 0 (by kernel_rfl) rfl (fun _ _ _ _ _ h => h) (by kernel_rfl) (fun u => by go_simp; try rfl) ?_
    try simp only [Act.put, pz0, pz1, pz2]
    refine PF.pf_take0 1 (by kernel_rfl) rfl (fun _ _ _ _ _ h => h) (by kernel_rfl) (fun u => by go_simp; try rfl) ?_
    try simp only [Act.put, pz0, pz1, pz2]
    refine PF.pf_take0 2 (by kernel_rfl) rfl (fun _ _ _ _ _ h => h) (by kernel_rfl) (fun u => by go_simp; try rfl) ?_
    try simp only [Act.put, pz0, pz1, pz2]
    refine PF.pf_take0 3 (by kernel_rfl) rfl (fun _ _ _ _ _ h => h) (by kernel_rfl) (fun u => by go_simp; try rfl) ?_
    try simp only [Act.put, pz0, pz1, pz2]
    refine PF.pf_fork [4, 5] (by kernel_rfl) rfl (PF.fork_cons ?_ (PF.fork_cons ?_ PF.fork_nil))
    -- number 4 first
    · refine PF.step_one rfl (by kernel_rfl) (fun K hK => ?_)
      go_simp
      refine hK _ _ (by repeat (first | exact PF.owes_nil | refine PF.owes_left ?_ | refine PF.owes_no (by decide +kernel) ?_ | refine PF.owes_yes (by first | rfl | assumption | go_simp) ?_)) ?_
      clear hK K
      try simp only [Act.put, pz0, pz1, pz2]
      refine PF.pf_exec 5 (by kernel_rfl) rfl (by kernel_rfl) (fun K hK => ?_)
      go_simp
      refine hK _ _ (by repeat (first | exact PF.owes_nil | refine PF.owes_left ?_ | refine PF.owes_no (by decide +kernel) ?_ | refine PF.owes_yes (by first | rfl | assumption | go_simp) ?_)) ?_
      clear hK K
      try simp only [Act.put, pz0, pz1, pz2]
      refine PF.pf_take0 6 (by kernel_rfl) rfl (fun _ _ _ _ _ h => h) (by kernel_rfl) (fun u => by go_simp; try rfl) ?_
      try simp only [Act.put, pz0, pz1, pz2]
      refine PF.pf_take0 7 (by kernel_rfl) rfl (fun _ _ _ _ _ h => h) (by kernel_rfl) (fun u => by go_simp; try rfl) ?_
      try simp only [Act.put, pz0, pz1, pz2]
      refine PF.pf_exec 8 (by kernel_rfl) rfl (by kernel_rfl) (fun K hK => ?_)
      go_simp
      refine hc.mono ?_
      rintro e w2 ⟨rfl, hS2, hM2⟩
      refine hK _ _ (by repeat (first | exact PF.owes_nil | refine PF.owes_left ?_ | refine PF.owes_no (by decide +kernel) ?_ | refine PF.owes_yes (by first | rfl | assumption | go_simp) ?_)) ?_
      clear hK K
      try simp only [Act.put, pz0, pz1, pz2]
      refine PF.pf_done (by kernel_rfl) ?_
      exact ⟨rfl, hS2, hM2⟩
    -- number 5 first
    · refine PF.step_one rfl (by kernel_rfl) (fun K hK => ?_)
      go_simp
      refine hK _ _ (by repeat (first | exact PF.owes_nil | refine PF.owes_left ?_ | refine PF.owes_no (by decide +kernel) ?_ | refine PF.owes_yes (by first | rfl | assumption | go_simp) ?_)) ?_
      clear hK K
      try simp only [Act.put, pz0, pz1, pz2]
      refine PF.pf_take0 6 (by kernel_rfl) rfl (fun _ _ _ _ _ h => h) (by kernel_rfl) (fun u => by go_simp; try rfl) ?_
      try simp only [Act.put, pz0, pz1, pz2]
      refine PF.pf_take0 7 (by kernel_rfl) rfl (fun _ _ _ _ _ h => h) (by kernel_rfl) (fun u => by go_simp; try rfl) ?_
      try simp only [Act.put, pz0, pz1, pz2]
      refine PF.pf_exec 4 (by kernel_rfl) rfl (by kernel_rfl) (fun K hK => ?_)
      go_simp
      refine hK _ _ (by repeat (first | exact PF.owes_nil | refine PF.owes_left ?_ | refine PF.owes_no (by decide +kernel) ?_ | refine PF.owes_yes (by first | rfl | assumption | go_simp) ?_)) ?_
      clear hK K
      try simp only [Act.put, pz0, pz1, pz2]
      refine PF.pf_exec 8 (by kernel_rfl) rfl (by kernel_rfl) (fun K hK => ?_)
      go_simp
      refine hc.mono ?_
      rintro e w2 ⟨rfl, hS2, hM2⟩
      refine hK _ _ (by repeat (first | exact PF.owes_nil | refine PF.owes_left ?_ | refine PF.owes_no (by decide +kernel) ?_ | refine PF.owes_yes (by first | rfl | assumption | go_simp) ?_)) ?_
      clear hK K
      try simp only [Act.put, pz0, pz1, pz2]
      refine PF.pf_done (by kernel_rfl) ?_
      exact ⟨rfl, hS2, hM2⟩
  case rest =>
    rintro w2 ⟨hS2, hM2⟩
    have hhi2 : hi ≤ w2.heap.size := Nat.le_trans hhi hM2.size
    have HS2 := Lib.hid hS2
    have HM2 := Lib.hid hM2
    clear hS2 hM2
    go_wp2_with fail
    apply share (S := fun w' => RSt w' xb lo hi r pb T l (fNum l (fInt l S o) (o + 1)) ∧ Mod (Rw lo hi pb) w w')
    case walk =>
      have hc := rnums_var HS2.out hhi2 [o + 1] (by simp) (by simp [fInt_size]; omega) (below_var w2 _) (ptrs_row [o + 1] 118)
      simp only [List.map_cons, List.map_nil, List.length_cons, List.length_nil, List.foldl_cons, List.foldl_nil, pc, Nat.zero_add] at hc
      refine PF.pf_begin (by kernel_rfl) ?_
      refine PF.pf_take0 0 (by kernel_rfl) rfl (fun _ _ _ _ _ h => h) (by kernel_rfl) (fun u => by go_simp; try rfl) ?_
      try simp only [Act.put, pz0, pz1, pz2]
      refine PF.pf_take0 1 (by kernel_rfl) rfl (fun _ _ _ _ _ h => h) (by kernel_rfl) (fun u => by go_simp; try rfl) ?_
      try simp only [Act.put, pz0, pz1, pz2]
      refine PF.pf_take0 2 (by kernel_rfl) rfl (fun _ _ _ _ _ h => h) (by kernel_rfl) (fun u => by go_simp; try rfl) ?_
      try simp only [Act.put, pz0, pz1, pz2]
      refine PF.pf_take0 3 (by kernel_rfl) rfl (fun _ _ _ _ _ h => h) (by kernel_rfl) (fun u => by go_simp; try rfl) ?_
      try simp only [Act.put, pz0, pz1, pz2]
      refine PF.pf_fork [4, 5] (by kernel_rfl) rfl (PF.fork_cons ?_ (PF.fork_cons ?_ PF.fork_nil))
      -- number 4 first
      · refine PF.step_one rfl (by kernel_rfl) (fun K hK => ?_)
        go_simp
        refine hK _ _ (by repeat (first | exact PF.owes_nil | refine PF.owes_left ?_ | refine PF.owes_no (by decide +kernel) ?_ | refine PF.owes_yes (by first | rfl | assumption | go_simp) ?_)) ?_
        clear hK K
        try simp only [Act.put, pz0, pz1, pz2]
        refine PF.pf_exec 5 (by kernel_rfl) rfl (by kernel_rfl) (fun K hK => ?_)
        go_simp
        refine hK _ _ (by repeat (first | exact PF.owes_nil | refine PF.owes_left ?_ | refine PF.owes_no (by decide +kernel) ?_ | refine PF.owes_yes (by first | rfl | assumption | go_simp) ?_)) ?_
        clear hK K
        try simp only [Act.put, pz0, pz1, pz2]
        refine PF.pf_take0 6 (by kernel_rfl) rfl (fun _ _ _ _ _ h => h) (by kernel_rfl) (fun u => by go_simp; try rfl) ?_
        try simp only [Act.put, pz0, pz1, pz2]
        refine PF.pf_take0 7 (by kernel_rfl) rfl (fun _ _ _ _ _ h => h) (by kernel_rfl) (fun u => by go_simp; try rfl) ?_
        try simp only [Act.put, pz0, pz1, pz2]
        refine PF.pf_exec 8 (by kernel_rfl) rfl (by kernel_rfl) (fun K hK => ?_)
        go_simp
        refine hc.mono ?_
        rintro e w3 ⟨rfl, hS3, hM3⟩
        refine hK _ _ (by repeat (first | exact PF.owes_nil | refine PF.owes_left ?_ | refine PF.owes_no (by decide +kernel) ?_ | refine PF.owes_yes (by first | rfl | assumption | go_simp) ?_)) ?_
        clear hK K
        try simp only [Act.put, pz0, pz1, pz2]
        refine PF.pf_done (by kernel_rfl) ?_
        exact ⟨rfl, hS3, HM2.out.trans hM3⟩
      -- number 5 first
      · refine PF.step_one rfl (by kernel_rfl) (fun K hK => ?_)
        go_simp
        refine hK _ _ (by repeat (first | exact PF.owes_nil | refine PF.owes_left ?_ | refine PF.owes_no (by decide +kernel) ?_ | refine PF.owes_yes (by first | rfl | assumption | go_simp) ?_)) ?_
        clear hK K
        try simp only [Act.put, pz0, pz1, pz2]
        refine PF.pf_take0 6 (by kernel_rfl) rfl (fun _ _ _ _ _ h => h) (by kernel_rfl) (fun u => by go_simp; try rfl) ?_
        try simp only [Act.put, pz0, pz1, pz2]
        refine PF.pf_take0 7 (by kernel_rfl) rfl (fun _ _ _ _ _ h => h) (by kernel_rfl) (fun u => by go_simp; try rfl) ?_
        try simp only [Act.put, pz0, pz1, pz2]
        refine PF.pf_exec 4 (by kernel_rfl) rfl (by kernel_rfl) (fun K hK => ?_)
        go_simp
        refine hK _ _ (by repeat (first | exact PF.owes_nil | refine PF.owes_left ?_ | refine PF.owes_no (by decide +kernel) ?_ | refine PF.owes_yes (by first | rfl | assumption | go_simp) ?_)) ?_
        clear hK K
        try simp only [Act.put, pz0, pz1, pz2]
        refine PF.pf_exec 8 (by kernel_rfl) rfl (by kernel_rfl) (fun K hK => ?_)
        go_simp
        refine hc.mono ?_
        rintro e w3 ⟨rfl, hS3, hM3⟩
        refine hK _ _ (by repeat (first | exact PF.owes_nil | refine PF.owes_left ?_ | refine PF.owes_no (by decide +kernel) ?_ | refine PF.owes_yes (by first | rfl | assumption | go_simp) ?_)) ?_
        clear hK K
        try simp only [Act.put, pz0, pz1, pz2]
        refine PF.pf_done (by kernel_rfl) ?_
        exact ⟨rfl, hS3, HM2.out.trans hM3⟩
    case rest =>
      rintro w3 ⟨hS3, hM3⟩
      have HS3 := Lib.hid hS3
      clear hS3
      go_wp2_with fail
      go_end0
      exact ⟨rfl, HS3.out, hM3⟩
end Go.Proofs.YtdckdjkkaangmaaDoor
