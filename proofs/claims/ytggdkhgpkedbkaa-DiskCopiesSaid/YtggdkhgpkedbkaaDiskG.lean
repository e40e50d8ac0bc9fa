/- A copy of files. -/
import Derived.Test.YtggdkhgpkedbkaaDiskF
namespace Go.Proofs.Ytggdkhgpkedbkaa
open Go.RowKit

section
variable {w : World} {V : Nat → Prop} {mb : Nat} {F : Files}
theorem fil_update_wp {o : Oper} {a : Act} {K : Act → World → Prop} {Q : Exit → Act → World → Prop} {m x v : Operand} (hop : o.op = Op.mapUpdate 52 m x v)
    (hm : a.eval m = .map (some mb)) {n : Nm} (hx : a.eval x = .string ⟨n.toArray⟩) {A : Option Addr} {c k : Nat} {l : List UInt8} (hv : a.eval v = .slice A k c) (hkl : k = l.length) (h : Fil w V mb F) (hn : n.length ≤ 9223372036854775807) (hF : F.length < 9223372036854775807)
    (hV : ¬ V mb) (hs : BytesIn w V (A, l.length, c) l) (hK : ∀ w', Fil w' V mb (fput n l F) → w.grownBy w' (some mb) → K (a.put o.dst undef) w') : o.wp Try.prog a w K Q := by
  subst hkl
  obtain ⟨w', hrun, h1, h2⟩ := h.store n hn hF hV hs
  unfold Oper.wp execOp
  simp only [hop, hm, hx, hv]
  simp only [nv, sv] at hrun
  simp only [Sem.run_bind, hrun, Result.andThen_ok, Sem.run_pure]
  exact hK w' h1 h2
theorem fil_update {ops : Array Oper} {rest : List Oper} {o : Oper} {a : Act} {Q : Exit → Act → World → Prop} (hg : o.guard = none) {m x v : Operand} (hop : o.op = Op.mapUpdate 52 m x v)
    (hm : a.eval m = .map (some mb)) {n : Nm} (hx : a.eval x = .string ⟨n.toArray⟩) {A : Option Addr} {c k : Nat} {l : List UInt8} (hv : a.eval v = .slice A k c) (hkl : k = l.length) (h : Fil w V mb F) (hn : n.length ≤ 9223372036854775807) (hF : F.length < 9223372036854775807)
    (hV : ¬ V mb) (hs : BytesIn w V (A, l.length, c) l) (hK : ∀ w', Fil w' V mb (fput n l F) → w.grownBy w' (some mb) → wpList Try.prog ops Q rest (a.put o.dst undef) w') : wpList Try.prog ops Q (o :: rest) a w :=
  wpList_plain hg fun _ hK' => fil_update_wp hop hm hx hv hkl h hn hF hV hs fun w' h1 h2 => hK' _ _ (hK w' h1 h2)
theorem fil_delete_wp {o : Oper} {a : Act} {K : Act → World → Prop} {Q : Exit → Act → World → Prop} {m x : Operand} (hop : o.op = Op.call { callee := Callee.builtin Builtin.delete, args := #[m, x], argTypes := #[52, 9] })
    (hm : a.eval m = .map (some mb)) {n : Nm} (hx : a.eval x = .string ⟨n.toArray⟩) (h : Fil w V mb F) (hn : n.length ≤ 9223372036854775807) (hV : ¬ V mb) (hK : ∀ w', Fil w' V mb (fdel n F) → w.grownBy w' (some mb) → K (a.put o.dst (.tuple #[])) w') : o.wp Try.prog a w K Q := by
  obtain ⟨w', hrun, h1, h2⟩ := h.drop n hn hV o.type
  unfold Oper.wp execOp
  simp only [nv] at hrun
  simp only [hop, resolve, invoke, builtin, Sem.run_bind, Sem.run_pure, Result.andThen_ok, List.map_toArray, List.map_cons, List.map_nil, hm, hx, hrun]
  exact hK w' h1 h2
theorem fil_delete {ops : Array Oper} {rest : List Oper} {o : Oper} {a : Act} {Q : Exit → Act → World → Prop} (hg : o.guard = none) {m x : Operand} (hop : o.op = Op.call { callee := Callee.builtin Builtin.delete, args := #[m, x], argTypes := #[52, 9] })
    (hm : a.eval m = .map (some mb)) {n : Nm} (hx : a.eval x = .string ⟨n.toArray⟩) (h : Fil w V mb F) (hn : n.length ≤ 9223372036854775807) (hV : ¬ V mb) (hK : ∀ w', Fil w' V mb (fdel n F) → w.grownBy w' (some mb) → wpList Try.prog ops Q rest (a.put o.dst (.tuple #[])) w') : wpList Try.prog ops Q (o :: rest) a w :=
  wpList_plain hg fun _ hK' => fil_delete_wp hop hm hx h hn hV fun w' h1 h2 => hK' _ _ (hK w' h1 h2)
end

/-- Those that have come. -/
def fdone (left : Nm → Bool) (F : Files) : Files := F.filter fun p => !left p.1
/-- Blocks from s on. -/
def From (s : Nat) (w : World) (b : Nat) : Prop := s ≤ b ∧ b < w.heap.size
theorem From.mono {s : Nat} {w w' : World} (h : w.heap.size ≤ w'.heap.size) (b : Nat) (hb : From s w b) : From s w' b := ⟨hb.1, Nat.lt_of_lt_of_le hb.2 h⟩
theorem fdone_start (F : Files) : fdone (fun k => (fget k F).isSome) F = [] := by
  unfold fdone
  rw [List.filter_eq_nil_iff]
  intro p hp
  cases h : fget p.1 F with
  | none => exact absurd rfl (fget_none.1 h p hp)
  | some _ => simp [h]
theorem fdone_end {left : Nm → Bool} (F : Files) (h : ∀ k, left k = false) : fdone left F = F := List.filter_eq_self.2 fun p _ => by simp [h]
theorem fdone_len (left : Nm → Bool) (F : Files) : (fdone left F).length ≤ F.length := List.length_filter_le _ _
theorem fdone_step {F : Files} (hF : Srt F) {left : Nm → Bool} {x : Nm} {l : List UInt8} (hx : fget x F = some l) : fput x l (fdone left F) = fdone (fun k => left k && !(k == x)) F := by
  have hs : Srt (fdone left F) := hF.filter _
  refine files_ext (srt_put hs x l) (hF.filter _) fun p => ?_
  have hm := (fget_some hF).1 hx
  rw [mem_put]
  unfold fdone
  rw [List.mem_filter, List.mem_filter]
  constructor
  · rintro (rfl | ⟨⟨h1, h2⟩, h3⟩)
    · exact ⟨hm, by simp⟩
    · exact ⟨h1, by simp at h2 ⊢; simp [h2]⟩
  · rintro ⟨h1, h2⟩
    by_cases e : p.1 = x
    · exact .inl (srt_key hF h1 hm e)
    · refine .inr ⟨⟨h1, ?_⟩, e⟩
      simp [e] at h2 ⊢
      exact h2
/-- Blocks that are new, but for one. -/
def New (n : Nat) (w' : World) (m : Nat) (b : Nat) : Prop := n ≤ b ∧ b < w'.heap.size ∧ b ≠ m
def OwnPost (w : World) (F : Files) (e : Ending) (w' : World) : Prop := ∃ m', e = .returned (fv m') ∧ w.heap.size ≤ m' ∧ Fil w' (New w.heap.size w' m') m' F
set_option maxHeartbeats 1000000 in
theorem own_any {w : World} {V : Nat → Prop} {m : Nat} {F : Files} (h : Fil w V m F) (hV : ∀ b, V b → b < w.heap.size) (hF : fsize F ≤ 70368744177664) (hN : F.length < 9223372036854775807) :
    Calls Try.prog 41 #[fv m] w fun e w' => OwnPost w F e w' ∧ Below w.heap.size w w' := by
  have hmm := @run_makeMap Try.prog
  have hS := Lib.hid h.srt
  have hml := h.lt
  have HF := Lib.hid hF
  have HN := Lib.hid hN
  have hb3 : Below w.heap.size w (((w.alloc (.cells #[.map (some m)] 54)).alloc (.cells #[.map none] 54)).alloc (.map #[] 0)) :=
    (((Below.refl _ _).alloc (Nat.le_refl _) _).alloc (by simp) _).alloc (by simp; omega) _
  have h' := h.mod (Mod.below (S := fun _ => False) hb3 (Nat.le_refl _)) (fun e => e) fun _ _ e => e
  have h0 := Fil.made ((w.alloc (.cells #[.map (some m)] 54)).alloc (.cells #[.map none] 54)) (fun _ => False)
  have hres := heap_alloc_new (w.alloc (.cells #[.map (some m)] 54)) (.cells #[.map none] 54)
  replace hres := (Below.heap_alloc _ (.map #[] 0) _ (by simp)).trans hres
  have hsz : (((w.alloc (.cells #[.map (some m)] 54)).alloc (.cells #[.map none] 54)).alloc (.map #[] 0)).heap.size = w.heap.size + 3 := by simp
  simp only [alloc_size] at h0 hres
  have HV := Lib.hid hV
  clear h hF hN hV
  unfold fv
  go_enter Try.func41, Try.ntmps41
  generalize hW : (((w.alloc (.cells #[.map (some m)] 54)).alloc (.cells #[.map none] 54)).alloc (.map #[] 0)) = W3 at hb3 h' h0 hres hsz
  have HW := Lib.hid hW
  have HZ := Lib.hid hsz
  clear hW hsz
  go_wp2_with (first | (at_range; refine fil_range rfl rfl rfl (HW.out ▸ h') (r := w.heap.size + 3) (by rw [HW.out, HZ.out]) ?_; rw [HW.out]; intro w0 hrg0 hg0) | go_in)
  go_frame
  go_loopw [4] (fun _ wr => ∃ left cnt, Ring wr V m (w.heap.size + 3) F left cnt ∧ Below w.heap.size w wr ∧ w.heap.size + 4 ≤ wr.heap.size ∧ Fil wr (From (w.heap.size + 4) wr) (w.heap.size + 1 + 1) (fdone left F) ∧ wr.heap[w.heap.size + 1]? = some (.cells #[.map none] 54 (0, 0))) (fun _ wr => wr.rangeLeft m (w.heap.size + 3))
  case atStart =>
    have hz := HZ.out
    have hr := hrg0.lt
    have hm0 : Mod (fun _ => False) W3 w0 := ⟨hg0.os, hg0.tape, hg0.output, hg0.size, fun i hi _ => hg0.block i hi (by simp)⟩
    exact ⟨_, _, hrg0, below_grown hb3 hg0 (by omega), by omega, by rw [fdone_start]; exact (h0.mod hm0 (fun e => e) fun _ _ e => e).mono fun _ e => e.elim, (hm0.block _ (by omega) fun e => e).trans hres⟩
  case round =>
    obtain ⟨left, cnt, hrg, hb, hs4, hfil, hrc⟩ := hrel
    have hVr : ¬ V (w.heap.size + 3) := fun e => by have := HV.out _ e; omega
    have HVr := Lib.hid hVr
    clear hVr h' h0 hres hrg0 hg0 hb3
    go_wp2_with (first
      | (at_next; refine fil_next rfl rfl rfl hrg HVr.out ?_ ?_)
      | go_in)
    · intro hc0 hl0
      have he := fdone_end F hl0
      rw [he] at hfil
      have hR : Blk wr (w.heap.size + 1) 54 #[.map none] := hrc
      have f1 := hR.free 0
      have hM : Mod (fun b => b = w.heap.size + 1) wr (wr.setCell ⟨w.heap.size + 1, 0, none⟩ (.map (some (w.heap.size + 1 + 1)))) := (Mod.refl (fun b => b = w.heap.size + 1) wr).set (p := ⟨w.heap.size + 1, 0, none⟩) (fun _ => rfl) _
      have c1 := hR.cell 0
      simp only [List.getElem?_toArray, List.getElem?_cons_zero] at c1
      have hP := hR.put0 (.map (some (w.heap.size + 1 + 1)))
      have hfil' := (hfil.mod hM (by omega) fun b hb e => by have := hb.1; omega).mono (V' := New w.heap.size (wr.setCell ⟨w.heap.size + 1, 0, none⟩ (.map (some (w.heap.size + 1 + 1)))) (w.heap.size + 1 + 1)) fun b hb => ⟨by have := hb.1; omega, by have := hb.2; simpa [World.setCell] using this, by have := hb.1; omega⟩
      have hb' := hb.setCell (p := ⟨w.heap.size + 1, 0, none⟩) (by simp) (.map (some (w.heap.size + 1 + 1)))
      clear hfil hrc hrg hM hb
      go_wp2_with fail
      have q1 := hP.cell 0
      simp only [List.getElem?_toArray, List.getElem?_cons_zero] at q1
      refine bodyPost_ret (v := .agg #[.map (some (w.heap.size + 1 + 1))]) (by simp [results, Try.results41, go_sem, q1]) rfl ?_
      exact ⟨⟨_, rfl, by omega, hfil'⟩, hb'⟩
    · intro x A c l w1 cnt1 hx hlx hgx hin hrg1 hlt hg1 hs1 hen
      clear hs1
      have hll : l.length ≤ 70368744177664 := Nat.le_trans (mem_len_le ((fget_some hS.out).1 hgx)) HF.out
      have hkm := hrg.left_eq
      have hcall := clone_any A c l w1 hin.bytes (by omega)
      have hz1 : wr.heap.size ≤ w1.heap.size := hg1.size
      have hfil1 := (hfil.mod (mod_of hg1) (by omega) fun b hb e => by have := hb.1; omega).mono (From.mono hz1)
      have HST := Lib.hid (fdone_step hS.out hgx (left := left))
      have HIN := Lib.hid hin
      clear hin hgx hlx
      go_wp2_with (first
        | (go_at_call 36; refine hcall.mono ?_; clear hcall; rintro e w2 ⟨⟨A2, c2, rfl, ho2⟩, hb2⟩; have hfil2 := (hfil1.mod (Mod.below (S := fun _ => False) hb2 (Nat.le_refl _)) (fun e => e) fun _ _ e => e).mono (From.mono hb2.size); have hz2 := hb2.size)
        | (at_mapUpdate; refine fil_update rfl rfl rfl rfl rfl rfl hfil2 hx (by have := HN.out; have := fdone_len left F; omega) (fun e => by have := e.1; omega) (BytesIn.of_own ho2 fun b h1 h2 => ⟨by omega, h2⟩) ?_; intro w3 hfil3 hg3)
        | go_in)
      have hz3 := hg3.size
      have hrg3 := (hrg1.mod (Mod.below (S := fun _ => False) hb2 (Nat.le_refl _)) (fun e => e) (fun e => e) fun _ _ e => e).mod (mod_of hg3) (by omega) (by omega) fun b hb e => by have := HV.out b hb; omega
      have hb3 : Below w.heap.size w w3 := below_only (below_call (below_ring hb hg1 (by omega)) (by omega) hb2) hg3 (by omega) (by omega)
      have hrc3 : w3.heap[w.heap.size + 1]? = some (.cells #[.map none] 54 (0, 0)) := (hg3.block _ (by omega) (by simp)).trans ((hb2.block _ (by omega)).trans ((hg1.block _ (by omega) (by simp)).trans hrc))
      clear hfil1 hfil2 ho2 hg1 hb2 hrg1 hrg hrc
      go_frame
      go_roundw
      case rel => exact ⟨_, _, hrg3, hb3, by omega, by rw [← HST.out]; exact hfil3.mono (From.mono hz3), hrc3⟩
      case measure => rw [hrg3.left_eq, hkm]; exact hlt
end Go.Proofs.Ytggdkhgpkedbkaa
