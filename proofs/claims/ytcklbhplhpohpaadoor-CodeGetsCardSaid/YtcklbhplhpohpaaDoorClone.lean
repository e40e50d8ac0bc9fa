/- bytes.Clone. -/
import Derived.Test.YtcklbhplhpohpaaDoorWords4
import Derived.Test.YtcklbhplhpohpaaDoorChecked
import Derived.Lib.SliceRun
import Derived.Laws.IdiomStrings
import Derived.Tactics
import Derived.Handy
namespace Go.Proofs.YtcklbhplhpohpaaDoor
open Go.RowKit

theorem bytes_ty : SliceTy Tryd.prog 27 5 1 1 := SliceTy.mk Tryd.underlying27 (z := .int .u8 0) (by kernel_rfl) rfl
theorem info_u8 : (Tryd.prog.info? 5).map (fun i => (i.zero, i.size, i.bytes)) = some (some (.int .u8 0), 1, 1) := by kernel_rfl
theorem size_u8 : (Tryd.prog.info? 5).map (·.size) = some 1 := by kernel_rfl
def CloneB (base : Nat) (l : List UInt8) (e : Ending) (w' : World) : Prop := ∃ A c, e = .returned (.slice A l.length c) ∧ w'.ownsRow base 5 1 (.slice A l.length c) l.length (l.map bv)
set_option maxHeartbeats 400000 in
theorem bclone_any (A : Option Addr) (c : Nat) (l : List UInt8) (w : World) (hA : Bytes w A l) (hn : l.length ≤ 140737488355328) :
    Calls Tryd.prog 44 #[.slice A l.length c] w fun e w' => CloneB w.heap.size l e w' ∧ Below w.heap.size w w' := by
  have hen := fun (w : World) (a : Option Addr) (n c n' c' : Nat) => Lib.run_eql_slice_nil (P := Tryd.prog) w 27 5 a n c n' c' Tryd.underlying27
  rcases A with _ | ad
  · obtain rfl : l = [] := by
      rcases Nat.eq_zero_or_pos l.length with h0 | h0
      · exact List.eq_nil_of_length_eq_zero h0
      · obtain ⟨_, h, _⟩ := hA.2 h0; cases h
    go_enter Tryd.func44, Tryd.ntmps44
    go_wp2_with fail
    go_ret
    exact ⟨⟨_, _, rfl, World.ownsRow_nil _ _ _ _⟩, Below.refl _ _⟩
  · have hown0 : (w.alloc (.cells #[] 5)).ownsRow w.heap.size 5 1 (.slice (some ⟨w.heap.size, 0, none⟩) 0 0) 0 [] := World.ownsRow_made _ _ _ (Nat.le_refl _) (by simp [maxLen]) rfl
    have hA' := Reads.alloc hA (.cells #[] 5)
    have h1 := bv_one l
    generalize hrow : l.map bv = r at hA' h1
    have HR := Lib.hid hrow
    clear hrow hA
    go_enter Tryd.func44, Tryd.ntmps44
    go_wp2_with (first
      | (at_builtin; refine app_list bytes_ty rfl (s := .tmp 5) (x := .tmp 6) rfl hown0 rfl hA' rfl h1 (by omega) (by simp) ?_; intro v3 w3 hown3 hg3 _))
    go_ret
    obtain ⟨A3, c3, rfl, _, _⟩ := own_slice hown3
    refine ⟨⟨A3, c3, by simp, ?_⟩, (below_new _ _).grown hg3 (by simp) (own_ge hown0)⟩
    rw [HR.out]
    simpa using hown3
theorem row_at_head {w : World} {base : Nat} {e : TypeId} {A : Option Addr} {n c : Nat} {xs : List Value} (h : w.ownsRow base e 1 (.slice A n c) n xs) : ∀ ad, A = some ad → ad.spot = none ∧ ad.off = 0 ∧ base ≤ ad.block ∧ ad.block < w.heap.size := by
  intro ad e
  subst e
  rcases h.2 with ⟨e, _⟩ | ⟨g, c', cur, e, hg, hb, _⟩
  · cases e
  · injection e with e
    injection e with e
    subst e
    exact ⟨rfl, rfl, hg, (Array.getElem?_eq_some_iff.1 hb).1⟩
/-- '[]byte(s)': a new row. -/
theorem str_new {P : Program} (w : World) {src dst e : TypeId} (hs : P.underlying src = some .string) (hd : P.underlying dst = some (.slice e)) (he : P.underlying e = some (.int .u8)) (l : List UInt8) (hl : l.length ≤ 9223372036854775807) :
    ∃ c w', (convert src dst (.string ⟨l.toArray⟩)).run P w = .ok (.slice (some ⟨w.heap.size, 0, none⟩) l.length c) w' ∧ Bytes w' (some ⟨w.heap.size, 0, none⟩) l ∧ l.length ≤ c ∧ c ≤ 9223372036854775807 ∧ Below w.heap.size w w' := by
  refine ⟨_, _, run_bytes_of_string w src dst e ⟨l.toArray⟩ hs hd he, ?_, grownCap_ge _ _ _ _, ?_, ?_⟩
  · refine ⟨by simp, fun _ => ⟨_, rfl, by simp, fun j u hu => ?_⟩⟩
    rw [add_flat]
    have hb : ∀ (C : Array Value) (fr : Nat × Nat), (w.drew.alloc (.cells C e fr)).heap[w.heap.size]? = some (.cells C e fr) := fun C fr => heap_alloc_new w.drew _
    rw [cell_of_row _ _ _ _ _ _ (hb _ _), Nat.zero_add]
    exact bytesRow_at l _ j u hu
  · exact grownCap_le_maxLen w _ _ _ hl
  · exact (Below.refl _ _).drew.alloc (Nat.le_refl _) _
theorem str_new_list {P : Program} {w : World} {ops : Array Oper} {rest : List Oper} {o : Oper} {a : Act} {Q : Exit → Act → World → Prop} (hgd : o.guard = none) {x : Operand} {src dst e : TypeId} (ho : o.op = .convert src dst x)
    (hs : P.underlying src = some .string) (hd : P.underlying dst = some (.slice e)) (he : P.underlying e = some (.int .u8)) {l : List UInt8} (hl : l.length ≤ 9223372036854775807) (hx : a.eval x = .string ⟨l.toArray⟩)
    (h : ∀ c w', Bytes w' (some ⟨w.heap.size, 0, none⟩) l → l.length ≤ c → c ≤ 9223372036854775807 → Below w.heap.size w w' → wpList P ops Q rest (a.put o.dst (.slice (some ⟨w.heap.size, 0, none⟩) l.length c)) w') : wpList P ops Q (o :: rest) a w :=
  wpList_plain hgd fun _ hK => by
    obtain ⟨c, w', hrun, h1, h2, h3, h4⟩ := str_new w hs hd he l hl
    unfold Oper.wp execOp
    simp only [ho, hx, Sem.run_bind, hrun, Result.andThen_ok, Sem.run_pure]
    exact hK _ _ (h c w' h1 h2 h3 h4)
end Go.Proofs.YtcklbhplhpohpaaDoor
