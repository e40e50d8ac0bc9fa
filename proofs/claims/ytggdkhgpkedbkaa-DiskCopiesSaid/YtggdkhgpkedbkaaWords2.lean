/- Words on memory, more. -/
import Derived.Test.YtggdkhgpkedbkaaWords
import Derived.Laws.IdiomStrings
import Derived.Laws.BytesArg
namespace Go.Proofs.Ytggdkhgpkedbkaa
open Go.RowKit
/-- What a call made behind a step leaves as it was. -/
theorem below_call {B : Nat} {w wa w1 : World} (h : Below B w wa) (hB : B ≤ wa.heap.size) (k : Below wa.heap.size wa w1) : Below B w w1 := h.trans (k.mono hB)
theorem below_new (w : World) (o : Obj) : Below w.heap.size w (w.alloc o) := (Below.refl _ _).alloc (Nat.le_refl _) _
theorem alloc_size (w : World) (o : Obj) : (w.alloc o).heap.size = w.heap.size + 1 := by simp
theorem World.grownBy_of_below {w w' : World} (h : Below w.heap.size w w') : w.grownBy w' none := ⟨h.os, h.tape, h.output, h.size, fun k hk _ => h.block k hk⟩
theorem own_call {w w' : World} {base : Nat} {e : TypeId} {size : Nat} {v : Value} {n : Nat} {xs : List Value} (h : w.ownsRow base e size v n xs) (hb : Below w.heap.size w w') : w'.ownsRow base e size v n xs :=
  h.kept (World.grownBy_of_below hb) (by cases v.ownBlock <;> simp)
/-- 'string(b)'. -/
theorem conv_str {P : Program} {w : World} {A : Option Addr} {l : List UInt8} {n c : Nat} {src e dst : TypeId} (hs : P.underlying src = some (.slice e)) (he : P.underlying e = some (.int .u8)) (hd : P.underlying dst = some .string)
    (h : Bytes w A l) (hn : l.length = n) : (convert src dst (.slice A n c)).run P w = .ok (.string ⟨l.toArray⟩) w := by
  subst hn
  rcases A with _ | ad
  · have hl : l = [] := by
      rcases Nat.eq_zero_or_pos l.length with h0 | h0
      · exact List.eq_nil_of_length_eq_zero h0
      · obtain ⟨ad, e, _⟩ := h.2 h0
        cases e
    subst hl
    exact run_convert_bytes_nil w src e hs he _ _ dst hd
  · refine run_convert_bytes_back w src dst e ad c l hs he hd fun j hj => ?_
    obtain ⟨ad', e', _, hc⟩ := h.at_ hj
    injection e' with e'
    subst e'
    exact hc
theorem own_bytes {w : World} {base : Nat} {e : TypeId} {A : Option Addr} {n c : Nat} {l : List UInt8} (h : w.ownsRow base e 1 (.slice A n c) n (l.map bv)) : Bytes w A l := by
  have hn : l.length = n := by have := h.1; simpa using this
  have := Reads.of_own h
  unfold Bytes
  rw [hn]
  exact this
theorem own_len {w : World} {base : Nat} {e : TypeId} {v : Value} {n : Nat} {l : List UInt8} (h : w.ownsRow base e 1 v n (l.map bv)) : l.length = n := by have := h.1; simpa using this
theorem own_ptr {w : World} {base : Nat} {e : TypeId} {size : Nat} {v : Value} {n : Nat} {xs : List Value} (h : w.ownsRow base e size v n xs) (hn : 0 < n) :
    ∃ g c, v = .slice (some ⟨g, 0, none⟩) n c ∧ base ≤ g ∧ n ≤ c ∧ c ≤ maxLen := by
  rcases h.2 with ⟨_, rfl⟩ | ⟨g, cap, cur, rfl, hb, _, h1, h2, _⟩
  · omega
  · exact ⟨g, cap, rfl, hb, h1, h2⟩
theorem Bytes.block (w : World) (t : TypeId) (l : List UInt8) (cs : Array Value) (fr : Nat × Nat) (h : cs = (l.map bv).toArray) : Bytes (w.alloc (.cells cs t fr)) (some ⟨w.heap.size, 0, none⟩) l := by
  subst h
  refine ⟨by simp, fun _ => ⟨_, rfl, by simp, fun j u hu => ?_⟩⟩
  rw [add_flat]
  have hb : (w.alloc (.cells (l.map bv).toArray t fr)).heap[w.heap.size]? = some (.cells (l.map bv).toArray t fr) := heap_alloc_new w _
  rw [cell_of_row _ _ _ _ _ _ hb]
  simpa using hu
theorem Bytes.alloc {w : World} {A : Option Addr} {l : List UInt8} (h : Bytes w A l) (o : Obj) : Bytes (w.alloc o) A l := Reads.alloc h o
theorem Bytes.nil_ (w : World) (A : Option Addr) : Bytes w A [] := Reads.nil_ w 1 A
theorem BytesV.mk_ {w : World} {A : Option Addr} {l : List UInt8} {c n : Nat} (h : Bytes w A l) (hn : n = l.length) (h1 : l.length ≤ c) (h2 : c ≤ 9223372036854775807) : BytesV w (.slice A n c) l := by
  subst hn
  exact ⟨A, c, rfl, h1, h2, h⟩
theorem Parts.block {w : World} {ls : List (List UInt8)} (t : TypeId) (vs : List Value) (cs : Array Value) (hcs : cs = vs.toArray) (hl : vs.length = ls.length) (h : ∀ (i : Nat) (v : Value) (l : List UInt8), vs[i]? = some v → ls[i]? = some l → BytesV w v l) :
    Parts (w.alloc (.cells cs t)) (some ⟨w.heap.size, 0, none⟩) ls := by
  subst hcs
  refine ⟨vs, ?_, fun i v l hv hl' => (h i v l hv hl').below (below_new w _)⟩
  rw [← hl]
  exact Reads.block w t vs
end Go.Proofs.Ytggdkhgpkedbkaa
