/- Rows at concrete addresses; rows of any width. (XMark holds the first two as well: never import both.) -/
import Derived.Test.YtggdkhgpkedbkaaWords4
namespace Go.Proofs.Ytggdkhgpkedbkaa
open Go.RowKit

theorem spot_none {w : World} {ad : Addr} {v : Value} (h : w.cell? ad = some v) : ad.spot = none := by
  unfold World.cell? at h
  split at h
  · split at h
    · cases h
    · rename_i hs; simpa using hs
  · cases h
theorem Reads.flat {w : World} {A : Option Addr} {n size : Nat} {xs : List Value} (h : Reads w size A n xs) (hn : 0 < n) (hs : 0 < size) :
    ∃ b o, A = some ⟨b, o, none⟩ ∧ b < w.heap.size ∧ ∀ j u, xs[j]? = some u → w.cell? ⟨b, o + j, none⟩ = some u := by
  obtain ⟨ad, e, hb, hc⟩ := h.2 hn
  have h0 : 0 < xs.length := by rw [h.1]; exact Nat.mul_pos hn hs
  have := hc 0 _ (List.getElem?_eq_getElem h0)
  have hsp := spot_none this
  rw [show ad.add 0 = ad from by unfold Addr.add; rfl] at hsp
  obtain ⟨b, o, s⟩ := ad
  simp only at hsp
  subst hsp
  refine ⟨b, o, e, hb, fun j u hu => ?_⟩
  rw [← add_flat]
  exact hc j u hu
theorem Bytes.flat {w : World} {A : Option Addr} {l : List UInt8} (h : Bytes w A l) (hn : 0 < l.length) : ∃ b o, A = some ⟨b, o, none⟩ ∧ b < w.heap.size ∧ ∀ j (hj : j < l.length), w.cell? ⟨b, o + j, none⟩ = some (.int .u8 (l[j].toNat : Int)) := by
  obtain ⟨b, o, e, hb, hc⟩ := Reads.flat h hn (by decide)
  refine ⟨b, o, e, hb, fun j hj => hc j _ ?_⟩
  rw [List.getElem?_map, List.getElem?_eq_getElem hj]
  rfl
section
variable {α : Type} {f : α → List Value} {K : Nat}
theorem rows_len (hf : ∀ x, (f x).length = K) : ∀ (l : List α), (l.flatMap f).length = l.length * K
  | [] => by simp
  | m :: l => by
    rw [List.flatMap_cons, List.length_append, rows_len hf l, hf, List.length_cons, Nat.add_mul]
    omega
theorem rows_at (hf : ∀ x, (f x).length = K) : ∀ (l : List α) (k i : Nat) (hk : k < l.length), i < K → (l.flatMap f)[k * K + i]? = (f l[k])[i]?
  | m :: l, 0, i, _, hi => by
    rw [List.flatMap_cons, Nat.zero_mul, Nat.zero_add, List.getElem?_append_left (by rw [hf]; exact hi)]
    rfl
  | m :: l, k + 1, i, hk, hi => by
    have e1 : (k + 1) * K + i = K + (k * K + i) := by rw [Nat.add_mul]; omega
    rw [List.flatMap_cons, e1, List.getElem?_append_right (by rw [hf]; omega), hf, Nat.add_sub_cancel_left, rows_at hf l k i (by simpa using hk) hi]
    rfl
end
end Go.Proofs.Ytggdkhgpkedbkaa
