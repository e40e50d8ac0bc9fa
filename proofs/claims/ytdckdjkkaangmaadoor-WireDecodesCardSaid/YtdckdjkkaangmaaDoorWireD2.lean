/- The fields of any kind, written; a packet's row; a packet, encoded. -/
import Derived.Test.YtdckdjkkaangmaaDoorWireC2
namespace Go.Proofs.YtdckdjkkaangmaaDoor
set_option linter.unusedVariables false
set_option linter.unusedSimpArgs false
set_option maxRecDepth 100000
open Go.RowKit

theorem PkV.cellInt {w : World} {cs : Array Value} {P : Pk} (h : PkV w cs P) : ∀ o ∈ intOffs, cellN cs o = P.n o := fun o ho => cellN_of (h.ints o ho).1
theorem PkV.cellNum {w : World} {cs : Array Value} {P : Pk} (h : PkV w cs P) : ∀ o ∈ numOffs, cellN cs o = P.n o := fun o ho => cellN_of (h.nums o ho).1
theorem PkV.gfold {w : World} {cs : Array Value} {P : Pk} (h : PkV w cs P) {k : Int} (h1 : 1 ≤ k) (h2 : k ≤ 6) (S : WS) : (schema k).foldl (gF (cellN cs)) S = (schema k).foldl (gF P.n) S :=
  gF_congr (fun f hf => by
    rcases schema_sort h1 h2 f hf with ⟨_, h3⟩ | ⟨_, h3⟩
    · exact h.cellNum _ h3
    · exact h.cellInt _ h3) _
/-- The kind, written. -/
def enc0 (P : Pk) : WS := ([UInt8.ofNat (P.n 0).toNat], false)
def WFin (w0 : World) (K : Nat → Prop) (xb wb pb : Nat) (cs : Array Value) (P : Pk) (e : Ending) (w' : World) : Prop :=
  e = .returned (.bool true) ∧ WSt w' K xb wb pb 44 cs (enc P) ∧ Mod (fun b => ¬ K b) w0 w'
theorem enc_one {P : Pk} {k : Int} (h : P.n 0 = k) (h3 : k ≠ 3) : enc P = gText (P.t (txtO k)) ((schema k).foldl (gF P.n) (enc0 P)) := by
  unfold enc encS enc0
  rw [if_neg (by omega), h]
theorem enc_lst {P : Pk} (h : P.n 0 = 3) : enc P = gList P.k (gText (P.t 27) ((schema 3).foldl (gF P.n) (enc0 P))) := by
  unfold enc encS enc0
  rw [if_pos h, h]
  rfl
theorem wfields_all {w0 : World} {K : Nat → Prop} {xb wb pb : Nat} {cs : Array Value} {P : Pk} (h : WSt w0 K xb wb pb 44 cs (enc0 P)) (hP : PkV w0 cs P) (h1 : 1 ≤ P.n 0) (h2 : P.n 0 ≤ 6) (hK : ∀ o ∈ txtOffs, ∀ A n c, cs[o]? = some (.slice A n c) → 0 < n → ∀ ad, A = some ad → K ad.block)
    (hK2 : ∀ A n c, cs[28]? = some (.slice A n c) → ∀ ad, A = some ad → K ad.block) :
    Calls Tryd.prog 22 #[.iface 128 (.pointer (some ⟨xb, 0, none⟩)), pc pb 0] w0 (WFin w0 K xb wb pb cs P) := by
  have hk0 := hP.kind.1
  have ht := hP.typ
  have hl : (enc0 P).1.length ≤ 1000 := by simp [enc0]
  have hb : ∀ o ∈ txtOffs, ∃ A c, cs[o]? = some (.slice A (P.t o).length c) ∧ (∀ w', Mod (fun b => ¬ K b) w0 w' → Bytes w' A (P.t o)) ∧ (P.t o).length ≤ 1000000 := fun o ho => by
    obtain ⟨A, c, e, b1, _, _, b4⟩ := hP.txts o ho
    refine ⟨A, c, e, fun w' hm => ?_, b4⟩
    by_cases h0 : 0 < (P.t o).length
    · exact b1.mod hm fun ad ea hn => hn (hK o ho A _ _ e h0 ad ea)
    · have h00 : P.t o = [] := List.length_eq_zero_iff.1 (by omega)
      rw [h00]
      exact Bytes.nil_ _ _
  rcases six h1 h2 with hk | hk | hk | hk | hk | hk
  · obtain ⟨A, c, e, b1, b2⟩ := hb 6 (by decide)
    refine (wfields_ask h (by rw [hk0, hk]) ht hl e b1 b2).mono fun e' w' ⟨q1, q2, q3⟩ => ⟨q1, ?_, q3⟩
    rw [askW_eq, hP.gfold (by decide) (by decide)] at q2
    rw [enc_one hk (by decide)]
    exact q2
  · obtain ⟨A, c, e, b1, b2⟩ := hb 18 (by decide)
    refine (wfields_says h (by rw [hk0, hk]) ht hl e b1 b2).mono fun e' w' ⟨q1, q2, q3⟩ => ⟨q1, ?_, q3⟩
    rw [saysW_eq, hP.gfold (by decide) (by decide)] at q2
    rw [enc_one hk (by decide)]
    exact q2
  · obtain ⟨A, c, e, b1, b2⟩ := hb 27 (by decide)
    obtain ⟨A2, c2, e2, k1, _, _, k4⟩ := hP.keep
    refine (wfields_req h (by rw [hk0, hk]) ht hl e b1 b2 e2 (fun w' hm => Reads.mod k1 hm fun ad ea hn => hn (hK2 _ _ _ e2 ad ea)) hP.keeps (fun ad ea => hK2 _ _ _ e2 ad ea) k4).mono fun e' w' ⟨q1, q2, q3⟩ => ⟨q1, ?_, q3⟩
    rw [reqW_eq, hP.gfold (by decide) (by decide)] at q2
    rw [enc_lst hk]
    exact q2
  · obtain ⟨A, c, e, b1, b2⟩ := hb 37 (by decide)
    refine (wfields_resp h (by rw [hk0, hk]) ht hl e b1 b2).mono fun e' w' ⟨q1, q2, q3⟩ => ⟨q1, ?_, q3⟩
    rw [respW_eq, hP.gfold (by decide) (by decide)] at q2
    rw [enc_one hk (by decide)]
    exact q2
  · obtain ⟨A, c, e, b1, b2⟩ := hb 46 (by decide)
    refine (wfields_call h (by rw [hk0, hk]) ht hl e b1 b2).mono fun e' w' ⟨q1, q2, q3⟩ => ⟨q1, ?_, q3⟩
    rw [callW_eq, hP.gfold (by decide) (by decide)] at q2
    rw [enc_one hk (by decide)]
    exact q2
  · obtain ⟨A, c, e, b1, b2⟩ := hb 55 (by decide)
    refine (wfields_reply h (by rw [hk0, hk]) ht hl e b1 b2 (hP.ints 50 (by decide)).1).mono fun e' w' ⟨q1, q2, q3⟩ => ⟨q1, ?_, q3⟩
    rw [replyW_eq, hP.gfold (by decide) (by decide)] at q2
    rw [enc_one hk (by decide)]
    exact q2
end Go.Proofs.YtdckdjkkaangmaaDoor
