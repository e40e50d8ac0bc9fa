/- What waits: the four closures and a torn one. -/
import Derived.Test.YtggdkhgpkedbkaaDiskG
import Derived.Test.YtggdkhgpkedbkaaRegion
import Derived.Shelf.Abstract
namespace Go.Proofs.Ytggdkhgpkedbkaa
open Go.RowKit

theorem Fil.ne {w : World} {V : Nat → Prop} {m b : Nat} {F : Files} {t : TypeId} {cs : Array Value} (h : Fil w V m F) (k : Blk w b t cs) : b ≠ m := by
  rintro rfl
  obtain ⟨E, ⟨es, clock, h1, _⟩, _⟩ := h
  unfold Blk at k
  rw [h1] at k
  cases k
inductive Chg
  | app (n : Nm) (b : List UInt8)
  | put (n : Nm) (b : List UInt8)
  | ren (a c : Nm)
  | rem (n : Nm)
def Chg.done : Chg → Files → Files
  | .app n b, F => fput n ((fget n F).getD [] ++ b) F
  | .put n b, F => fput n b F
  | .ren a c, F => fdel a (fput c ((fget a F).getD []) F)
  | .rem n, F => fdel n F
def Chg.size : Chg → Nat
  | .app _ b => b.length
  | _ => 0
def Chg.torn (k : Nat) : Chg → Files → Files
  | .app n b, F => fput n ((fget n F).getD [] ++ b.take k) F
  | _, F => F

/-- What a change to the files in block m has done. -/
def DidTo (w : World) (V : Nat → Prop) (m : Nat) (F : Files) (w' : World) : Prop := Fil w' (fun b => V b ∨ From w.heap.size w' b) m F ∧ Mod (fun b => b = m) w w'

set_option maxRecDepth 100000 in
set_option maxHeartbeats 1000000 in
theorem puts_any {w : World} {V : Nat → Prop} {m : Nat} {F : Files} (h : Fil w V m F) (hVm : ¬ V m) (hV : ∀ b, V b → b < w.heap.size) (b1 b2 : Nat) (n : Nm) (A : Option Addr) (c : Nat) (b : List UInt8) (h1 : Blk w b1 9 #[.string ⟨n.toArray⟩]) (h2 : Blk w b2 23 #[.slice A b.length c])
    (hn : n.length ≤ 9223372036854775807) (hb : Bytes w A b) (hbl : b.length ≤ 70368744177664) (hF : fsize F ≤ 70368744177664) (hN : F.length < 9223372036854775807) (hA : ∀ ad, A = some ad → ad.block ≠ m) :
    Calls Try.prog 64 #[.agg #[.map (some m)], .pointer (some ⟨b1, 0, none⟩), .pointer (some ⟨b2, 0, none⟩)] w fun e w' => e = .returned (.tuple #[]) ∧ DidTo w V m (fput n ((fget n F).getD [] ++ b) F) w' := by
  obtain ⟨A0, c0, hlk, hin⟩ := h.look n hn
  have hl0 : ((fget n F).getD []).length ≤ 70368744177664 := Nat.le_trans (flen_le h.srt n) hF
  have hml := h.lt
  have h' := h.mod ((Mod.refl (fun _ => False) w).alloc (.cells #[.map (some m)] 54)) (fun e => e) fun _ _ e => e
  generalize (fget n F).getD [] = l0 at hlk hin hl0
  have hin' := hin.mod ((Mod.refl (fun _ => False) w).alloc (.cells #[.map (some m)] 54)) fun _ _ e => e
  have hlook : ∀ u : World, u.heap[m]? = (w.alloc (.cells #[.map (some m)] 54)).heap[m]? → (Instr.lookup 52 (.map (some m)) (.string ⟨n.toArray⟩) false).run Try.prog u = .ok (.slice A0 l0.length c0) u :=
    fun u hu => (hlk u (hu.trans (Below.heap_alloc _ _ _ hml))).1
  have hb' := hb.alloc (.cells #[.map (some m)] 54)
  have k0 := Blk.new w 54 #[.map (some m)]
  have k1 := h1.alloc (.cells #[.map (some m)] 54)
  have k2 := h2.alloc (.cells #[.map (some m)] 54)
  have hl1 := h1.lt
  have hl2 := h2.lt
  have hz := alloc_size w (.cells #[.map (some m)] 54)
  have c0_ := k0.cell 0
  have c1 := k1.cell 0
  have c2 := k2.cell 0
  simp only [List.getElem?_toArray, List.getElem?_cons_zero] at c0_ c1 c2
  have HV := Lib.hid hV
  clear hlk hin hb h1 h2 h hV
  go_enter Try.func64, Try.ntmps64
  go_wp2_with fail
  generalize hw0 : w.alloc (.cells #[.map (some m)] 54) = W at *
  have HW := Lib.hid hw0
  have HZ := Lib.hid hz
  clear hw0 hz
  refine PF.pf_begin (by kernel_rfl) ?_
  refine PF.pf_take0 0 (by kernel_rfl) rfl (fun _ _ _ _ _ h => h) (by kernel_rfl) (fun u => by go_simp; try rfl) ?_
  try simp only [Act.put, List.setIfInBounds_toArray, List.set_cons_zero, List.set_cons_succ]
  refine PF.pf_take1 1 (PF.Same (w.heap.size) _) (by kernel_rfl) rfl (fun _ _ _ _ _ h => h) (by kernel_rfl) (PF.Same.refl _ _) (fun u hu => by have hcu := hu.cell; go_simp; try rfl) ?_
  try simp only [Act.put, List.setIfInBounds_toArray, List.set_cons_zero, List.set_cons_succ]
  refine PF.pf_take1 2 (PF.Same (b1) _) (by kernel_rfl) rfl (fun _ _ _ _ _ h => h) (by kernel_rfl) (PF.Same.refl _ _) (fun u hu => by have hcu := hu.cell; go_simp; try rfl) ?_
  try simp only [Act.put, List.setIfInBounds_toArray, List.set_cons_zero, List.set_cons_succ]
  refine PF.pf_take0 3 (by kernel_rfl) rfl (fun _ _ _ _ _ h => h) (by kernel_rfl) (fun u => by go_simp; try rfl) ?_
  try simp only [Act.put, List.setIfInBounds_toArray, List.set_cons_zero, List.set_cons_succ]
  refine PF.pf_take1 4 (PF.Same (w.heap.size) _) (by kernel_rfl) rfl (fun _ _ _ _ _ h => h) (by kernel_rfl) (PF.Same.refl _ _) (fun u hu => by have hcu := hu.cell; go_simp; try rfl) ?_
  try simp only [Act.put, List.setIfInBounds_toArray, List.set_cons_zero, List.set_cons_succ]
  refine PF.pf_take1 5 (PF.Same (b1) _) (by kernel_rfl) rfl (fun _ _ _ _ _ h => h) (by kernel_rfl) (PF.Same.refl _ _) (fun u hu => by have hcu := hu.cell; go_simp; try rfl) ?_
  try simp only [Act.put, List.setIfInBounds_toArray, List.set_cons_zero, List.set_cons_succ]
  refine PF.pf_take1 6 (fun u => u.heap[m]? = W.heap[m]?) (by kernel_rfl) rfl (fun _ _ _ _ _ h => h) (by kernel_rfl) (rfl) (fun u hu => by (have hlu := hlook u hu; go_simp; rfl)) ?_
  try simp only [Act.put, List.setIfInBounds_toArray, List.set_cons_zero, List.set_cons_succ]
  refine PF.pf_take1 8 (PF.Same (b2) _) (by kernel_rfl) rfl (fun _ _ _ _ _ h => h) (by kernel_rfl) (PF.Same.refl _ _) (fun u hu => by have hcu := hu.cell; go_simp; try rfl) ?_
  try simp only [Act.put, List.setIfInBounds_toArray, List.set_cons_zero, List.set_cons_succ]
  refine PF.pf_exec 7 (by kernel_rfl) rfl (by kernel_rfl) (fun K hK => ?_)
  go_simp
  refine (clone_any A0 c0 l0 W.drew (show Bytes W.drew A0 l0 from hin'.bytes) (by omega)).mono ?_
  rintro e w1 ⟨⟨A1, c1', rfl, ho1⟩, hbel1⟩
  replace hbel1 : Below W.heap.size W w1 := ((Below.refl W.heap.size W).drew).trans hbel1
  replace ho1 : w1.ownsRow W.heap.size _ _ _ _ _ := ho1
  refine hK _ _ (by repeat (first | exact PF.owes_nil | refine PF.owes_left ?_ | refine PF.owes_no (by decide +kernel) ?_ | refine PF.owes_yes (by first | exact hbel1.block _ (by rw [HZ.out]; omega)) ?_)) ?_
  clear hK K
  try simp only [Act.put, List.setIfInBounds_toArray, List.set_cons_zero, List.set_cons_succ]
  refine PF.pf_exec 9 (by kernel_rfl) rfl (by kernel_rfl) (fun K hK => ?_)
  refine app_wp bytes_ty rfl ho1 rfl (Reads.below hb' hbel1) rfl (bv_one b) (by omega) hbel1.size ?_
  intro v2 w2 ho2 hg2 hv2
  have hge := own_ge ho1
  obtain ⟨A2, c2', rfl, _, _⟩ := own_slice ho2
  refine hK _ _ (by repeat (first | exact PF.owes_nil | refine PF.owes_left ?_ | refine PF.owes_no (by decide +kernel) ?_ | refine PF.owes_yes (by exact (hg2.block _ (by have := hbel1.size; rw [HZ.out] at this; omega) (fun e => by have := hge _ e.symm; rw [HZ.out] at this; omega)).trans (hbel1.block _ (by rw [HZ.out]; omega))) ?_)) ?_
  clear hK K
  try simp only [Act.put, List.setIfInBounds_toArray, List.set_cons_zero, List.set_cons_succ]
  refine PF.pf_exec 10 (by kernel_rfl) rfl (by kernel_rfl) (fun K hK => ?_)
  have hz1 := hbel1.size
  have hz2 := hg2.size
  have hz0 := HZ.out
  have hM2 : Mod (fun b => w.heap.size ≤ b) W w2 := (Mod.below hbel1 (Nat.le_refl _)).trans (Mod.grown hg2 fun g e _ => by have := hge g e; omega)
  have hfil2 : Fil w2 (fun b => V b ∨ From w.heap.size w2 b) m F := (h'.mod hM2 (by omega) fun b hb e => by have := HV.out b hb; omega).mono fun b hb => .inl hb
  have ho2' : w2.ownsRow W.heap.size 5 1 (.slice A2 (l0 ++ b).length c2') (l0 ++ b).length ((l0 ++ b).map bv) := by simpa [List.map_append, List.length_append] using ho2
  refine fil_update_wp rfl rfl rfl rfl (by simp) hfil2 hn hN (fun e => e.elim hVm fun e => by have := e.1; omega) (BytesIn.of_own ho2' fun b e1 e2 => .inr ⟨by omega, e2⟩) ?_
  intro w3 hfil3 hg3
  refine hK _ _ (by repeat (first | exact PF.owes_nil | refine PF.owes_left ?_ | refine PF.owes_no (by decide +kernel) ?_ | refine PF.owes_yes (by first | rfl | assumption | go_simp) ?_)) ?_
  clear hK K
  try simp only [Act.put, List.setIfInBounds_toArray, List.set_cons_zero, List.set_cons_succ]
  refine PF.pf_done (by kernel_rfl) ?_
  go_end0
  refine ⟨rfl, hfil3.mono fun b hb => hb.imp id (From.mono hg3.size b), ?_⟩
  have hMW : Mod (fun b => b = m) w w2 := by
    have hw := HW.out
    subst hw
    exact ((Mod.refl _ w).alloc _).join hM2 fun b e1 e2 => by omega
  exact hMW.trans (mod_of hg3)
end Go.Proofs.Ytggdkhgpkedbkaa
