/- What waits: the other closures. -/
import Derived.Test.YtggdkhgpkedbkaaDiskH
namespace Go.Proofs.Ytggdkhgpkedbkaa
open Go.RowKit

set_option maxRecDepth 100000 in
set_option maxHeartbeats 1000000 in
theorem putd_any {w : World} {V : Nat → Prop} {m : Nat} {F : Files} (h : Fil w V m F) (hVm : ¬ V m) (hV : ∀ b, V b → b < w.heap.size) (b1 b2 : Nat) (n : Nm) (A : Option Addr) (c : Nat) (b : List UInt8) (h1 : Blk w b1 9 #[.string ⟨n.toArray⟩]) (h2 : Blk w b2 23 #[.slice A b.length c])
    (hn : n.length ≤ 9223372036854775807) (hb : Bytes w A b) (hbl : b.length ≤ 70368744177664) (hN : F.length < 9223372036854775807) :
    Calls Try.prog 39 #[.agg #[.map (some m)], .pointer (some ⟨b2, 0, none⟩), .pointer (some ⟨b1, 0, none⟩)] w fun e w' => e = .returned (.tuple #[]) ∧ DidTo w V m (fput n b F) w' := by
  have hml := h.lt
  have h' := h.mod ((Mod.refl (fun _ => False) w).alloc (.cells #[.map (some m)] 54)) (fun e => e) fun _ _ e => e
  have hb' := hb.alloc (.cells #[.map (some m)] 54)
  have k0 := Blk.new w 54 #[.map (some m)]
  have k1 := h1.alloc (.cells #[.map (some m)] 54)
  have k2 := h2.alloc (.cells #[.map (some m)] 54)
  have hl1 := h1.lt
  have hl2 := h2.lt
  have hz := alloc_size w (.cells #[.map (some m)] 54)
  have c0_ := k0.cell 0
  have c1 := k1.cell 0
  have c2 := k2.cell 0
  simp only [List.getElem?_toArray, List.getElem?_cons_zero] at c0_ c1 c2
  have HV := Lib.hid hV
  clear hb h1 h2 h hV
  go_enter Try.func39, Try.ntmps39
  go_wp2_with fail
  generalize hw0 : w.alloc (.cells #[.map (some m)] 54) = W at *
  have HW := Lib.hid hw0
  have HZ := Lib.hid hz
  clear hw0 hz
  refine PF.pf_begin (by kernel_rfl) ?_
  refine PF.pf_take0 0 (by kernel_rfl) rfl (fun _ _ _ _ _ h => h) (by kernel_rfl) (fun u => by go_simp; try rfl) ?_
  try simp only [Act.put, List.setIfInBounds_toArray, List.set_cons_zero, List.set_cons_succ]
  refine PF.pf_take1 1 (PF.Same (w.heap.size) _) (by kernel_rfl) rfl (fun _ _ _ _ _ h => h) (by kernel_rfl) (PF.Same.refl _ _) (fun u hu => by have hcu := hu.cell; go_simp; try rfl) ?_
  try simp only [Act.put, List.setIfInBounds_toArray, List.set_cons_zero, List.set_cons_succ]
  refine PF.pf_take1 2 (PF.Same (b1) _) (by kernel_rfl) rfl (fun _ _ _ _ _ h => h) (by kernel_rfl) (PF.Same.refl _ _) (fun u hu => by have hcu := hu.cell; go_simp; try rfl) ?_
  try simp only [Act.put, List.setIfInBounds_toArray, List.set_cons_zero, List.set_cons_succ]
  refine PF.pf_take1 3 (PF.Same (b2) _) (by kernel_rfl) rfl (fun _ _ _ _ _ h => h) (by kernel_rfl) (PF.Same.refl _ _) (fun u hu => by have hcu := hu.cell; go_simp; try rfl) ?_
  try simp only [Act.put, List.setIfInBounds_toArray, List.set_cons_zero, List.set_cons_succ]
  refine PF.pf_exec 4 (by kernel_rfl) rfl (by kernel_rfl) (fun K hK => ?_)
  go_simp
  refine (clone_any A c b W.drew (show Bytes W.drew A b from hb') (by omega)).mono ?_
  rintro e w1 ⟨⟨A1, c1', rfl, ho1⟩, hbel1⟩
  replace hbel1 : Below W.heap.size W w1 := ((Below.refl W.heap.size W).drew).trans hbel1
  replace ho1 : w1.ownsRow W.heap.size _ _ _ _ _ := ho1
  refine hK _ _ (by repeat (first | exact PF.owes_nil | refine PF.owes_left ?_ | refine PF.owes_no (by decide +kernel) ?_ | refine PF.owes_yes (by first | exact hbel1.block _ (by rw [HZ.out]; omega)) ?_)) ?_
  clear hK K
  try simp only [Act.put, List.setIfInBounds_toArray, List.set_cons_zero, List.set_cons_succ]
  refine PF.pf_exec 5 (by kernel_rfl) rfl (by kernel_rfl) (fun K hK => ?_)
  have hz1 := hbel1.size
  have hz0 := HZ.out
  have hM2 : Mod (fun b => w.heap.size ≤ b) W w1 := Mod.below hbel1 (Nat.le_refl _)
  have hfil2 : Fil w1 (fun b => V b ∨ From w.heap.size w1 b) m F := (h'.mod hM2 (by omega) fun b hb e => by have := HV.out b hb; omega).mono fun b hb => .inl hb
  refine fil_update_wp rfl rfl rfl rfl rfl hfil2 hn hN (fun e => e.elim hVm fun e => by have := e.1; omega) (BytesIn.of_own ho1 fun b e1 e2 => .inr ⟨by omega, e2⟩) ?_
  intro w3 hfil3 hg3
  refine hK _ _ (by repeat (first | exact PF.owes_nil | refine PF.owes_left ?_ | refine PF.owes_no (by decide +kernel) ?_ | refine PF.owes_yes (by first | rfl | assumption | go_simp) ?_)) ?_
  clear hK K
  try simp only [Act.put, List.setIfInBounds_toArray, List.set_cons_zero, List.set_cons_succ]
  refine PF.pf_done (by kernel_rfl) ?_
  go_end0
  refine ⟨rfl, hfil3.mono fun b hb => hb.imp id (From.mono hg3.size b), ?_⟩
  have hMW : Mod (fun b => b = m) w w1 := by
    have hw := HW.out
    subst hw
    exact ((Mod.refl _ w).alloc _).join hM2 fun b e1 e2 => by omega
  exact hMW.trans (mod_of hg3)
set_option maxHeartbeats 1000000 in
theorem remd_any {w : World} {V : Nat → Prop} {m : Nat} {F : Files} (h : Fil w V m F) (hVm : ¬ V m) (b1 : Nat) (n : Nm) (h1 : Blk w b1 9 #[.string ⟨n.toArray⟩]) (hn : n.length ≤ 9223372036854775807) :
    Calls Try.prog 49 #[.agg #[.map (some m)], .pointer (some ⟨b1, 0, none⟩)] w fun e w' => e = .returned (.tuple #[]) ∧ DidTo w V m (fdel n F) w' := by
  have hml := h.lt
  have h' := h.mod ((Mod.refl (fun _ => False) w).alloc (.cells #[.map (some m)] 54)) (fun e => e) fun _ _ e => e
  have k1 := h1.alloc (.cells #[.map (some m)] 54)
  have c1 := k1.cell 0
  have hz := alloc_size w (.cells #[.map (some m)] 54)
  simp only [List.getElem?_toArray, List.getElem?_cons_zero] at c1
  have HZ := Lib.hid hz
  clear h1 h hz
  go_enter Try.func49, Try.ntmps49
  go_wp2_with (at_delete; refine fil_delete rfl rfl rfl rfl h' hn hVm ?_; intro w3 hfil3 hg3)
  go_end0
  exact ⟨rfl, hfil3.mono fun b hb => .inl hb, ((Mod.refl _ w).alloc _).trans (mod_of hg3)⟩
set_option maxRecDepth 100000 in
set_option maxHeartbeats 1000000 in
theorem rend_any {w : World} {V : Nat → Prop} {m : Nat} {F : Files} (h : Fil w V m F) (hVm : ¬ V m) (b1 b2 : Nat) (n k : Nm) (h1 : Blk w b1 9 #[.string ⟨n.toArray⟩]) (h2 : Blk w b2 9 #[.string ⟨k.toArray⟩]) (hn : n.length ≤ 9223372036854775807) (hk : k.length ≤ 9223372036854775807) (hN : F.length < 9223372036854775807) :
    Calls Try.prog 43 #[.agg #[.map (some m)], .pointer (some ⟨b1, 0, none⟩), .pointer (some ⟨b2, 0, none⟩)] w fun e w' => e = .returned (.tuple #[]) ∧ DidTo w V m (fdel n (fput k ((fget n F).getD []) F)) w' := by
  have hml := h.lt
  have h' := h.mod ((Mod.refl (fun _ => False) w).alloc (.cells #[.map (some m)] 54)) (fun e => e) fun _ _ e => e
  have hne := h.ne h1
  obtain ⟨A0, c0, hlk, hin⟩ := h'.look n hn
  have hlook := (hlk _ rfl).1
  have k0 := Blk.new w 54 #[.map (some m)]
  have k1 := h1.alloc (.cells #[.map (some m)] 54)
  have k2 := h2.alloc (.cells #[.map (some m)] 54)
  have hl1 := h1.lt
  have hl2 := h2.lt
  have c0_ := k0.cell 0
  have c1 := k1.cell 0
  have c2 := k2.cell 0
  have hz := alloc_size w (.cells #[.map (some m)] 54)
  simp only [List.getElem?_toArray, List.getElem?_cons_zero] at c1 c2 c0_
  clear h1 h2 h hlk
  go_enter Try.func43, Try.ntmps43
  go_wp2_with (first
    | (at_mapUpdate; refine fil_update rfl rfl rfl rfl rfl rfl h' hk hN hVm hin ?_; intro w3 hfil3 hg3; have d0 := (k0.grown hg3 (by simp; omega)).cell 0; have d1 := (k1.grown hg3 (by simp [hne])).cell 0; simp only [List.getElem?_toArray, List.getElem?_cons_zero] at d0 d1)
    | (at_delete; refine fil_delete rfl rfl rfl rfl hfil3 hn hVm ?_; intro w4 hfil4 hg4)
    | go_in)
  go_end0
  exact ⟨rfl, hfil4.mono fun b hb => .inl hb, (((Mod.refl _ w).alloc _).trans (mod_of hg3)).trans (mod_of hg4)⟩
end Go.Proofs.Ytggdkhgpkedbkaa
