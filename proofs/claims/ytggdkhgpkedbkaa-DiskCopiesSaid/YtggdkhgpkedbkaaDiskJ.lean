/- What waits: a torn append; a change in memory. -/
import Derived.Test.YtggdkhgpkedbkaaDiskI
namespace Go.Proofs.Ytggdkhgpkedbkaa
open Go.RowKit

theorem mkput_any (n : Nm) (A : Option Addr) (k c : Nat) (w : World) : Calls Try.prog 47 #[.string ⟨n.toArray⟩, .slice A k c] w fun e w' =>
    e = .returned (.func (.func 64) #[] #[.pointer (some ⟨w.heap.size, 0, none⟩), .pointer (some ⟨w.heap.size + 1, 0, none⟩)]) ∧
    w' = (w.alloc (.cells #[.string ⟨n.toArray⟩] 9)).alloc (.cells #[.slice A k c] 23) := by
  have hmf : ∀ (fn : Fn) (first cap : Array Value) (w : World), (Instr.makeFunc fn first cap).run Try.prog w = .ok (.func fn first cap) w := fun _ _ _ _ => rfl
  go_enter Try.func47, Try.ntmps47
  go_wp2_with fail
  go_ret
  exact ⟨rfl, rfl⟩
set_option maxRecDepth 100000 in
set_option maxHeartbeats 1000000 in
theorem torn_any {w : World} {V : Nat → Prop} {m : Nat} {F : Files} (h : Fil w V m F) (hVm : ¬ V m) (hV : ∀ b, V b → b < w.heap.size) (b1 b2 : Nat) (n : Nm) (A : Option Addr) (c : Nat) (b : List UInt8) (h1 : Blk w b1 9 #[.string ⟨n.toArray⟩]) (h2 : Blk w b2 23 #[.slice A b.length c])
    (hn : n.length ≤ 9223372036854775807) (hb : Bytes w A b) (hbl : b.length ≤ 70368744177664) (hbc : b.length ≤ c) (hF : fsize F ≤ 70368744177664) (hN : F.length < 9223372036854775807) (hA : ∀ ad, A = some ad → ad.block ≠ m) (k : Nat) (hk : k ≤ b.length) :
    Calls Try.prog 48 #[.agg #[.map (some m)], .int .i64 (k : Int), .pointer (some ⟨b1, 0, none⟩), .pointer (some ⟨b2, 0, none⟩)] w fun e w' => e = .returned (.tuple #[]) ∧ DidTo w V m (fput n ((fget n F).getD [] ++ b.take k) F) w' := by
  have hkc : k ≤ c := by omega
  have hml := h.lt
  have k0 := Blk.new w 54 #[.map (some m)]
  have k1 := h1.alloc (.cells #[.map (some m)] 54)
  have k2 := h2.alloc (.cells #[.map (some m)] 54)
  have hl1 := h1.lt
  have hl2 := h2.lt
  have hz := alloc_size w (.cells #[.map (some m)] 54)
  have c0_ := k0.cell 0
  have c1 := k1.cell 0
  have c2 := k2.cell 0
  simp only [List.getElem?_toArray, List.getElem?_cons_zero] at c0_ c1 c2
  have HV := Lib.hid hV
  have HH := Lib.hid h
  have HB := Lib.hid hb
  clear hb h1 h2 h hV
  go_enter Try.func48, Try.ntmps48
  go_wp2_with fail
  generalize hw0 : w.alloc (.cells #[.map (some m)] 54) = W at *
  have HW := Lib.hid hw0
  have HZ := Lib.hid hz
  clear hw0 hz
  have hkl : (b.take k).length = k := by simp; omega
  have HS : Hid (Below W.heap.size W ((W.alloc (.cells #[.string ⟨n.toArray⟩] 9)).alloc (.cells #[.slice A k c] 23)).drew) := ((((Below.refl W.heap.size W).alloc (Nat.le_refl _) _).alloc (by simp) _).drew)
  have q1 : Blk ((W.alloc (.cells #[.string ⟨n.toArray⟩] 9)).alloc (.cells #[.slice A k c] 23)).drew W.heap.size 9 #[.string ⟨n.toArray⟩] := ((Blk.new W 9 #[.string ⟨n.toArray⟩]).alloc _).drew
  have q2 : Blk ((W.alloc (.cells #[.string ⟨n.toArray⟩] 9)).alloc (.cells #[.slice A k c] 23)).drew (W.heap.size + 1) 23 #[.slice A (b.take k).length c] := by
    have := (Blk.new (W.alloc (.cells #[.string ⟨n.toArray⟩] 9)) 23 #[.slice A k c]).drew
    rw [hkl]
    simpa using this
  have hbW : Below w.heap.size w W := by have hw := HW.out; subst hw; exact below_new _ _
  have hbF := below_call hbW (by have := HZ.out; omega) HS.out
  have hfF : Fil ((W.alloc (.cells #[.string ⟨n.toArray⟩] 9)).alloc (.cells #[.slice A k c] 23)).drew V m F := HH.out.mod (Mod.below (S := fun _ => False) hbF (Nat.le_refl _)) (fun e => e) fun _ _ e => e
  have hbt : Bytes ((W.alloc (.cells #[.string ⟨n.toArray⟩] 9)).alloc (.cells #[.slice A k c] 23)).drew A (b.take k) := by
    have h1 := Reads.take (HB.out.below hbF) hk
    unfold Bytes
    rw [hkl, List.map_take]
    simpa using h1
  have hcall := puts_any hfF hVm (fun b hb => Nat.lt_of_lt_of_le (HV.out b hb) hbF.size) W.heap.size (W.heap.size + 1) n A c (b.take k) q1 q2 hn hbt (by rw [hkl]; omega) hF hN hA
  have HM : Hid (Mod (fun b => b = m) w ((W.alloc (.cells #[.string ⟨n.toArray⟩] 9)).alloc (.cells #[.slice A k c] 23)).drew) := Mod.below hbF (Nat.le_refl _)
  have HZ2 := Lib.hid hbF.size
  clear q1 q2 hbF hfF hbt hkl
  refine PF.pf_begin (by kernel_rfl) ?_
  refine PF.pf_take1 0 (PF.Same (b1) _) (by kernel_rfl) rfl (fun _ _ _ _ _ h => h) (by kernel_rfl) (PF.Same.refl _ _) (fun u hu => by have hcu := hu.cell; go_simp; try rfl) ?_
  try simp only [Act.put, List.setIfInBounds_toArray, List.set_cons_zero, List.set_cons_succ]
  refine PF.pf_take1 1 (PF.Same (b2) _) (by kernel_rfl) rfl (fun _ _ _ _ _ h => h) (by kernel_rfl) (PF.Same.refl _ _) (fun u hu => by have hcu := hu.cell; go_simp; try rfl) ?_
  try simp only [Act.put, List.setIfInBounds_toArray, List.set_cons_zero, List.set_cons_succ]
  refine PF.pf_take0 2 (by kernel_rfl) rfl (fun _ _ _ _ _ h => h) (by kernel_rfl) (fun u => by go_simp; try rfl) ?_
  try simp only [Act.put, List.setIfInBounds_toArray, List.set_cons_zero, List.set_cons_succ]
  refine PF.pf_take0 3 (by kernel_rfl) rfl (fun _ _ _ _ _ h => h) (by kernel_rfl) (fun u => by go_simp; try rfl) ?_
  try simp only [Act.put, List.setIfInBounds_toArray, List.set_cons_zero, List.set_cons_succ]
  refine PF.pf_take1 5 (PF.Same (w.heap.size) _) (by kernel_rfl) rfl (fun _ _ _ _ _ h => h) (by kernel_rfl) (PF.Same.refl _ _) (fun u hu => by have hcu := hu.cell; go_simp; try rfl) ?_
  try simp only [Act.put, List.setIfInBounds_toArray, List.set_cons_zero, List.set_cons_succ]
  refine PF.pf_exec 4 (by kernel_rfl) rfl (by kernel_rfl) (fun K hK => ?_)
  go_simp
  refine (mkput_any n A k c W.drew).mono ?_
  rintro e w1 ⟨rfl, hw1⟩
  have hbel1 : Below W.heap.size W w1 := by rw [hw1]; exact (((Below.refl W.heap.size W).drew).alloc (Nat.le_refl _) _).alloc (by simp) _
  refine hK _ _ (by repeat (first | exact PF.owes_nil | refine PF.owes_left ?_ | refine PF.owes_no (by decide +kernel) ?_ | refine PF.owes_yes (by exact hbel1.block _ (by have := HZ.out; omega)) ?_)) ?_
  clear hK K
  try simp only [Act.put, List.setIfInBounds_toArray, List.set_cons_zero, List.set_cons_succ]
  refine PF.pf_exec 6 (by kernel_rfl) rfl (by kernel_rfl) (fun K hK => ?_)
  go_simp
  refine hcall.mono ?_
  rintro e w9 ⟨rfl, hd⟩
  refine hK _ _ (by repeat (first | exact PF.owes_nil | refine PF.owes_left ?_ | refine PF.owes_no (by decide +kernel) ?_ | refine PF.owes_yes (by first | rfl | assumption | go_simp) ?_)) ?_
  clear hK K
  try simp only [Act.put, List.setIfInBounds_toArray, List.set_cons_zero, List.set_cons_succ]
  refine PF.pf_done (by kernel_rfl) ?_
  go_end0
  refine ⟨rfl, hd.1.mono fun b hb => hb.imp id fun e => ⟨Nat.le_trans HZ2.out e.1, e.2⟩, HM.out.trans hd.2⟩

/-- A captured text. -/
def CapS (w : World) (V : Nat → Prop) (b : Nat) (n : Nm) : Prop := Blk w b 9 #[.string ⟨n.toArray⟩] ∧ V b ∧ n.length ≤ 9223372036854775807
/-- Captured bytes. -/
def CapB (w : World) (V : Nat → Prop) (b : Nat) (l : List UInt8) : Prop := ∃ A c, Blk w b 23 #[.slice A l.length c] ∧ V b ∧ BytesIn w V (A, l.length, c) l ∧ l.length ≤ 70368744177664
def ptr (b : Nat) : Value := .pointer (some ⟨b, 0, none⟩)
/-- What does a change. -/
def DoesV (w : World) (V : Nat → Prop) (v : Value) : Chg → Prop
  | .app n b => ∃ b1 b2, v = .func (.func 64) #[] #[ptr b1, ptr b2] ∧ CapS w V b1 n ∧ CapB w V b2 b
  | .put n b => ∃ b1 b2, v = .func (.func 39) #[] #[ptr b2, ptr b1] ∧ CapS w V b1 n ∧ CapB w V b2 b
  | .ren a c => ∃ b1 b2, v = .func (.func 43) #[] #[ptr b1, ptr b2] ∧ CapS w V b1 a ∧ CapS w V b2 c
  | .rem n => ∃ b1, v = .func (.func 49) #[] #[ptr b1] ∧ CapS w V b1 n
/-- What does it in part. -/
def TornV (w : World) (V : Nat → Prop) (v : Value) : Chg → Prop
  | .app n b => ∃ b1 b2, v = .func (.func 48) #[] #[ptr b1, ptr b2] ∧ CapS w V b1 n ∧ CapB w V b2 b
  | _ => v = .nilFunc
section
variable {w w' : World} {V V' : Nat → Prop} {S : Nat → Prop}
theorem CapS.mod {b : Nat} {n : Nm} (h : CapS w V b n) (hm : Mod S w w') (hS : ∀ b, V b → ¬ S b) : CapS w' V b n := ⟨h.1.mod hm (hS _ h.2.1), h.2⟩
theorem CapS.mono {b : Nat} {n : Nm} (h : CapS w V b n) (hV : ∀ b, V b → V' b) : CapS w V' b n := ⟨h.1, hV _ h.2.1, h.2.2⟩
theorem CapB.mod {b : Nat} {l : List UInt8} (h : CapB w V b l) (hm : Mod S w w') (hS : ∀ b, V b → ¬ S b) : CapB w' V b l := by
  obtain ⟨A, c, h1, h2, h3, h4⟩ := h
  exact ⟨A, c, h1.mod hm (hS _ h2), h2, h3.mod hm hS, h4⟩
theorem CapB.mono {b : Nat} {l : List UInt8} (h : CapB w V b l) (hV : ∀ b, V b → V' b) : CapB w V' b l := by
  obtain ⟨A, c, h1, h2, h3, h4⟩ := h
  exact ⟨A, c, h1, hV _ h2, h3.mono hV, h4⟩
theorem DoesV.mod {v : Value} {c : Chg} (h : DoesV w V v c) (hm : Mod S w w') (hS : ∀ b, V b → ¬ S b) : DoesV w' V v c := by
  cases c with
  | app n b => obtain ⟨b1, b2, e, h1, h2⟩ := h; exact ⟨b1, b2, e, h1.mod hm hS, h2.mod hm hS⟩
  | put n b => obtain ⟨b1, b2, e, h1, h2⟩ := h; exact ⟨b1, b2, e, h1.mod hm hS, h2.mod hm hS⟩
  | ren a c => obtain ⟨b1, b2, e, h1, h2⟩ := h; exact ⟨b1, b2, e, h1.mod hm hS, h2.mod hm hS⟩
  | rem n => obtain ⟨b1, e, h1⟩ := h; exact ⟨b1, e, h1.mod hm hS⟩
theorem DoesV.mono {v : Value} {c : Chg} (h : DoesV w V v c) (hV : ∀ b, V b → V' b) : DoesV w V' v c := by
  cases c with
  | app n b => obtain ⟨b1, b2, e, h1, h2⟩ := h; exact ⟨b1, b2, e, h1.mono hV, h2.mono hV⟩
  | put n b => obtain ⟨b1, b2, e, h1, h2⟩ := h; exact ⟨b1, b2, e, h1.mono hV, h2.mono hV⟩
  | ren a c => obtain ⟨b1, b2, e, h1, h2⟩ := h; exact ⟨b1, b2, e, h1.mono hV, h2.mono hV⟩
  | rem n => obtain ⟨b1, e, h1⟩ := h; exact ⟨b1, e, h1.mono hV⟩
theorem TornV.mod {v : Value} {c : Chg} (h : TornV w V v c) (hm : Mod S w w') (hS : ∀ b, V b → ¬ S b) : TornV w' V v c := by
  cases c with
  | app n b => obtain ⟨b1, b2, e, h1, h2⟩ := h; exact ⟨b1, b2, e, h1.mod hm hS, h2.mod hm hS⟩
  | put n b => exact h
  | ren a c => exact h
  | rem n => exact h
theorem TornV.mono {v : Value} {c : Chg} (h : TornV w V v c) (hV : ∀ b, V b → V' b) : TornV w V' v c := by
  cases c with
  | app n b => obtain ⟨b1, b2, e, h1, h2⟩ := h; exact ⟨b1, b2, e, h1.mono hV, h2.mono hV⟩
  | put n b => exact h
  | ren a c => exact h
  | rem n => exact h
/-- Whatever waits, done to files. -/
theorem does_any {v : Value} {c : Chg} (h : DoesV w V v c) {m : Nat} {F : Files} (hf : Fil w V m F) (hVm : ¬ V m) (hV : ∀ b, V b → b < w.heap.size) (hF : fsize F ≤ 70368744177664) (hN : F.length < 9223372036854775807) :
    ∃ g lb, v = .func (.func g) #[] lb ∧ (∀ args w, (callFunc g args).run Try.prog w = .ok (.enter g args) w) ∧ Calls Try.prog g (#[.agg #[.map (some m)]] ++ lb) w fun e w' => e = .returned (.tuple #[]) ∧ DidTo w V m (c.done F) w' := by
  cases c with
  | app n b =>
    obtain ⟨b1, b2, e, ⟨h1, h1V, hn⟩, A, c, h2, h2V, h3, h4⟩ := h
    exact ⟨_, _, e, enters_of Try.func64 (by kernel_rfl) rfl, puts_any hf hVm hV b1 b2 n A c b h1 h2 hn h3.bytes h4 hF hN fun ad e e' => hVm (e' ▸ h3.block ad e)⟩
  | put n b =>
    obtain ⟨b1, b2, e, ⟨h1, h1V, hn⟩, A, c, h2, h2V, h3, h4⟩ := h
    exact ⟨_, _, e, enters_of Try.func39 (by kernel_rfl) rfl, putd_any hf hVm hV b1 b2 n A c b h1 h2 hn h3.bytes h4 hN⟩
  | ren a k =>
    obtain ⟨b1, b2, e, ⟨h1, h1V, hn⟩, h2, h2V, hk⟩ := h
    exact ⟨_, _, e, enters_of Try.func43 (by kernel_rfl) rfl, rend_any hf hVm b1 b2 a k h1 h2 hn hk hN⟩
  | rem n =>
    obtain ⟨b1, e, h1, h1V, hn⟩ := h
    exact ⟨_, _, e, enters_of Try.func49 (by kernel_rfl) rfl, remd_any hf hVm b1 n h1 hn⟩
theorem tears_any {v : Value} {n : Nm} {b : List UInt8} (h : TornV w V v (.app n b)) {m : Nat} {F : Files} (hf : Fil w V m F) (hVm : ¬ V m) (hV : ∀ b, V b → b < w.heap.size) (hF : fsize F ≤ 70368744177664) (hN : F.length < 9223372036854775807) (k : Nat) (hk : k ≤ b.length) :
    ∃ lb, v = .func (.func 48) #[] lb ∧ Calls Try.prog 48 (#[.agg #[.map (some m)], .int .i64 (k : Int)] ++ lb) w fun e w' => e = .returned (.tuple #[]) ∧ DidTo w V m ((Chg.app n b).torn k F) w' := by
  obtain ⟨b1, b2, e, ⟨h1, h1V, hn⟩, A, c, h2, h2V, h3, h4⟩ := h
  exact ⟨_, e, torn_any hf hVm hV b1 b2 n A c b h1 h2 hn h3.bytes h4 h3.room hF hN (fun ad e e' => hVm (e' ▸ h3.block ad e)) k hk⟩
end
end Go.Proofs.Ytggdkhgpkedbkaa
