/- Rename, Remove, plain and walked. -/
import Derived.Test.YtggdkhgpkedbkaaDiskN
namespace Go.Proofs.Ytggdkhgpkedbkaa
open Go.RowKit

def Dk.rename (x : Dk) (a c : Nm) : Int × Dk :=
  if askE x.down [a, c] ≠ 0 then (askE x.down [a, c], x) else if (fget a x.seen).isSome = false then (4, x) else if a = c then (0, x) else (0, x.does (.ren a c))
def Dk.remove (x : Dk) (n : Nm) : Int × Dk :=
  if askE x.down [n] ≠ 0 then (askE x.down [n], x) else if (fget n x.seen).isSome = false then (4, x) else (0, x.does (.rem n))
theorem Strs.two (w : World) (t : TypeId) (n k : Nm) : Strs (w.alloc (.cells #[.string ⟨n.toArray⟩, .string ⟨k.toArray⟩] t)) (some ⟨w.heap.size, 0, none⟩) [n, k] := Reads.block w t [nv n, nv k]
set_option maxRecDepth 100000 in
set_option maxHeartbeats 4000000 in
theorem remove_any {w : World} {d : Nat} {U V : Nat → Prop} {x : Dk} (h : Dsk w d U V x) (hx : Small x) (n : Nm) (hn : Nok n) :
    Calls Try.prog 25 #[pd d, .string ⟨n.toArray⟩] w (Ans w d U V (x.remove n)) := by
  have hmf : ∀ (fn : Fn) (first cap : Array Value) (w : World), (Instr.makeFunc fn first cap).run Try.prog w = .ok (.func fn first cap) w := fun _ _ _ _ => rfl
  have h0 := h
  obtain ⟨mf, ml, v, h⟩ := h
  have hb1 : Below w.heap.size w (w.alloc (.cells #[.string ⟨n.toArray⟩] 9)) := (Below.refl _ w).alloc (Nat.le_refl _) _
  have kn : Blk (w.alloc (.cells #[.string ⟨n.toArray⟩] 9)) w.heap.size 9 #[.string ⟨n.toArray⟩] := Blk.new w _ _
  have hz1 : (w.alloc (.cells #[.string ⟨n.toArray⟩] 9)).heap.size = w.heap.size + 1 := by simp
  have hpd : pd d = .pointer (some ⟨d, 0, none⟩) := rfl
  rw [hpd]
  go_enter Try.func25, Try.ntmps25
  go_wp2_with fail
  generalize hw0 : (w.alloc (.cells #[.string ⟨n.toArray⟩] 9)) = W at *
  have HW := Lib.hid hw0
  have HZ := Lib.hid hz1
  have hS := Strs.one W 9 n
  rw [hz1] at hS
  have hask := asks_any ((h.below hb1).below (below_new W (.cells #[.string ⟨n.toArray⟩] 9))).blk _ 1 [n] hS (by simp) (by simpa using hn)
  rw [hpd] at hask
  refine hask.mono ?_
  rintro e w1 ⟨rfl, hb2⟩
  replace hb2 : Below W.heap.size W w1 := (below_new W _).trans (hb2.mono (by simp))
  simp only [Option.isNone_some, Bool.false_or]
  clear hask hw0 hz1 hS
  generalize hq0 : askE x.down [n] = q at *
  have HQ := Lib.hid hq0
  clear hq0
  have hbw : Below w.heap.size w w1 := hb1.trans (hb2.mono hb1.size)
  have kn1 := kn.below hb2 kn.lt
  have cn := kn1.cell 0
  simp only [List.getElem?_toArray, List.getElem?_cons_zero, List.getElem?_cons_succ] at cn
  have HB := Lib.hid hbw
  rcases Decidable.em (q = 0) with hq | hq
  · subst hq
    go_wp2_with fail
    have h1 := h.below hbw
    obtain ⟨A0, c0, hlook, _⟩ := h1.seen.look n hn
    have d0 := Blk.cell h1.blk 0
    simp only [List.getElem?_toArray, List.getElem?_cons_zero, List.getElem?_cons_succ] at d0
    cases hg : (fget n x.seen).isSome
    · rw [hg] at hlook
      have HG := Lib.hid hg
      clear hg
      refine PF.pf_begin (by kernel_rfl) ?_
      refine PF.pf_take0 0 (by kernel_rfl) rfl (fun _ _ _ _ _ h => h) (by kernel_rfl) (fun u => by go_simp; try rfl) ?_
      try simp only [Act.put, List.setIfInBounds_toArray, List.set_cons_zero, List.set_cons_succ]
      refine PF.pf_take0 1 (by kernel_rfl) rfl (fun _ _ _ _ _ h => h) (by kernel_rfl) (fun u => by go_simp; try rfl) ?_
      try simp only [Act.put, List.setIfInBounds_toArray, List.set_cons_zero, List.set_cons_succ]
      refine PF.pf_take0 2 (by kernel_rfl) rfl (fun _ _ _ _ _ h => h) (by kernel_rfl) (fun u => by go_simp; try rfl) ?_
      try simp only [Act.put, List.setIfInBounds_toArray, List.set_cons_zero, List.set_cons_succ]
      refine PF.pf_take0 3 (by kernel_rfl) rfl (fun _ _ _ _ _ h => h) (by kernel_rfl) (fun u => by go_simp; try rfl) ?_
      try simp only [Act.put, List.setIfInBounds_toArray, List.set_cons_zero, List.set_cons_succ]
      refine PF.pf_take1 4 (PF.Same (d) _) (by kernel_rfl) rfl (fun _ _ _ _ _ h => h) (by kernel_rfl) (PF.Same.refl _ _) (fun u hu => by have hcu := hu.cell; go_simp; try rfl) ?_
      try simp only [Act.put, List.setIfInBounds_toArray, List.set_cons_zero, List.set_cons_succ]
      refine PF.pf_take1 5 (PF.Same (w.heap.size) _) (by kernel_rfl) rfl (fun _ _ _ _ _ h => h) (by kernel_rfl) (PF.Same.refl _ _) (fun u hu => by have hcu := hu.cell; go_simp; try rfl) ?_
      try simp only [Act.put, List.setIfInBounds_toArray, List.set_cons_zero, List.set_cons_succ]
      refine PF.pf_take1 6 (fun u => u.heap[mf]? = w1.heap[mf]?) (by kernel_rfl) rfl (fun _ _ _ _ _ h => h) (by kernel_rfl) (rfl) (fun u hu => by (have hlu := (hlook u hu).2; go_simp; rfl)) ?_
      try simp only [Act.put, List.setIfInBounds_toArray, List.set_cons_zero, List.set_cons_succ]
      refine PF.pf_take0 7 (by kernel_rfl) rfl (fun _ _ _ _ _ h => h) (by kernel_rfl) (fun u => by go_simp; try rfl) ?_
      try simp only [Act.put, List.setIfInBounds_toArray, List.set_cons_zero, List.set_cons_succ]
      refine PF.pf_take0 8 (by kernel_rfl) rfl (fun _ _ _ _ _ h => h) (by kernel_rfl) (fun u => by go_simp; try rfl) ?_
      try simp only [Act.put, List.setIfInBounds_toArray, List.set_cons_zero, List.set_cons_succ]
      refine PF.pf_take0 9 (by kernel_rfl) rfl (fun _ _ _ _ _ h => h) (by kernel_rfl) (fun u => by go_simp; try rfl) ?_
      try simp only [Act.put, List.setIfInBounds_toArray, List.set_cons_zero, List.set_cons_succ]
      refine PF.pf_take0 10 (by kernel_rfl) rfl (fun _ _ _ _ _ h => h) (by kernel_rfl) (fun u => by go_simp; try rfl) ?_
      try simp only [Act.put, List.setIfInBounds_toArray, List.set_cons_zero, List.set_cons_succ]
      refine PF.pf_take0 11 (by kernel_rfl) rfl (fun _ _ _ _ _ h => h) (by kernel_rfl) (fun u => by go_simp; try rfl) ?_
      try simp only [Act.put, List.setIfInBounds_toArray, List.set_cons_zero, List.set_cons_succ]
      refine PF.pf_done (by kernel_rfl) ?_
      go_wp2_with fail
      go_ret
      exact Ans.mk (by unfold Dk.remove; rw [HQ.out, if_neg (by simp), if_pos HG.out]) (To.same h0 HB.out.drew)
    · rw [hg] at hlook
      have HG := Lib.hid hg
      clear hg
      refine PF.pf_begin (by kernel_rfl) ?_
      refine PF.pf_take0 0 (by kernel_rfl) rfl (fun _ _ _ _ _ h => h) (by kernel_rfl) (fun u => by go_simp; try rfl) ?_
      try simp only [Act.put, List.setIfInBounds_toArray, List.set_cons_zero, List.set_cons_succ]
      refine PF.pf_take0 1 (by kernel_rfl) rfl (fun _ _ _ _ _ h => h) (by kernel_rfl) (fun u => by go_simp; try rfl) ?_
      try simp only [Act.put, List.setIfInBounds_toArray, List.set_cons_zero, List.set_cons_succ]
      refine PF.pf_take0 2 (by kernel_rfl) rfl (fun _ _ _ _ _ h => h) (by kernel_rfl) (fun u => by go_simp; try rfl) ?_
      try simp only [Act.put, List.setIfInBounds_toArray, List.set_cons_zero, List.set_cons_succ]
      refine PF.pf_take0 3 (by kernel_rfl) rfl (fun _ _ _ _ _ h => h) (by kernel_rfl) (fun u => by go_simp; try rfl) ?_
      try simp only [Act.put, List.setIfInBounds_toArray, List.set_cons_zero, List.set_cons_succ]
      refine PF.pf_take1 4 (PF.Same (d) _) (by kernel_rfl) rfl (fun _ _ _ _ _ h => h) (by kernel_rfl) (PF.Same.refl _ _) (fun u hu => by have hcu := hu.cell; go_simp; try rfl) ?_
      try simp only [Act.put, List.setIfInBounds_toArray, List.set_cons_zero, List.set_cons_succ]
      refine PF.pf_take1 5 (PF.Same (w.heap.size) _) (by kernel_rfl) rfl (fun _ _ _ _ _ h => h) (by kernel_rfl) (PF.Same.refl _ _) (fun u hu => by have hcu := hu.cell; go_simp; try rfl) ?_
      try simp only [Act.put, List.setIfInBounds_toArray, List.set_cons_zero, List.set_cons_succ]
      refine PF.pf_take1 6 (fun u => u.heap[mf]? = w1.heap[mf]?) (by kernel_rfl) rfl (fun _ _ _ _ _ h => h) (by kernel_rfl) (rfl) (fun u hu => by (have hlu := (hlook u hu).2; go_simp; rfl)) ?_
      try simp only [Act.put, List.setIfInBounds_toArray, List.set_cons_zero, List.set_cons_succ]
      refine PF.pf_take0 7 (by kernel_rfl) rfl (fun _ _ _ _ _ h => h) (by kernel_rfl) (fun u => by go_simp; try rfl) ?_
      try simp only [Act.put, List.setIfInBounds_toArray, List.set_cons_zero, List.set_cons_succ]
      refine PF.pf_take0 8 (by kernel_rfl) rfl (fun _ _ _ _ _ h => h) (by kernel_rfl) (fun u => by go_simp; try rfl) ?_
      try simp only [Act.put, List.setIfInBounds_toArray, List.set_cons_zero, List.set_cons_succ]
      refine PF.pf_take0 9 (by kernel_rfl) rfl (fun _ _ _ _ _ h => h) (by kernel_rfl) (fun u => by go_simp; try rfl) ?_
      try simp only [Act.put, List.setIfInBounds_toArray, List.set_cons_zero, List.set_cons_succ]
      refine PF.pf_take0 10 (by kernel_rfl) rfl (fun _ _ _ _ _ h => h) (by kernel_rfl) (fun u => by go_simp; try rfl) ?_
      try simp only [Act.put, List.setIfInBounds_toArray, List.set_cons_zero, List.set_cons_succ]
      refine PF.pf_take0 11 (by kernel_rfl) rfl (fun _ _ _ _ _ h => h) (by kernel_rfl) (fun u => by go_simp; try rfl) ?_
      try simp only [Act.put, List.setIfInBounds_toArray, List.set_cons_zero, List.set_cons_succ]
      refine PF.pf_done (by kernel_rfl) ?_
      have hz := HZ.out
      have hz2 := hb2.size
      have hD5 : Dsk w1.drew d U (fun k => V k ∨ From w.heap.size w1.drew k) x := ⟨mf, ml, v, (h.below hbw.drew).more (fun _ => .inl) (fun k hu hv => hv.elim (h.apart k hu) fun e => by have := h.ulo k hu; have := e.1; omega) fun k hv => hv.elim (fun e => by have := h.vlo k e; rw [drew_size]; omega) fun e => e.2⟩
      have hcn : CapS w1.drew (fun k => V k ∨ From w.heap.size w1.drew k) w.heap.size n := ⟨kn1.drew, .inr ⟨Nat.le_refl _, by rw [drew_size]; omega⟩, hn⟩
      have hwait := wait_any hD5 (.rem n) (.func (.func 49) #[] #[ptr w.heap.size]) .nilFunc ⟨_, rfl, hcn⟩ rfl (by have := hx.fs; omega) (by have := hx.ns; omega) hx.nw
      unfold pd ptr at hwait
      clear hD5 hcn hz hz2 hbw
      go_wp2_with (go_at_call 38; refine hwait.mono ?_; rintro e w9 ⟨rfl, hto⟩)
      go_ret
      exact Ans.mk (by unfold Dk.remove; rw [HQ.out, if_neg (by simp), if_neg (by rw [HG.out]; simp)]; rfl) (To.start HB.out.drew hto)
  · have hq' : (q != 0) = true := by simpa using hq
    go_wp2_with fail
    go_ret
    exact Ans.mk (by unfold Dk.remove; rw [HQ.out, if_pos hq]) (To.same h0 HB.out)
set_option maxRecDepth 100000 in
set_option maxHeartbeats 4000000 in
theorem rename_any {w : World} {d : Nat} {U V : Nat → Prop} {x : Dk} (h : Dsk w d U V x) (hx : Small x) (n k : Nm) (hn : Nok n) (hk : Nok k) :
    Calls Try.prog 17 #[pd d, .string ⟨n.toArray⟩, .string ⟨k.toArray⟩] w (Ans w d U V (x.rename n k)) := by
  have hmf : ∀ (fn : Fn) (first cap : Array Value) (w : World), (Instr.makeFunc fn first cap).run Try.prog w = .ok (.func fn first cap) w := fun _ _ _ _ => rfl
  have h0 := h
  obtain ⟨mf, ml, v, h⟩ := h
  have hb1 : Below w.heap.size w ((w.alloc (.cells #[.string ⟨n.toArray⟩] 9)).alloc (.cells #[.string ⟨k.toArray⟩] 9)) := ((Below.refl _ w).alloc (Nat.le_refl _) _).alloc (by simp) _
  have kn : Blk ((w.alloc (.cells #[.string ⟨n.toArray⟩] 9)).alloc (.cells #[.string ⟨k.toArray⟩] 9)) w.heap.size 9 #[.string ⟨n.toArray⟩] := (Blk.new w _ _).alloc _
  have kk : Blk ((w.alloc (.cells #[.string ⟨n.toArray⟩] 9)).alloc (.cells #[.string ⟨k.toArray⟩] 9)) (w.heap.size + 1) 9 #[.string ⟨k.toArray⟩] := by simpa using Blk.new (w.alloc (.cells #[.string ⟨n.toArray⟩] 9)) 9 #[.string ⟨k.toArray⟩]
  have hz1 : ((w.alloc (.cells #[.string ⟨n.toArray⟩] 9)).alloc (.cells #[.string ⟨k.toArray⟩] 9)).heap.size = w.heap.size + 1 + 1 := by simp
  have hpd : pd d = .pointer (some ⟨d, 0, none⟩) := rfl
  rw [hpd]
  go_enter Try.func17, Try.ntmps17
  go_wp2_with fail
  generalize hw0 : ((w.alloc (.cells #[.string ⟨n.toArray⟩] 9)).alloc (.cells #[.string ⟨k.toArray⟩] 9)) = W at *
  have HW := Lib.hid hw0
  have HZ := Lib.hid hz1
  have hS := Strs.two W 9 n k
  rw [hz1] at hS
  have hask := asks_any ((h.below hb1).below (below_new W (.cells #[.string ⟨n.toArray⟩, .string ⟨k.toArray⟩] 9))).blk _ 2 [n, k] hS (by simp) (by simpa using ⟨hn, hk⟩)
  rw [hpd] at hask
  refine hask.mono ?_
  rintro e w1 ⟨rfl, hb2⟩
  replace hb2 : Below W.heap.size W w1 := (below_new W _).trans (hb2.mono (by simp))
  simp only [Option.isNone_some, Bool.false_or]
  clear hask hw0 hz1 hS
  generalize hq0 : askE x.down [n, k] = q at *
  have HQ := Lib.hid hq0
  clear hq0
  have hbw : Below w.heap.size w w1 := hb1.trans (hb2.mono hb1.size)
  have kn1 := kn.below hb2 kn.lt
  have kk1 := kk.below hb2 kk.lt
  have cn := kn1.cell 0
  have ck := kk1.cell 0
  simp only [List.getElem?_toArray, List.getElem?_cons_zero, List.getElem?_cons_succ] at cn ck
  have HB := Lib.hid hbw
  rcases Decidable.em (q = 0) with hq | hq
  · subst hq
    go_wp2_with fail
    have h1 := h.below hbw
    obtain ⟨A0, c0, hlook, _⟩ := h1.seen.look n hn
    have d0 := Blk.cell h1.blk 0
    simp only [List.getElem?_toArray, List.getElem?_cons_zero, List.getElem?_cons_succ] at d0
    cases hg : (fget n x.seen).isSome
    · rw [hg] at hlook
      have HG := Lib.hid hg
      clear hg
      refine PF.pf_begin (by kernel_rfl) ?_
      refine PF.pf_take0 0 (by kernel_rfl) rfl (fun _ _ _ _ _ h => h) (by kernel_rfl) (fun u => by go_simp; try rfl) ?_
      try simp only [Act.put, List.setIfInBounds_toArray, List.set_cons_zero, List.set_cons_succ]
      refine PF.pf_take0 1 (by kernel_rfl) rfl (fun _ _ _ _ _ h => h) (by kernel_rfl) (fun u => by go_simp; try rfl) ?_
      try simp only [Act.put, List.setIfInBounds_toArray, List.set_cons_zero, List.set_cons_succ]
      refine PF.pf_take0 2 (by kernel_rfl) rfl (fun _ _ _ _ _ h => h) (by kernel_rfl) (fun u => by go_simp; try rfl) ?_
      try simp only [Act.put, List.setIfInBounds_toArray, List.set_cons_zero, List.set_cons_succ]
      refine PF.pf_take0 3 (by kernel_rfl) rfl (fun _ _ _ _ _ h => h) (by kernel_rfl) (fun u => by go_simp; try rfl) ?_
      try simp only [Act.put, List.setIfInBounds_toArray, List.set_cons_zero, List.set_cons_succ]
      refine PF.pf_take1 4 (PF.Same (d) _) (by kernel_rfl) rfl (fun _ _ _ _ _ h => h) (by kernel_rfl) (PF.Same.refl _ _) (fun u hu => by have hcu := hu.cell; go_simp; try rfl) ?_
      try simp only [Act.put, List.setIfInBounds_toArray, List.set_cons_zero, List.set_cons_succ]
      refine PF.pf_take1 5 (PF.Same (w.heap.size) _) (by kernel_rfl) rfl (fun _ _ _ _ _ h => h) (by kernel_rfl) (PF.Same.refl _ _) (fun u hu => by have hcu := hu.cell; go_simp; try rfl) ?_
      try simp only [Act.put, List.setIfInBounds_toArray, List.set_cons_zero, List.set_cons_succ]
      refine PF.pf_take1 6 (fun u => u.heap[mf]? = w1.heap[mf]?) (by kernel_rfl) rfl (fun _ _ _ _ _ h => h) (by kernel_rfl) (rfl) (fun u hu => by (have hlu := (hlook u hu).2; go_simp; rfl)) ?_
      try simp only [Act.put, List.setIfInBounds_toArray, List.set_cons_zero, List.set_cons_succ]
      refine PF.pf_take0 7 (by kernel_rfl) rfl (fun _ _ _ _ _ h => h) (by kernel_rfl) (fun u => by go_simp; try rfl) ?_
      try simp only [Act.put, List.setIfInBounds_toArray, List.set_cons_zero, List.set_cons_succ]
      refine PF.pf_take0 8 (by kernel_rfl) rfl (fun _ _ _ _ _ h => h) (by kernel_rfl) (fun u => by go_simp; try rfl) ?_
      try simp only [Act.put, List.setIfInBounds_toArray, List.set_cons_zero, List.set_cons_succ]
      refine PF.pf_take0 9 (by kernel_rfl) rfl (fun _ _ _ _ _ h => h) (by kernel_rfl) (fun u => by go_simp; try rfl) ?_
      try simp only [Act.put, List.setIfInBounds_toArray, List.set_cons_zero, List.set_cons_succ]
      refine PF.pf_take0 10 (by kernel_rfl) rfl (fun _ _ _ _ _ h => h) (by kernel_rfl) (fun u => by go_simp; try rfl) ?_
      try simp only [Act.put, List.setIfInBounds_toArray, List.set_cons_zero, List.set_cons_succ]
      refine PF.pf_take0 11 (by kernel_rfl) rfl (fun _ _ _ _ _ h => h) (by kernel_rfl) (fun u => by go_simp; try rfl) ?_
      try simp only [Act.put, List.setIfInBounds_toArray, List.set_cons_zero, List.set_cons_succ]
      refine PF.pf_done (by kernel_rfl) ?_
      go_wp2_with fail
      go_ret
      exact Ans.mk (by unfold Dk.rename; rw [HQ.out, if_neg (by simp), if_pos HG.out]) (To.same h0 HB.out.drew)
    · rw [hg] at hlook
      have HG := Lib.hid hg
      clear hg
      refine PF.pf_begin (by kernel_rfl) ?_
      refine PF.pf_take0 0 (by kernel_rfl) rfl (fun _ _ _ _ _ h => h) (by kernel_rfl) (fun u => by go_simp; try rfl) ?_
      try simp only [Act.put, List.setIfInBounds_toArray, List.set_cons_zero, List.set_cons_succ]
      refine PF.pf_take0 1 (by kernel_rfl) rfl (fun _ _ _ _ _ h => h) (by kernel_rfl) (fun u => by go_simp; try rfl) ?_
      try simp only [Act.put, List.setIfInBounds_toArray, List.set_cons_zero, List.set_cons_succ]
      refine PF.pf_take0 2 (by kernel_rfl) rfl (fun _ _ _ _ _ h => h) (by kernel_rfl) (fun u => by go_simp; try rfl) ?_
      try simp only [Act.put, List.setIfInBounds_toArray, List.set_cons_zero, List.set_cons_succ]
      refine PF.pf_take0 3 (by kernel_rfl) rfl (fun _ _ _ _ _ h => h) (by kernel_rfl) (fun u => by go_simp; try rfl) ?_
      try simp only [Act.put, List.setIfInBounds_toArray, List.set_cons_zero, List.set_cons_succ]
      refine PF.pf_take1 4 (PF.Same (d) _) (by kernel_rfl) rfl (fun _ _ _ _ _ h => h) (by kernel_rfl) (PF.Same.refl _ _) (fun u hu => by have hcu := hu.cell; go_simp; try rfl) ?_
      try simp only [Act.put, List.setIfInBounds_toArray, List.set_cons_zero, List.set_cons_succ]
      refine PF.pf_take1 5 (PF.Same (w.heap.size) _) (by kernel_rfl) rfl (fun _ _ _ _ _ h => h) (by kernel_rfl) (PF.Same.refl _ _) (fun u hu => by have hcu := hu.cell; go_simp; try rfl) ?_
      try simp only [Act.put, List.setIfInBounds_toArray, List.set_cons_zero, List.set_cons_succ]
      refine PF.pf_take1 6 (fun u => u.heap[mf]? = w1.heap[mf]?) (by kernel_rfl) rfl (fun _ _ _ _ _ h => h) (by kernel_rfl) (rfl) (fun u hu => by (have hlu := (hlook u hu).2; go_simp; rfl)) ?_
      try simp only [Act.put, List.setIfInBounds_toArray, List.set_cons_zero, List.set_cons_succ]
      refine PF.pf_take0 7 (by kernel_rfl) rfl (fun _ _ _ _ _ h => h) (by kernel_rfl) (fun u => by go_simp; try rfl) ?_
      try simp only [Act.put, List.setIfInBounds_toArray, List.set_cons_zero, List.set_cons_succ]
      refine PF.pf_take0 8 (by kernel_rfl) rfl (fun _ _ _ _ _ h => h) (by kernel_rfl) (fun u => by go_simp; try rfl) ?_
      try simp only [Act.put, List.setIfInBounds_toArray, List.set_cons_zero, List.set_cons_succ]
      refine PF.pf_take0 9 (by kernel_rfl) rfl (fun _ _ _ _ _ h => h) (by kernel_rfl) (fun u => by go_simp; try rfl) ?_
      try simp only [Act.put, List.setIfInBounds_toArray, List.set_cons_zero, List.set_cons_succ]
      refine PF.pf_take0 10 (by kernel_rfl) rfl (fun _ _ _ _ _ h => h) (by kernel_rfl) (fun u => by go_simp; try rfl) ?_
      try simp only [Act.put, List.setIfInBounds_toArray, List.set_cons_zero, List.set_cons_succ]
      refine PF.pf_take0 11 (by kernel_rfl) rfl (fun _ _ _ _ _ h => h) (by kernel_rfl) (fun u => by go_simp; try rfl) ?_
      try simp only [Act.put, List.setIfInBounds_toArray, List.set_cons_zero, List.set_cons_succ]
      refine PF.pf_done (by kernel_rfl) ?_
      rcases Decidable.em (n = k) with he | he
      · have hnk : (n == k) = true := by simpa using he
        have HE := Lib.hid he
        clear he
        go_wp2_with fail
        go_ret
        exact Ans.mk (by unfold Dk.rename; rw [HQ.out, if_neg (by simp), if_neg (by rw [HG.out]; simp), if_pos HE.out]) (To.same h0 HB.out.drew)
      · have hnk : (n == k) = false := by simpa using he
        have HE := Lib.hid he
        clear he
        have hz := HZ.out
        have hz2 := hb2.size
        have hD5 : Dsk w1.drew d U (fun k => V k ∨ From w.heap.size w1.drew k) x := ⟨mf, ml, v, (h.below hbw.drew).more (fun _ => .inl) (fun k hu hv => hv.elim (h.apart k hu) fun e => by have := h.ulo k hu; have := e.1; omega) fun k hv => hv.elim (fun e => by have := h.vlo k e; rw [drew_size]; omega) fun e => e.2⟩
        have hcn : CapS w1.drew (fun k => V k ∨ From w.heap.size w1.drew k) w.heap.size n := ⟨kn1.drew, .inr ⟨Nat.le_refl _, by rw [drew_size]; omega⟩, hn⟩
        have hck : CapS w1.drew (fun k => V k ∨ From w.heap.size w1.drew k) (w.heap.size + 1) k := ⟨kk1.drew, .inr ⟨by omega, by rw [drew_size]; omega⟩, hk⟩
        have hwait := wait_any hD5 (.ren n k) (.func (.func 43) #[] #[ptr w.heap.size, ptr (w.heap.size + 1)]) .nilFunc ⟨_, _, rfl, hcn, hck⟩ rfl (by have := hx.fs; omega) (by have := hx.ns; omega) hx.nw
        unfold pd ptr at hwait
        clear hD5 hcn hck hz hz2 hbw
        go_wp2_with (go_at_call 38; refine hwait.mono ?_; rintro e w9 ⟨rfl, hto⟩)
        go_ret
        exact Ans.mk (by unfold Dk.rename; rw [HQ.out, if_neg (by simp), if_neg (by rw [HG.out]; simp), if_neg HE.out]; rfl) (To.start HB.out.drew hto)
  · have hq' : (q != 0) = true := by simpa using hq
    go_wp2_with fail
    go_ret
    exact Ans.mk (by unfold Dk.rename; rw [HQ.out, if_pos hq]) (To.same h0 HB.out)
end Go.Proofs.Ytggdkhgpkedbkaa
