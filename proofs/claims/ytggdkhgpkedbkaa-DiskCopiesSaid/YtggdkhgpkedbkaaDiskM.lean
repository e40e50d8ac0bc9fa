/- Append, plain and walked. -/
import Derived.Test.YtggdkhgpkedbkaaDiskL
namespace Go.Proofs.Ytggdkhgpkedbkaa
open Go.RowKit

def Dk.does (x : Dk) (c : Chg) : Dk := { x with seen := c.done x.seen, waits := x.waits ++ [c] }
structure Small (x : Dk) : Prop where
  fs : fsize x.seen ≤ 65536
  fl : fsize x.last ≤ 65536
  ns : x.seen.length ≤ 1000000
  nl : x.last.length ≤ 1000000
  nw : x.waits.length ≤ 1000000
  c0 : 0 ≤ x.cap
  c1 : x.cap ≤ 65536
/-- What a call answers, and what it has done. -/
def Ans (w : World) (d : Nat) (U V : Nat → Prop) (r : Int × Dk) (e : Ending) (w' : World) : Prop := e = .returned (.int .i64 r.1) ∧ To w d U V r.2 w'
theorem Ans.mk {w : World} {d : Nat} {U V : Nat → Prop} {r : Int × Dk} {w' : World} {q : Int} {x' : Dk} (hr : r = (q, x')) (h : To w d U V x' w') : Ans w d U V r (.returned (.int .i64 q)) w' := by
  subst hr
  exact ⟨rfl, h⟩
/-- A name as it may be handed in. -/
abbrev Nok (n : Nm) : Prop := n.length ≤ 9223372036854775807
def Dk.append (x : Dk) (n : Nm) (b : List UInt8) : Int × Dk :=
  if askE x.down [n] ≠ 0 then (askE x.down [n], x) else if x.cap - fsize x.seen < (b.length : Int) then (3, x) else (0, x.does (.app n b))
theorem askE_cases (o : Bool) (ns : List Nm) : askE o ns = 0 ∨ askE o ns = 1 ∨ askE o ns = 6 := by
  unfold askE
  cases o
  · cases ns.any fun n => !isName n <;> simp
  · simp
theorem Strs.one (w : World) (t : TypeId) (n : Nm) : Strs (w.alloc (.cells #[.string ⟨n.toArray⟩] t)) (some ⟨w.heap.size, 0, none⟩) [n] := Reads.one w t _
theorem mkput_at {W w5 : World} {n : Nm} {A : Option Addr} {k c : Nat} (h : w5 = (W.drew.alloc (.cells #[.string ⟨n.toArray⟩] 9)).alloc (.cells #[.slice A k c] 23)) :
    Blk w5 W.heap.size 9 #[.string ⟨n.toArray⟩] ∧ Blk w5 (W.heap.size + 1) 23 #[.slice A k c] ∧ w5.heap.size = W.heap.size + 2 := by
  subst h
  refine ⟨(Blk.new W.drew _ _).alloc _, ?_, by simp⟩
  have := Blk.new (W.drew.alloc (.cells #[.string ⟨n.toArray⟩] 9)) 23 #[.slice A k c]
  rw [alloc_size] at this
  exact this
set_option maxRecDepth 100000 in
set_option maxHeartbeats 4000000 in
theorem append_any {w : World} {d : Nat} {U V : Nat → Prop} {x : Dk} (h : Dsk w d U V x) (hx : Small x) (n : Nm) (hn : Nok n) (A : Option Addr) (c : Nat) (b : List UInt8) (hb : Bytes w A b) (hbl : b.length ≤ 9223372036854775807) :
    Calls Try.prog 24 #[pd d, .string ⟨n.toArray⟩, .slice A b.length c] w (Ans w d U V (x.append n b)) := by
  have hmf : ∀ (fn : Fn) (first cap : Array Value) (w : World), (Instr.makeFunc fn first cap).run Try.prog w = .ok (.func fn first cap) w := fun _ _ _ _ => rfl
  have h0 := h
  obtain ⟨mf, ml, v, h⟩ := h
  have hb1 : Below w.heap.size w ((w.alloc (.cells #[.string ⟨n.toArray⟩] 9)).alloc (.cells #[.slice A b.length c] 23)) := ((Below.refl _ w).alloc (Nat.le_refl _) _).alloc (by simp) _
  have kn : Blk ((w.alloc (.cells #[.string ⟨n.toArray⟩] 9)).alloc (.cells #[.slice A b.length c] 23)) w.heap.size 9 #[.string ⟨n.toArray⟩] := (Blk.new w _ _).alloc _
  have kb : Blk ((w.alloc (.cells #[.string ⟨n.toArray⟩] 9)).alloc (.cells #[.slice A b.length c] 23)) (w.heap.size + 1) 23 #[.slice A b.length c] := by simpa using Blk.new (w.alloc (.cells #[.string ⟨n.toArray⟩] 9)) 23 #[.slice A b.length c]
  have hz1 : ((w.alloc (.cells #[.string ⟨n.toArray⟩] 9)).alloc (.cells #[.slice A b.length c] 23)).heap.size = w.heap.size + 1 + 1 := by simp
  have hbW := hb.below hb1
  have hpd : pd d = .pointer (some ⟨d, 0, none⟩) := rfl
  rw [hpd]
  go_enter Try.func24, Try.ntmps24
  go_wp2_with fail
  generalize hw0 : ((w.alloc (.cells #[.string ⟨n.toArray⟩] 9)).alloc (.cells #[.slice A b.length c] 23)) = W at *
  have HW := Lib.hid hw0
  have HZ := Lib.hid hz1
  have hS := Strs.one W 9 n
  rw [hz1] at hS
  have hask := asks_any ((h.below hb1).below (below_new W (.cells #[.string ⟨n.toArray⟩] 9))).blk _ 1 [n] hS (by simp) (by simpa using hn)
  rw [hpd] at hask
  refine hask.mono ?_
  rintro e w1 ⟨rfl, hb2⟩
  replace hb2 : Below W.heap.size W w1 := (below_new W _).trans (hb2.mono (by simp))
  have HA := Lib.hid (askE_cases x.down [n])
  simp only [Option.isNone_some, Bool.false_or]
  clear hask hw0 hz1 hS
  generalize hq0 : askE x.down [n] = q at *
  have HQ := Lib.hid hq0
  clear hq0
  have kn1 := kn.below hb2 kn.lt
  have kb1 := kb.below hb2 kb.lt
  have cn := kn1.cell 0
  have cb := kb1.cell 0
  simp only [List.getElem?_toArray, List.getElem?_cons_zero, List.getElem?_cons_succ] at cn cb
  rcases Decidable.em (q = 0) with hq | hq
  · subst hq
    go_wp2_with fail
    have h1 := (h.below hb1).below hb2
    have hl := Small.fs hx
    have hbytes := bytes_any h1.seen.drew h1.vlo (by omega)
    have hc0 := Small.c0 hx
    have hc1 := Small.c1 hx
    have hsub : IntKind.i64.wrap (x.cap - (fsize x.seen : Int)) = x.cap - (fsize x.seen : Int) := by rw [IntKind.wrap_i64]; omega
    have d0 := Blk.cell h1.blk 0
    have d3 := Blk.cell h1.blk 3
    simp only [List.getElem?_toArray, List.getElem?_cons_zero, List.getElem?_cons_succ] at d0 d3
    have hdl := Blk.lt h1.blk
    have hbl1 := kb1.lt
    unfold fv at hbytes
    rcases Decidable.em (x.cap - (fsize x.seen : Int) < (b.length : Int)) with hfull | hfull
    · have hfd : decide (x.cap - (fsize x.seen : Int) < (b.length : Int)) = true := decide_eq_true hfull
      refine PF.pf_begin (by kernel_rfl) ?_
      refine PF.pf_take1 0 (PF.Same (w.heap.size+1) _) (by kernel_rfl) rfl (fun _ _ _ _ _ h => h) (by kernel_rfl) (PF.Same.refl _ _) (fun u hu => by have hcu := hu.cell; go_simp; try rfl) ?_
      try simp only [Act.put, List.setIfInBounds_toArray, List.set_cons_zero, List.set_cons_succ]
      refine PF.pf_take0 1 (by kernel_rfl) rfl (fun _ _ _ _ _ h => h) (by kernel_rfl) (fun u => by go_simp; try rfl) ?_
      try simp only [Act.put, List.setIfInBounds_toArray, List.set_cons_zero, List.set_cons_succ]
      refine PF.pf_take0 2 (by kernel_rfl) rfl (fun _ _ _ _ _ h => h) (by kernel_rfl) (fun u => by go_simp; try rfl) ?_
      try simp only [Act.put, List.setIfInBounds_toArray, List.set_cons_zero, List.set_cons_succ]
      refine PF.pf_take0 3 (by kernel_rfl) rfl (fun _ _ _ _ _ h => h) (by kernel_rfl) (fun u => by go_simp; try rfl) ?_
      try simp only [Act.put, List.setIfInBounds_toArray, List.set_cons_zero, List.set_cons_succ]
      refine PF.pf_take0 4 (by kernel_rfl) rfl (fun _ _ _ _ _ h => h) (by kernel_rfl) (fun u => by go_simp; try rfl) ?_
      try simp only [Act.put, List.setIfInBounds_toArray, List.set_cons_zero, List.set_cons_succ]
      refine PF.pf_take1 5 (PF.Same (d) _) (by kernel_rfl) rfl (fun _ _ _ _ _ h => h) (by kernel_rfl) (PF.Same.refl _ _) (fun u hu => by have hcu := hu.cell; go_simp; try rfl) ?_
      try simp only [Act.put, List.setIfInBounds_toArray, List.set_cons_zero, List.set_cons_succ]
      refine PF.pf_take0 6 (by kernel_rfl) rfl (fun _ _ _ _ _ h => h) (by kernel_rfl) (fun u => by go_simp; try rfl) ?_
      try simp only [Act.put, List.setIfInBounds_toArray, List.set_cons_zero, List.set_cons_succ]
      refine PF.pf_take0 7 (by kernel_rfl) rfl (fun _ _ _ _ _ h => h) (by kernel_rfl) (fun u => by go_simp; try rfl) ?_
      try simp only [Act.put, List.setIfInBounds_toArray, List.set_cons_zero, List.set_cons_succ]
      refine PF.pf_take0 8 (by kernel_rfl) rfl (fun _ _ _ _ _ h => h) (by kernel_rfl) (fun u => by go_simp; try rfl) ?_
      try simp only [Act.put, List.setIfInBounds_toArray, List.set_cons_zero, List.set_cons_succ]
      refine PF.pf_take1 9 (PF.Same (d) _) (by kernel_rfl) rfl (fun _ _ _ _ _ h => h) (by kernel_rfl) (PF.Same.refl _ _) (fun u hu => by have hcu := hu.cell; go_simp; try rfl) ?_
      try simp only [Act.put, List.setIfInBounds_toArray, List.set_cons_zero, List.set_cons_succ]
      refine PF.pf_exec 10 (by kernel_rfl) rfl (by kernel_rfl) (fun K hK => ?_)
      go_simp
      refine hbytes.mono ?_
      rintro e w2 ⟨rfl, hb3⟩
      refine hK _ _ (by repeat (first | exact PF.owes_nil | refine PF.owes_left ?_ | refine PF.owes_no (by decide +kernel) ?_ | refine PF.owes_yes (by first | exact hb3.block _ hdl | exact hb3.block _ hbl1) ?_)) ?_
      clear hK K
      try simp only [Act.put, List.setIfInBounds_toArray, List.set_cons_zero, List.set_cons_succ]
      refine PF.pf_take0 11 (by kernel_rfl) rfl (fun _ _ _ _ _ h => h) (by kernel_rfl) (fun u => by go_simp; try rfl) ?_
      try simp only [Act.put, List.setIfInBounds_toArray, List.set_cons_zero, List.set_cons_succ]
      refine PF.pf_take0 12 (by kernel_rfl) rfl (fun _ _ _ _ _ h => h) (by kernel_rfl) (fun u => by go_simp; try rfl) ?_
      try simp only [Act.put, List.setIfInBounds_toArray, List.set_cons_zero, List.set_cons_succ]
      refine PF.pf_done (by kernel_rfl) ?_
      go_wp2_with fail
      go_ret
      exact Ans.mk (by unfold Dk.append; rw [HQ.out, if_neg (by simp), if_pos hfull]) (To.same h0 (hb1.trans ((hb2.mono hb1.size).trans (((Below.refl w1.heap.size w1).drew.trans hb3).mono (Nat.le_trans hb1.size hb2.size)))))
    · have hfd : decide (x.cap - (fsize x.seen : Int) < (b.length : Int)) = false := decide_eq_false hfull
      refine PF.pf_begin (by kernel_rfl) ?_
      refine PF.pf_take1 0 (PF.Same (w.heap.size+1) _) (by kernel_rfl) rfl (fun _ _ _ _ _ h => h) (by kernel_rfl) (PF.Same.refl _ _) (fun u hu => by have hcu := hu.cell; go_simp; try rfl) ?_
      try simp only [Act.put, List.setIfInBounds_toArray, List.set_cons_zero, List.set_cons_succ]
      refine PF.pf_take0 1 (by kernel_rfl) rfl (fun _ _ _ _ _ h => h) (by kernel_rfl) (fun u => by go_simp; try rfl) ?_
      try simp only [Act.put, List.setIfInBounds_toArray, List.set_cons_zero, List.set_cons_succ]
      refine PF.pf_take0 2 (by kernel_rfl) rfl (fun _ _ _ _ _ h => h) (by kernel_rfl) (fun u => by go_simp; try rfl) ?_
      try simp only [Act.put, List.setIfInBounds_toArray, List.set_cons_zero, List.set_cons_succ]
      refine PF.pf_take0 3 (by kernel_rfl) rfl (fun _ _ _ _ _ h => h) (by kernel_rfl) (fun u => by go_simp; try rfl) ?_
      try simp only [Act.put, List.setIfInBounds_toArray, List.set_cons_zero, List.set_cons_succ]
      refine PF.pf_take0 4 (by kernel_rfl) rfl (fun _ _ _ _ _ h => h) (by kernel_rfl) (fun u => by go_simp; try rfl) ?_
      try simp only [Act.put, List.setIfInBounds_toArray, List.set_cons_zero, List.set_cons_succ]
      refine PF.pf_take1 5 (PF.Same (d) _) (by kernel_rfl) rfl (fun _ _ _ _ _ h => h) (by kernel_rfl) (PF.Same.refl _ _) (fun u hu => by have hcu := hu.cell; go_simp; try rfl) ?_
      try simp only [Act.put, List.setIfInBounds_toArray, List.set_cons_zero, List.set_cons_succ]
      refine PF.pf_take0 6 (by kernel_rfl) rfl (fun _ _ _ _ _ h => h) (by kernel_rfl) (fun u => by go_simp; try rfl) ?_
      try simp only [Act.put, List.setIfInBounds_toArray, List.set_cons_zero, List.set_cons_succ]
      refine PF.pf_take0 7 (by kernel_rfl) rfl (fun _ _ _ _ _ h => h) (by kernel_rfl) (fun u => by go_simp; try rfl) ?_
      try simp only [Act.put, List.setIfInBounds_toArray, List.set_cons_zero, List.set_cons_succ]
      refine PF.pf_take0 8 (by kernel_rfl) rfl (fun _ _ _ _ _ h => h) (by kernel_rfl) (fun u => by go_simp; try rfl) ?_
      try simp only [Act.put, List.setIfInBounds_toArray, List.set_cons_zero, List.set_cons_succ]
      refine PF.pf_take1 9 (PF.Same (d) _) (by kernel_rfl) rfl (fun _ _ _ _ _ h => h) (by kernel_rfl) (PF.Same.refl _ _) (fun u hu => by have hcu := hu.cell; go_simp; try rfl) ?_
      try simp only [Act.put, List.setIfInBounds_toArray, List.set_cons_zero, List.set_cons_succ]
      refine PF.pf_exec 10 (by kernel_rfl) rfl (by kernel_rfl) (fun K hK => ?_)
      go_simp
      refine hbytes.mono ?_
      rintro e w2 ⟨rfl, hb3⟩
      refine hK _ _ (by repeat (first | exact PF.owes_nil | refine PF.owes_left ?_ | refine PF.owes_no (by decide +kernel) ?_ | refine PF.owes_yes (by first | exact hb3.block _ hdl | exact hb3.block _ hbl1) ?_)) ?_
      clear hK K
      try simp only [Act.put, List.setIfInBounds_toArray, List.set_cons_zero, List.set_cons_succ]
      refine PF.pf_take0 11 (by kernel_rfl) rfl (fun _ _ _ _ _ h => h) (by kernel_rfl) (fun u => by go_simp; try rfl) ?_
      try simp only [Act.put, List.setIfInBounds_toArray, List.set_cons_zero, List.set_cons_succ]
      refine PF.pf_take0 12 (by kernel_rfl) rfl (fun _ _ _ _ _ h => h) (by kernel_rfl) (fun u => by go_simp; try rfl) ?_
      try simp only [Act.put, List.setIfInBounds_toArray, List.set_cons_zero, List.set_cons_succ]
      refine PF.pf_done (by kernel_rfl) ?_
      have hb3' : Below w.heap.size w w2 := hb1.trans ((hb2.mono hb1.size).trans (((Below.refl w1.heap.size w1).drew.trans hb3).mono (Nat.le_trans hb1.size hb2.size)))
      have hl65 : b.length ≤ 65536 := by omega
      have hclone := clone_any A c b w2 (hb.below hb3') (by omega)
      have kn2 : Blk w2 _ _ _ := (Blk.drew kn1).below hb3 kn1.lt
      have kb2 : Blk w2 _ _ _ := (Blk.drew kb1).below hb3 kb1.lt
      have cb2 := kb2.cell 0
      simp only [List.getElem?_toArray, List.getElem?_cons_zero, List.getElem?_cons_succ] at cb2
      go_wp2_with (go_at_call 36; refine hclone.mono ?_; clear hclone; rintro e w3 ⟨⟨A3, c3, rfl, ho3⟩, hb4⟩; have kb3 : Blk w3 _ _ _ := kb2.below hb4 kb2.lt; have cb3 := kb3.cell 0; have fb3 := kb3.free 0; simp only [List.getElem?_toArray, List.getElem?_cons_zero, List.getElem?_cons_succ] at cb3)
      -- the box holds the copy
      have hs3 := hb4.size
      have hs2 := hb3'.size
      have hZ := HZ.out
      have hz1 := hb2.size
      have hz2 : w1.heap.size ≤ w2.heap.size := hb3.size
      have hbox : Mod (fun k => k = w.heap.size + 1) w3 (w3.setCell ⟨w.heap.size + 1, 0, none⟩ (.slice A3 b.length c3)) := (Mod.refl (fun k => k = w.heap.size + 1) w3).set (p := ⟨w.heap.size + 1, 0, none⟩) (fun _ => rfl) _
      have hbw : Below w.heap.size w (w3.setCell ⟨w.heap.size + 1, 0, none⟩ (.slice A3 b.length c3)) := (hb3'.trans (hb4.mono hs2)).setCell (by simp) _
      have kn4 := (kn2.below hb4 kn2.lt).mod hbox (by omega)
      have kb4 := kb3.put0 (.slice A3 b.length c3)
      have hz4 : (w3.setCell ⟨w.heap.size + 1, 0, none⟩ (.slice A3 b.length c3)).heap.size = w3.heap.size := by simp [World.setCell]
      have hin4 : BytesIn (w3.setCell ⟨w.heap.size + 1, 0, none⟩ (.slice A3 b.length c3)) (From w2.heap.size w3) (A3, b.length, c3) b := (BytesIn.of_own ho3 (V := From w2.heap.size w3) fun k e1 e2 => ⟨e1, e2⟩).mod hbox fun k hk e => by have := hk.1; omega
      generalize hw4 : w3.setCell ⟨w.heap.size + 1, 0, none⟩ (.slice A3 b.length c3) = W4 at *
      have HZ4 := Lib.hid hz4
      clear hz4
      clear hw4 hbox cb3 fb3 cb2 kb3 kn2 kb2 ho3 kn1 kb1 kn kb cn cb d0 d3 hbytes hsub hfd hbl1 hdl h1
      have cn4 := kn4.cell 0
      have cb4 := kb4.cell 0
      simp only [List.getElem?_toArray, List.getElem?_cons_zero, List.getElem?_cons_succ] at cn4 cb4
      have hln4 := kn4.lt
      have hlb4 := kb4.lt
      have hw65 : IntKind.i64.wrap (b.length : Int) = (b.length : Int) := by rw [IntKind.wrap_i64]; omega
      refine PF.pf_begin (by kernel_rfl) ?_
      refine PF.pf_take0 0 (by kernel_rfl) rfl (fun _ _ _ _ _ h => h) (by kernel_rfl) (fun u => by go_simp; try rfl) ?_
      try simp only [Act.put, List.setIfInBounds_toArray, List.set_cons_zero, List.set_cons_succ]
      refine PF.pf_take1 1 (PF.Same (w.heap.size) _) (by kernel_rfl) rfl (fun _ _ _ _ _ h => h) (by kernel_rfl) (PF.Same.refl _ _) (fun u hu => by have hcu := hu.cell; go_simp; try rfl) ?_
      try simp only [Act.put, List.setIfInBounds_toArray, List.set_cons_zero, List.set_cons_succ]
      refine PF.pf_take1 2 (PF.Same (w.heap.size+1) _) (by kernel_rfl) rfl (fun _ _ _ _ _ h => h) (by kernel_rfl) (PF.Same.refl _ _) (fun u hu => by have hcu := hu.cell; go_simp; try rfl) ?_
      try simp only [Act.put, List.setIfInBounds_toArray, List.set_cons_zero, List.set_cons_succ]
      refine PF.pf_take1 5 (PF.Same (w.heap.size+1) _) (by kernel_rfl) rfl (fun _ _ _ _ _ h => h) (by kernel_rfl) (PF.Same.refl _ _) (fun u hu => by have hcu := hu.cell; go_simp; try rfl) ?_
      try simp only [Act.put, List.setIfInBounds_toArray, List.set_cons_zero, List.set_cons_succ]
      refine PF.pf_take0 6 (by kernel_rfl) rfl (fun _ _ _ _ _ h => h) (by kernel_rfl) (fun u => by go_simp; try rfl) ?_
      try simp only [Act.put, List.setIfInBounds_toArray, List.set_cons_zero, List.set_cons_succ]
      refine PF.pf_fork [3, 4] (by kernel_rfl) rfl (PF.fork_cons ?_ (PF.fork_cons ?_ PF.fork_nil))
      -- number 3 first
      · refine PF.step_one rfl (by kernel_rfl) (fun K hK => ?_)
        go_simp
        refine (mkput_any n A3 b.length c3 W4.drew).mono ?_
        rintro e w5 ⟨rfl, hw5⟩
        have HW5 := Lib.hid hw5
        have hb5 : Below W4.heap.size W4 w5 := by rw [hw5]; exact (((Below.refl W4.heap.size W4).drew).alloc (Nat.le_refl _) _).alloc (by simp) _
        clear hw5
        refine hK _ _ (by repeat (first | exact PF.owes_nil | refine PF.owes_left ?_ | refine PF.owes_no (by decide +kernel) ?_ | refine PF.owes_yes (by first | exact hb5.block _ hlb4 | exact hb5.block _ hln4) ?_)) ?_
        clear hK K
        try simp only [Act.put, List.setIfInBounds_toArray, List.set_cons_zero, List.set_cons_succ]
        refine PF.pf_exec 4 (by kernel_rfl) rfl (by kernel_rfl) (fun K hK => ?_)
        go_simp
        refine hK _ _ (by repeat (first | exact PF.owes_nil | refine PF.owes_left ?_ | refine PF.owes_no (by decide +kernel) ?_ | refine PF.owes_yes (by first | rfl | exact hb5.block _ hlb4 | exact hb5.block _ hln4) ?_)) ?_
        clear hK K
        try simp only [Act.put, List.setIfInBounds_toArray, List.set_cons_zero, List.set_cons_succ]
        refine PF.pf_take0 7 (by kernel_rfl) rfl (fun _ _ _ _ _ h => h) (by kernel_rfl) (fun u => by go_simp; try rfl) ?_
        try simp only [Act.put, List.setIfInBounds_toArray, List.set_cons_zero, List.set_cons_succ]
        refine PF.pf_exec 8 (by kernel_rfl) rfl (by kernel_rfl) (fun K hK => ?_)
        go_simp
        obtain ⟨k5n, k5b, hz5⟩ := mkput_at HW5.out
        have hbw5 : Below w.heap.size w w5 := hbw.trans (hb5.mono hbw.size)
        have hq4 := HZ4.out
        have hin5 : BytesIn w5 (fun k => V k ∨ From w.heap.size w5 k) (A3, b.length, c3) b := (hin4.mod (S := fun _ => False) (Mod.below hb5 (Nat.le_refl _)) fun _ _ e => e).mono fun k hk => .inr ⟨by have := hk.1; omega, by have := hk.2; omega⟩
        have hD5 : Dsk w5 d U (fun k => V k ∨ From w.heap.size w5 k) x := ⟨mf, ml, v, (h.below hbw5).more (fun _ => .inl) (fun k hu hv => hv.elim (h.apart k hu) fun e => by have := h.ulo k hu; have := e.1; omega) fun k hv => hv.elim (fun e => by have := h.vlo k e; omega) fun e => e.2⟩
        have hcn : CapS w5 (fun k => V k ∨ From w.heap.size w5 k) w.heap.size n := ⟨kn4.below hb5 hln4, .inr ⟨Nat.le_refl _, by omega⟩, hn⟩
        have hcb : CapB w5 (fun k => V k ∨ From w.heap.size w5 k) (w.heap.size + 1) b := ⟨A3, c3, kb4.below hb5 hlb4, .inr ⟨by omega, by omega⟩, hin5, by omega⟩
        have hcn2 : CapS w5 (fun k => V k ∨ From w.heap.size w5 k) W4.heap.size n := ⟨k5n, .inr ⟨by omega, by omega⟩, hn⟩
        have hcb2 : CapB w5 (fun k => V k ∨ From w.heap.size w5 k) (W4.heap.size + 1) b := ⟨A3, c3, k5b, .inr ⟨by omega, by omega⟩, hin5, by omega⟩
        refine (wait_any hD5 (.app n b) _ _ ⟨_, _, rfl, hcn2, hcb2⟩ ⟨_, _, rfl, hcn, hcb⟩ (by omega) (by have := hx.ns; omega) hx.nw).mono ?_
        rintro e w9 ⟨rfl, hto⟩
        refine hK _ _ (by repeat (first | exact PF.owes_nil | refine PF.owes_left ?_ | refine PF.owes_no (by decide +kernel) ?_ | refine PF.owes_yes (by first | rfl | assumption | go_simp) ?_)) ?_
        clear hK K
        try simp only [Act.put, List.setIfInBounds_toArray, List.set_cons_zero, List.set_cons_succ]
        refine PF.pf_done (by kernel_rfl) ?_
        go_wp2_with fail
        go_ret
        exact Ans.mk (by unfold Dk.append; rw [HQ.out, if_neg (by simp), if_neg (by omega)]; rfl) (To.start hbw5 hto)
      -- number 4 first
      · refine PF.step_one rfl (by kernel_rfl) (fun K hK => ?_)
        go_simp
        refine hK _ _ (by repeat (first | exact PF.owes_nil | refine PF.owes_left ?_ | refine PF.owes_no (by decide +kernel) ?_ | refine PF.owes_yes (by first | rfl | exact hb5.block _ hlb4 | exact hb5.block _ hln4) ?_)) ?_
        clear hK K
        try simp only [Act.put, List.setIfInBounds_toArray, List.set_cons_zero, List.set_cons_succ]
        refine PF.pf_exec 3 (by kernel_rfl) rfl (by kernel_rfl) (fun K hK => ?_)
        go_simp
        refine (mkput_any n A3 b.length c3 W4.drew).mono ?_
        rintro e w5 ⟨rfl, hw5⟩
        have HW5 := Lib.hid hw5
        have hb5 : Below W4.heap.size W4 w5 := by rw [hw5]; exact (((Below.refl W4.heap.size W4).drew).alloc (Nat.le_refl _) _).alloc (by simp) _
        clear hw5
        refine hK _ _ (by repeat (first | exact PF.owes_nil | refine PF.owes_left ?_ | refine PF.owes_no (by decide +kernel) ?_ | refine PF.owes_yes (by first | exact hb5.block _ hlb4 | exact hb5.block _ hln4) ?_)) ?_
        clear hK K
        try simp only [Act.put, List.setIfInBounds_toArray, List.set_cons_zero, List.set_cons_succ]
        refine PF.pf_take0 7 (by kernel_rfl) rfl (fun _ _ _ _ _ h => h) (by kernel_rfl) (fun u => by go_simp; try rfl) ?_
        try simp only [Act.put, List.setIfInBounds_toArray, List.set_cons_zero, List.set_cons_succ]
        refine PF.pf_exec 8 (by kernel_rfl) rfl (by kernel_rfl) (fun K hK => ?_)
        go_simp
        obtain ⟨k5n, k5b, hz5⟩ := mkput_at HW5.out
        have hbw5 : Below w.heap.size w w5 := hbw.trans (hb5.mono hbw.size)
        have hq4 := HZ4.out
        have hin5 : BytesIn w5 (fun k => V k ∨ From w.heap.size w5 k) (A3, b.length, c3) b := (hin4.mod (S := fun _ => False) (Mod.below hb5 (Nat.le_refl _)) fun _ _ e => e).mono fun k hk => .inr ⟨by have := hk.1; omega, by have := hk.2; omega⟩
        have hD5 : Dsk w5 d U (fun k => V k ∨ From w.heap.size w5 k) x := ⟨mf, ml, v, (h.below hbw5).more (fun _ => .inl) (fun k hu hv => hv.elim (h.apart k hu) fun e => by have := h.ulo k hu; have := e.1; omega) fun k hv => hv.elim (fun e => by have := h.vlo k e; omega) fun e => e.2⟩
        have hcn : CapS w5 (fun k => V k ∨ From w.heap.size w5 k) w.heap.size n := ⟨kn4.below hb5 hln4, .inr ⟨Nat.le_refl _, by omega⟩, hn⟩
        have hcb : CapB w5 (fun k => V k ∨ From w.heap.size w5 k) (w.heap.size + 1) b := ⟨A3, c3, kb4.below hb5 hlb4, .inr ⟨by omega, by omega⟩, hin5, by omega⟩
        have hcn2 : CapS w5 (fun k => V k ∨ From w.heap.size w5 k) W4.heap.size n := ⟨k5n, .inr ⟨by omega, by omega⟩, hn⟩
        have hcb2 : CapB w5 (fun k => V k ∨ From w.heap.size w5 k) (W4.heap.size + 1) b := ⟨A3, c3, k5b, .inr ⟨by omega, by omega⟩, hin5, by omega⟩
        refine (wait_any hD5 (.app n b) _ _ ⟨_, _, rfl, hcn2, hcb2⟩ ⟨_, _, rfl, hcn, hcb⟩ (by omega) (by have := hx.ns; omega) hx.nw).mono ?_
        rintro e w9 ⟨rfl, hto⟩
        refine hK _ _ (by repeat (first | exact PF.owes_nil | refine PF.owes_left ?_ | refine PF.owes_no (by decide +kernel) ?_ | refine PF.owes_yes (by first | rfl | assumption | go_simp) ?_)) ?_
        clear hK K
        try simp only [Act.put, List.setIfInBounds_toArray, List.set_cons_zero, List.set_cons_succ]
        refine PF.pf_done (by kernel_rfl) ?_
        go_wp2_with fail
        go_ret
        exact Ans.mk (by unfold Dk.append; rw [HQ.out, if_neg (by simp), if_neg (by omega)]; rfl) (To.start hbw5 hto)
  · have hq' : (q != 0) = true := by simpa using hq
    go_wp2_with fail
    go_ret
    exact Ans.mk (by unfold Dk.append; rw [HQ.out, if_pos hq]) (To.same h0 (hb1.trans (hb2.mono hb1.size)))
end Go.Proofs.Ytggdkhgpkedbkaa
