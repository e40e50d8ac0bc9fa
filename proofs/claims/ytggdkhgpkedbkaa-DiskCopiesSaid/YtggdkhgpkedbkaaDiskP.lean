/- Reading a disk. -/
import Derived.Test.YtggdkhgpkedbkaaDiskO
namespace Go.Proofs.Ytggdkhgpkedbkaa
open Go.RowKit

def Dk.read (x : Dk) (n : Nm) : List UInt8 × Int :=
  if askE x.down [n] ≠ 0 then ([], askE x.down [n]) else if (fget n x.seen).isSome = false then ([], 4) else ((fget n x.seen).getD [], 0)
def ReadPost (w : World) (r : List UInt8 × Int) (e : Ending) (w' : World) : Prop :=
  (∃ A c, e = .returned (.tuple #[.slice A r.1.length c, .int .i64 r.2]) ∧ w'.ownsRow w.heap.size 5 1 (.slice A r.1.length c) r.1.length (r.1.map bv)) ∧ Below w.heap.size w w'
theorem ReadPost.none {w w' : World} {r : List UInt8 × Int} {q : Int} (hr : r = ([], q)) (hb : Below w.heap.size w w') : ReadPost w r (.returned (.tuple #[.slice none 0 0, .int .i64 q])) w' := by
  subst hr
  exact ⟨⟨Option.none, 0, rfl, World.ownsRow_nil _ _ _ _⟩, hb⟩
set_option maxRecDepth 100000 in
set_option maxHeartbeats 4000000 in
theorem read_any {w : World} {d : Nat} {U V : Nat → Prop} {x : Dk} (h : Dsk w d U V x) (hx : Small x) (n : Nm) (hn : Nok n) :
    Calls Try.prog 14 #[pd d, .string ⟨n.toArray⟩] w (ReadPost w (x.read n)) := by
  obtain ⟨mf, ml, v, h⟩ := h
  have hpd : pd d = .pointer (some ⟨d, 0, none⟩) := rfl
  rw [hpd]
  go_enter Try.func14, Try.ntmps14
  go_wp2_with fail
  have hS := Strs.one w 9 n
  have hask := asks_any (h.below (below_new w (.cells #[.string ⟨n.toArray⟩] 9))).blk _ 1 [n] hS (by simp) (by simpa using hn)
  rw [hpd] at hask
  refine hask.mono ?_
  rintro e w1 ⟨rfl, hb2⟩
  have hbw : Below w.heap.size w w1 := (below_new w _).trans (hb2.mono (by simp))
  simp only [Option.isNone_some, Bool.false_or]
  clear hask hb2 hS
  generalize hq0 : askE x.down [n] = q at *
  have HQ := Lib.hid hq0
  clear hq0
  have HB := Lib.hid hbw
  rcases Decidable.em (q = 0) with hq | hq
  · subst hq
    have h1 := h.below hbw
    obtain ⟨A0, c0, hlook, hin⟩ := h1.seen.look n hn
    have hlk := (hlook w1 rfl).2
    have d0 := Blk.cell h1.blk 0
    simp only [List.getElem?_toArray, List.getElem?_cons_zero, List.getElem?_cons_succ] at d0
    have hl := Nat.le_trans (flen_le h.seen.srt n) hx.fs
    unfold flen at hl
    clear hlook hbw
    cases hg : (fget n x.seen).isSome
    · rw [hg] at hlk
      have HG := Lib.hid hg
      clear hg
      go_wp2_with fail
      go_ret2
      exact ReadPost.none (by unfold Dk.read; rw [HQ.out, if_neg (by simp), if_pos HG.out]) HB.out
    · rw [hg] at hlk
      have HG := Lib.hid hg
      have HL : Hid (x.read n = ((fget n x.seen).getD [], 0)) := by show _ = _; unfold Dk.read; rw [HQ.out, if_neg (by simp), if_neg (by rw [HG.out]; simp)]
      clear hg
      generalize (fget n x.seen).getD [] = l at *
      have hcl := clone_any A0 c0 l w1 hin.bytes (by omega)
      clear hin
      go_wp2_with (go_at_call 36; refine hcl.mono ?_; clear hcl; rintro e w3 ⟨⟨A3, c3, rfl, ho3⟩, hb4⟩)
      go_ret2
      unfold ReadPost
      rw [HL.out]
      exact ⟨⟨A3, c3, rfl, base_le ho3 HB.out.size⟩, HB.out.trans (hb4.mono HB.out.size)⟩
  · have hq' : (q != 0) = true := by simpa using hq
    go_wp2_with fail
    go_ret2
    exact ReadPost.none (by unfold Dk.read; rw [HQ.out, if_pos hq]) HB.out
theorem waits_any {w : World} {d : Nat} {U V : Nat → Prop} {x : Dk} (h : Dsk w d U V x) : Calls Try.prog 18 #[pd d] w fun e w' => e = .returned (.int .i64 (if x.down then 0 else (x.waits.length : Int))) ∧ w = w' := by
  obtain ⟨mf, ml, v, h⟩ := h
  have hoff := off_any h.blk
  have d2 := Blk.cell h.blk 2
  simp only [List.getElem?_toArray, List.getElem?_cons_zero, List.getElem?_cons_succ] at d2
  obtain ⟨E, hown, _, _⟩ := h.waits
  obtain ⟨A0, c0', rfl, _, _⟩ := own_slice hown
  clear h hown
  generalize x.down = o at *
  unfold pd at *
  cases o <;>
  · go_enter Try.func18, Try.ntmps18
    go_wp2_with (go_at_call 40; refine hoff.mono ?_; rintro e w1 ⟨rfl, rfl⟩)
    go_ret
    exact ⟨rfl, rfl⟩
set_option maxRecDepth 100000 in
theorem size_any {w : World} {d : Nat} {U V : Nat → Prop} {x : Dk} (h : Dsk w d U V x) (n : Nm) (hn : Nok n) : Calls Try.prog 31 #[pd d, .string ⟨n.toArray⟩] w fun e w' => e = .returned (.int .i64 (if x.down then 0 else (flen n x.seen : Int))) ∧ w = w' := by
  obtain ⟨mf, ml, v, h⟩ := h
  have hoff := off_any h.blk
  have d0 := Blk.cell h.blk 0
  simp only [List.getElem?_toArray, List.getElem?_cons_zero, List.getElem?_cons_succ] at d0
  obtain ⟨A0, c0, hlook, _⟩ := h.seen.look n hn
  have hlk := (hlook w rfl).1
  have hfl : ((fget n x.seen).getD []).length = flen n x.seen := rfl
  rw [hfl] at hlk
  clear h hlook hfl
  generalize flen n x.seen = k at *
  generalize x.down = o at *
  unfold pd at *
  cases o <;>
  · go_enter Try.func31, Try.ntmps31
    go_wp2_with (go_at_call 40; refine hoff.mono ?_; rintro e w1 ⟨rfl, rfl⟩)
    go_ret
    exact ⟨rfl, rfl⟩
theorem serial_any {w : World} {d : Nat} {U V : Nat → Prop} {x : Dk} (h : Dsk w d U V x) : Calls Try.prog 32 #[pd d] w fun e w' => e = .returned (.int .u64 x.serial) ∧ w = w' := by
  obtain ⟨mf, ml, v, h⟩ := h
  have hnone := none_any h.blk
  have d4 := Blk.cell h.blk 4
  simp only [List.getElem?_toArray, List.getElem?_cons_zero, List.getElem?_cons_succ] at d4
  unfold pd at *
  go_enter Try.func32, Try.ntmps32
  go_wp2_with (go_at_call 34; refine hnone.mono ?_; rintro e w1 ⟨rfl, rfl⟩)
  go_ret
  exact ⟨rfl, rfl⟩
theorem capacity_any {w : World} {d : Nat} {U V : Nat → Prop} {x : Dk} (h : Dsk w d U V x) : Calls Try.prog 33 #[pd d] w fun e w' => e = .returned (.int .i64 x.cap) ∧ w = w' := by
  obtain ⟨mf, ml, v, h⟩ := h
  have hnone := none_any h.blk
  have d3 := Blk.cell h.blk 3
  simp only [List.getElem?_toArray, List.getElem?_cons_zero, List.getElem?_cons_succ] at d3
  unfold pd at *
  go_enter Try.func33, Try.ntmps33
  go_wp2_with (go_at_call 34; refine hnone.mono ?_; rintro e w1 ⟨rfl, rfl⟩)
  go_ret
  exact ⟨rfl, rfl⟩
theorem down_any {w : World} {d : Nat} {U V : Nat → Prop} {x : Dk} (h : Dsk w d U V x) : Calls Try.prog 26 #[pd d] w fun e w' => e = .returned (.bool x.down) ∧ w = w' := by
  obtain ⟨mf, ml, v, h⟩ := h
  have hoff := off_any h.blk
  unfold pd at *
  go_enter Try.func26, Try.ntmps26
  go_wp2_with (go_at_call 40; refine hoff.mono ?_; rintro e w1 ⟨rfl, rfl⟩)
  go_ret
  exact ⟨ret_bool (by simp), rfl⟩
theorem all_any {w : World} {d : Nat} {U V : Nat → Prop} {x : Dk} (h : Dsk w d U V x) (hx : Small x) : Calls Try.prog 23 #[pd d] w fun e w' => e = .returned (.int .i64 (if x.down then 0 else (fsize x.seen : Int))) ∧ Below w.heap.size w w' := by
  obtain ⟨mf, ml, v, h⟩ := h
  have hoff := off_any h.blk
  have hby := bytes_any h.seen h.vlo (by have := hx.fs; omega)
  have d0 := Blk.cell h.blk 0
  simp only [List.getElem?_toArray, List.getElem?_cons_zero, List.getElem?_cons_succ] at d0
  clear h hx
  generalize fsize x.seen = k at *
  generalize x.down = o at *
  unfold pd fv at *
  cases o
  · go_enter Try.func23, Try.ntmps23
    go_wp2_with (first
      | (go_at_call 40; refine hoff.mono ?_; rintro e w1 ⟨rfl, rfl⟩)
      | (go_at_call 37; refine hby.mono ?_; rintro e w2 ⟨rfl, hb⟩))
    go_ret
    exact ⟨rfl, hb⟩
  · go_enter Try.func23, Try.ntmps23
    go_wp2_with (go_at_call 40; refine hoff.mono ?_; rintro e w1 ⟨rfl, rfl⟩)
    go_ret
    exact ⟨rfl, Below.refl _ _⟩
end Go.Proofs.Ytggdkhgpkedbkaa
