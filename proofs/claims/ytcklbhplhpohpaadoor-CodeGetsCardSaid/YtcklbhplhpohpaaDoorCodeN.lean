/- The reader's U8, U32, Uint behind a fault, and of no reader. (Printed by codeg3.py.) -/
import Derived.Test.YtcklbhplhpohpaaDoorCodeM
namespace Go.Proofs.YtcklbhplhpohpaaDoor
open Go.RowKit

theorem u8_off (r : Nat) (A : Option Addr) (c : Nat) (l : List UInt8) (p : Nat) (w : World) (h : RdB w r A c l p true) :
    Calls Tryd.prog 52 #[.pointer (some ⟨r, 0, none⟩)] w fun e w' => e = .returned (.int .u8 0) ∧ Below w.heap.size w w' := by
  have hmf : ∀ (fn : Fn) (first cap : Array Value) (w : World), (Instr.makeFunc fn first cap).run Tryd.prog w = .ok (.func fn first cap) w := fun _ _ _ _ => rfl
  obtain ⟨_, hb, hbel⟩ := two_new w 41 5 (.pointer (some ⟨r, 0, none⟩)) (.int .u8 0)
  have HG := Lib.hid (fun fv => part_off fv r A c l p _ (h.below hbel))
  go_enter Tryd.func52, Tryd.ntmps52
  go_wp2_with fail
  refine (HG.out _).mono ?_
  rintro e w3 ⟨rfl, hb3⟩
  have hb4 := hb.below hb3 (by simp)
  have b0 := hb4.cell 0
  have bf := hb4.free 0
  simp only [List.getElem?_toArray, List.getElem?_cons_zero] at b0
  have hB := Lib.hid (hbel.trans (hb3.mono (by simp; omega)))
  go_wp2_with fail
  have hb5 := (hb4.put0 (.int .u8 0)).cell 0
  simp only [List.getElem?_toArray, List.getElem?_cons_zero] at hb5
  refine bodyPost_ret (v := .int .u8 0) (by simp [results, Tryd.results52, go_sem, hb5]) rfl ?_
  exact ⟨rfl, hB.out.setCell (p := ⟨w.heap.size + 1, 0, none⟩) (by simp) _⟩

theorem u8_nil (w : World) :
    Calls Tryd.prog 52 #[.pointer none] w fun e w' => e = .returned (.int .u8 0) ∧ Below w.heap.size w w' := by
  have hmf : ∀ (fn : Fn) (first cap : Array Value) (w : World), (Instr.makeFunc fn first cap).run Tryd.prog w = .ok (.func fn first cap) w := fun _ _ _ _ => rfl
  obtain ⟨_, hb, hbel⟩ := two_new w 41 5 (.pointer none) (.int .u8 0)
  have HG := Lib.hid (fun fv => part_nil fv ((w.alloc (.cells #[.pointer none] 41)).alloc (.cells #[.int .u8 0] 5)))
  go_enter Tryd.func52, Tryd.ntmps52
  go_wp2_with fail
  refine (HG.out _).mono ?_
  rintro e w3 ⟨rfl, hb3⟩
  have hb4 := hb.below hb3 (by simp)
  have b0 := hb4.cell 0
  have bf := hb4.free 0
  simp only [List.getElem?_toArray, List.getElem?_cons_zero] at b0
  have hB := Lib.hid (hbel.trans (hb3.mono (by simp; omega)))
  go_wp2_with fail
  have hb5 := (hb4.put0 (.int .u8 0)).cell 0
  simp only [List.getElem?_toArray, List.getElem?_cons_zero] at hb5
  refine bodyPost_ret (v := .int .u8 0) (by simp [results, Tryd.results52, go_sem, hb5]) rfl ?_
  exact ⟨rfl, hB.out.setCell (p := ⟨w.heap.size + 1, 0, none⟩) (by simp) _⟩

theorem u32_off (r : Nat) (A : Option Addr) (c : Nat) (l : List UInt8) (p : Nat) (w : World) (h : RdB w r A c l p true) :
    Calls Tryd.prog 53 #[.pointer (some ⟨r, 0, none⟩)] w fun e w' => e = .returned (.int .u32 0) ∧ Below w.heap.size w w' := by
  have hmf : ∀ (fn : Fn) (first cap : Array Value) (w : World), (Instr.makeFunc fn first cap).run Tryd.prog w = .ok (.func fn first cap) w := fun _ _ _ _ => rfl
  obtain ⟨_, hb, hbel⟩ := two_new w 41 65 (.pointer (some ⟨r, 0, none⟩)) (.int .u32 0)
  have HG := Lib.hid (fun fv => part_off fv r A c l p _ (h.below hbel))
  go_enter Tryd.func53, Tryd.ntmps53
  go_wp2_with fail
  refine (HG.out _).mono ?_
  rintro e w3 ⟨rfl, hb3⟩
  have hb4 := hb.below hb3 (by simp)
  have b0 := hb4.cell 0
  have bf := hb4.free 0
  simp only [List.getElem?_toArray, List.getElem?_cons_zero] at b0
  have hB := Lib.hid (hbel.trans (hb3.mono (by simp; omega)))
  go_wp2_with fail
  have hb5 := (hb4.put0 (.int .u32 0)).cell 0
  simp only [List.getElem?_toArray, List.getElem?_cons_zero] at hb5
  refine bodyPost_ret (v := .int .u32 0) (by simp [results, Tryd.results53, go_sem, hb5]) rfl ?_
  exact ⟨rfl, hB.out.setCell (p := ⟨w.heap.size + 1, 0, none⟩) (by simp) _⟩

theorem u32_nil (w : World) :
    Calls Tryd.prog 53 #[.pointer none] w fun e w' => e = .returned (.int .u32 0) ∧ Below w.heap.size w w' := by
  have hmf : ∀ (fn : Fn) (first cap : Array Value) (w : World), (Instr.makeFunc fn first cap).run Tryd.prog w = .ok (.func fn first cap) w := fun _ _ _ _ => rfl
  obtain ⟨_, hb, hbel⟩ := two_new w 41 65 (.pointer none) (.int .u32 0)
  have HG := Lib.hid (fun fv => part_nil fv ((w.alloc (.cells #[.pointer none] 41)).alloc (.cells #[.int .u32 0] 65)))
  go_enter Tryd.func53, Tryd.ntmps53
  go_wp2_with fail
  refine (HG.out _).mono ?_
  rintro e w3 ⟨rfl, hb3⟩
  have hb4 := hb.below hb3 (by simp)
  have b0 := hb4.cell 0
  have bf := hb4.free 0
  simp only [List.getElem?_toArray, List.getElem?_cons_zero] at b0
  have hB := Lib.hid (hbel.trans (hb3.mono (by simp; omega)))
  go_wp2_with fail
  have hb5 := (hb4.put0 (.int .u32 0)).cell 0
  simp only [List.getElem?_toArray, List.getElem?_cons_zero] at hb5
  refine bodyPost_ret (v := .int .u32 0) (by simp [results, Tryd.results53, go_sem, hb5]) rfl ?_
  exact ⟨rfl, hB.out.setCell (p := ⟨w.heap.size + 1, 0, none⟩) (by simp) _⟩

theorem uint_off (r : Nat) (A : Option Addr) (c : Nat) (l : List UInt8) (p : Nat) (w : World) (h : RdB w r A c l p true) :
    Calls Tryd.prog 18 #[.pointer (some ⟨r, 0, none⟩)] w fun e w' => e = .returned (.int .u64 0) ∧ Below w.heap.size w w' := by
  have hmf : ∀ (fn : Fn) (first cap : Array Value) (w : World), (Instr.makeFunc fn first cap).run Tryd.prog w = .ok (.func fn first cap) w := fun _ _ _ _ => rfl
  obtain ⟨_, hb, hbel⟩ := two_new w 41 34 (.pointer (some ⟨r, 0, none⟩)) (.int .u64 0)
  have HG := Lib.hid (fun fv => part_off fv r A c l p _ (h.below hbel))
  go_enter Tryd.func18, Tryd.ntmps18
  go_wp2_with fail
  refine (HG.out _).mono ?_
  rintro e w3 ⟨rfl, hb3⟩
  have hb4 := hb.below hb3 (by simp)
  have b0 := hb4.cell 0
  have bf := hb4.free 0
  simp only [List.getElem?_toArray, List.getElem?_cons_zero] at b0
  have hB := Lib.hid (hbel.trans (hb3.mono (by simp; omega)))
  go_wp2_with fail
  have hb5 := (hb4.put0 (.int .u64 0)).cell 0
  simp only [List.getElem?_toArray, List.getElem?_cons_zero] at hb5
  refine bodyPost_ret (v := .int .u64 0) (by simp [results, Tryd.results18, go_sem, hb5]) rfl ?_
  exact ⟨rfl, hB.out.setCell (p := ⟨w.heap.size + 1, 0, none⟩) (by simp) _⟩

theorem uint_nil (w : World) :
    Calls Tryd.prog 18 #[.pointer none] w fun e w' => e = .returned (.int .u64 0) ∧ Below w.heap.size w w' := by
  have hmf : ∀ (fn : Fn) (first cap : Array Value) (w : World), (Instr.makeFunc fn first cap).run Tryd.prog w = .ok (.func fn first cap) w := fun _ _ _ _ => rfl
  obtain ⟨_, hb, hbel⟩ := two_new w 41 34 (.pointer none) (.int .u64 0)
  have HG := Lib.hid (fun fv => part_nil fv ((w.alloc (.cells #[.pointer none] 41)).alloc (.cells #[.int .u64 0] 34)))
  go_enter Tryd.func18, Tryd.ntmps18
  go_wp2_with fail
  refine (HG.out _).mono ?_
  rintro e w3 ⟨rfl, hb3⟩
  have hb4 := hb.below hb3 (by simp)
  have b0 := hb4.cell 0
  have bf := hb4.free 0
  simp only [List.getElem?_toArray, List.getElem?_cons_zero] at b0
  have hB := Lib.hid (hbel.trans (hb3.mono (by simp; omega)))
  go_wp2_with fail
  have hb5 := (hb4.put0 (.int .u64 0)).cell 0
  simp only [List.getElem?_toArray, List.getElem?_cons_zero] at hb5
  refine bodyPost_ret (v := .int .u64 0) (by simp [results, Tryd.results18, go_sem, hb5]) rfl ?_
  exact ⟨rfl, hB.out.setCell (p := ⟨w.heap.size + 1, 0, none⟩) (by simp) _⟩
end Go.Proofs.YtcklbhplhpohpaaDoor
