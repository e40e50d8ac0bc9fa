/- Numbers, sorted, as slices.Sorted(slices.Values(..)) gives them. -/
import Derived.Test.YtpbaofabflgpkaaCliB
import Derived.Test.YtpbaofabflgpkaaCliS
import Derived.Test.YtpbaofabflgpkaaCliV
import Derived.Sort.OwnSortedInts
namespace Go.Proofs.Ytpbaofabflgpkaa
set_option linter.unusedVariables false
set_option linter.unusedSimpArgs false
open Go.RowKit

theorem ints_of {K : Nat → Prop} {w : World} {v : Value} {xs : List Int} (h : SlI K w v xs) : Try.Ints w.heap.size w v xs := by
  obtain ⟨A, c, rfl, hr, _⟩ := h
  rcases Nat.eq_zero_or_pos xs.length with h0 | h0
  · have := List.eq_nil_of_length_eq_zero h0
    subst this
    exact .inl ⟨rfl, A, c, rfl⟩
  · obtain ⟨b, o, rfl, hb, hc⟩ := Reads.flat hr h0 (by decide)
    refine .inr ⟨b, o, c, rfl, hb, fun j hj => hc j _ ?_⟩
    rw [List.getElem?_map, List.getElem?_eq_getElem hj]
    rfl
theorem values_any {K : Nat → Prop} {w : World} {v : Value} {xs : List Int} (h : SlI K w v xs) :
    Calls Try.prog 19 #[v] w fun e w' => e = .returned (.func (.func 36) #[] #[.pointer (some ⟨w.heap.size, 0, none⟩)]) ∧ w' = w.alloc (.cells #[v] 23) := by
  obtain ⟨A, c, rfl, _⟩ := h
  go_enter Try.func19, Try.ntmps19
  go_wp2_with fail
  go_ret
  exact ⟨rfl, rfl⟩
theorem appseq_any (Bs : Nat) (sv : Value) (zs : List Int) (hreach : zs.length * 8 ≤ 140737488351232) (w : World) (hBs : Bs < w.heap.size) (hcb : w.cell? ⟨Bs, 0, none⟩ = some sv) (hI : Try.Ints w.heap.size w sv zs) :
    Calls Try.prog 37 #[.slice none 0 0, .func (.func 36) #[] #[.pointer (some ⟨Bs, 0, none⟩)]] w fun e W' => ∃ v, e = .returned v ∧ W'.ownsRow w.heap.size 3 1 v zs.length (zs.map (Value.int .i64)) ∧ Below w.heap.size w W' :=
  callsIn_wide.1 (Try.appseq_in Fence.wide 5 trivial trivial rfl (by omega) Bs sv zs hreach w hBs hcb hI)
set_option maxHeartbeats 1000000 in
theorem collect_any (Bs : Nat) (sv : Value) (zs : List Int) (hreach : zs.length * 8 ≤ 140737488351232) (w : World) (hBs : Bs < w.heap.size) (hcb : w.cell? ⟨Bs, 0, none⟩ = some sv) (hI : Try.Ints w.heap.size w sv zs) :
    Calls Try.prog 34 #[.func (.func 36) #[] #[.pointer (some ⟨Bs, 0, none⟩)]] w fun e W' => ∃ v, e = .returned v ∧ W'.ownsRow w.heap.size 3 1 v zs.length (zs.map (Value.int .i64)) ∧ Below w.heap.size w W' := by
  have HA := Lib.hid (appseq_any Bs sv zs hreach w hBs hcb hI)
  clear hreach hBs hcb hI
  go_enter Try.func34, Try.ntmps34
  go_wp2_with fail
  refine HA.out.mono ?_
  rintro e w1 ⟨v, rfl, ho, hb⟩
  go_wp2_with fail
  go_ret
  exact ⟨v, rfl, ho, hb⟩
set_option maxHeartbeats 1000000 in
theorem sorted_any (Bs : Nat) (sv : Value) (zs : List Int) (hreach : zs.length * 8 ≤ 140737488351232) (w : World) (hBs : Bs < w.heap.size) (hcb : w.cell? ⟨Bs, 0, none⟩ = some sv) (hI : Try.Ints w.heap.size w sv zs) :
    Calls Try.prog 18 #[.func (.func 36) #[] #[.pointer (some ⟨Bs, 0, none⟩)]] w fun e W' => ∃ v, e = .returned v ∧ W'.ownsRow w.heap.size 3 1 v zs.length ((zs.mergeSort fun x y => decide (x ≤ y)).map iv) ∧ Below w.heap.size w W' := by
  have HA := Lib.hid (collect_any Bs sv zs hreach w hBs hcb hI)
  have HL : Hid (zs.length < 4611686018427387904) := by show _ < _; omega
  clear hreach hBs hcb hI
  go_enter Try.func18, Try.ntmps18
  go_wp2_with fail
  refine HA.out.mono ?_
  rintro e w1 ⟨v, rfl, ho, hb⟩
  have HO := Lib.hid ho
  rcases ho.2 with ⟨hv, hz⟩ | ⟨gb, cap, cur, hv, hbase, hgb, r1, r2, r3, r4⟩
  · subst hv
    have hzs : zs = [] := List.eq_nil_of_length_eq_zero hz
    subst hzs
    have HB := Lib.hid hb
    clear hb ho hz
    go_wp2_with fail
    refine (AnyM.slices_Sort_int_none Try.sortI none 0 w1).mono ?_
    rintro e w2 ⟨rfl, rfl⟩
    go_wp2_with fail
    go_ret
    exact ⟨_, rfl, by simpa using HO.out, HB.out⟩
  · subst hv
    have hH : Sort.Holds (Value.int .i64) w1 gb 0 zs.toArray := holds_of_blockI hgb (by simpa using r4)
    have hgl : gb < w1.heap.size := (Array.getElem?_eq_some_iff.1 hgb).1
    have HS := Lib.hid (AnyM.slices_Sort_int Try.sortI gb 0 cap zs w1 hH hgl HL.out)
    have HQ : Hid (∀ n os, (Sort.grow (Sort.putRow (Value.int .i64) (Sort.ahead w1 n) gb 0 (zs.mergeSort fun x y => decide (x ≤ y)).toArray) os).ownsRow w.heap.size 3 1 (.slice (some ⟨gb, 0, none⟩) zs.length cap) zs.length ((zs.mergeSort fun x y => decide (x ≤ y)).map (Value.int .i64))) := fun n os => ownsRow_sortedI (by simp) hbase hgb r1 r2 r3
    have HB : Hid (∀ n os, Below w.heap.size w (Sort.grow (Sort.putRow (Value.int .i64) (Sort.ahead w1 n) gb 0 (zs.mergeSort fun x y => decide (x ≤ y)).toArray) os)) := fun n os => hb.grown (grownBy_sortedI _) hb.size fun j hj => by cases hj; exact hbase
    clear hb ho hH hgl hgb r1 r2 r3 r4
    go_wp2_with fail
    refine HS.out.mono ?_
    rintro e w2 ⟨rfl, nn, os, rfl⟩
    go_wp2_with fail
    go_ret
    exact ⟨_, rfl, HQ.out nn os, HB.out nn os⟩
end Go.Proofs.Ytpbaofabflgpkaa
