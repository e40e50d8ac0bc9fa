/- A row of marks of the call's own, sorted by producers. -/
import Derived.Test.YtgdbknbpnlpdnaaFoldE
import Derived.Test.YtgdbknbpnlpdnaaFoldC
import Derived.Shelf.SlSortCmp.NoneTotal
namespace Go.Proofs.Ytgdbknbpnlpdnaa
set_option linter.unusedVariables false
set_option linter.unusedSimpArgs false
open Go.RowKit Go.Sort Go.Shelf

theorem flat_row (ms : List Mk) : flatK Mk.cells 3 ms.toArray = (Mk.row ms).toArray := by
  refine Array.ext (by rw [size_flatK]; simp [Mk.row_len]) fun t h1 h2 => ?_
  have ht : t < ms.length * 3 := by simpa using h1
  have hk : t / 3 < ms.length := by omega
  have hr := Mk.row_at ms (t / 3) (t % 3) hk (Nat.mod_lt _ (by decide))
  rw [show t / 3 * 3 + t % 3 = t by omega] at hr
  have hg := get_flatK Mk.cells 3 ms.toArray t (by simpa using ht)
  rw [getElem!_pos _ t h1] at hg
  rw [hg]
  have h3 : (ms.toArray)[t / 3]! = ms[t / 3] := by
    rw [getElem!_pos _ _ (by simpa using hk)]
    simp
  rw [h3, getElem!_pos _ (t % 3) (by show t % 3 < 3; exact Nat.mod_lt _ (by decide))]
  have h4 : (Mk.row ms)[t]? = some (((Mk.row ms).toArray)[t]) := by
    rw [List.getElem_toArray]
    exact List.getElem?_eq_getElem (by simpa using h2)
  rw [h4] at hr
  have h5 : (Mk.cells ms[t / 3])[t % 3]? = some ((Mk.cells ms[t / 3])[t % 3]'(by show t % 3 < 3; exact Nat.mod_lt _ (by decide))) := List.getElem?_eq_getElem _
  rw [h5] at hr
  exact (Option.some.inj hr).symm
theorem holds_row {w : World} {g : Nat} {cur : Array Value} {e : TypeId} {F : List Value} (hb : w.heap[g]? = some (.cells cur e (0, 0))) (ht : cur.toList.take F.length = F) : Holds id w g 0 F.toArray := by
  intro j hj
  have hj' : j < F.length := by simpa using hj
  refine ⟨?_, by simp [World.frozen?, hb]⟩
  have h1 : (cur.toList.take F.length)[j]? = F[j]? := by rw [ht]
  rw [List.getElem?_take_of_lt hj'] at h1
  simp only [World.cell?, hb, Nat.zero_add]
  simp only [Option.isSome_none, Bool.false_eq_true, if_false]
  rw [← Array.getElem?_toList, h1]
  simp [hj']
theorem heap_row {w : World} {g n : Nat} {os : Array Obj} {cur : Array Value} {e : TypeId} {fr : Nat × Nat} (d : Array Value) (hb : w.heap[g]? = some (.cells cur e fr)) :
    (Sort.grow (putRow id (Sort.ahead w n) g 0 d) os).heap[g]? = some (.cells (putCells id 0 d cur) e fr) := by
  have hg : g < w.heap.size := (Array.getElem?_eq_some_iff.1 hb).1
  rw [heap_grow_old _ _ (by simpa using hg)]
  simp [putRow, mapBlock, Sort.ahead, Array.getElem?_modify, hb, onCells]
theorem grownBy_row {w : World} {g n : Nat} {os : Array Obj} (d : Array Value) : w.grownBy (Sort.grow (putRow id (Sort.ahead w n) g 0 d) os) (some g) := by
  refine ⟨rfl, rfl, rfl, by simp, fun k hk hne => ?_⟩
  rw [heap_grow_old _ _ (by simpa using hk)]
  have : g ≠ k := fun e => hne (by rw [e])
  simp [putRow, mapBlock, Sort.ahead, Array.getElem?_modify, this]
theorem take_putRow (cur : Array Value) (ts : List Value) (h : ts.length ≤ cur.size) : (putCells id 0 ts.toArray cur).toList.take ts.length = ts := by
  apply List.ext_getElem?
  intro j
  by_cases hj : j < ts.length
  · rw [List.getElem?_take_of_lt hj, Array.getElem?_toList]
    simp [putCells, hj, show j < cur.size by omega]
  · rw [List.getElem?_take_eq_none (by omega), List.getElem?_eq_none (by omega)]
def cmpP (x y : Mk) : Int := Lib.compareInt x.p.toInt y.p.toInt
theorem ltP (x y : Mk) : ltOf cmpP x y = decide (x.p.toInt < y.p.toInt) := by
  unfold ltOf cmpP Lib.compareInt
  by_cases h1 : x.p.toInt < y.p.toInt
  · simp [h1]
  · by_cases h2 : y.p.toInt < x.p.toInt <;> simp [h1, h2]
theorem swoP : SWO (ltOf cmpP) where
  irrefl x := by rw [ltP]; simp
  trans x y z h1 h2 := by rw [ltP] at *; simp at *; omega
  ntrans x y z h1 h2 := by rw [ltP] at *; simp at *; omega
set_option maxHeartbeats 1000000 in
theorem fold2_any (x y : Mk) (W : World) : Calls Try.prog 55 (#[.agg (Mk.cells x).toArray, .agg (Mk.cells y).toArray] ++ #[]) W fun e w' => e = .returned (.int .i64 (cmpP x y)) ∧ ∃ q os', w' = Sort.grow (W.drewN q) os' := by
  have hcon := fun W' => AnyG.cmp_Compare_int Try.cmpI x.p.toInt y.p.toInt W'
  change ∀ W', Calls Try.prog 56 _ _ _ at hcon
  show Calls Try.prog 55 #[.agg #[.int .i64 x.p.toInt, .int .u64 (x.s.toNat : Int), .int .u64 (x.o.toNat : Int)], .agg #[.int .i64 y.p.toInt, .int .u64 (y.s.toNat : Int), .int .u64 (y.o.toNat : Int)]] W _
  unfold cmpP
  generalize Lib.compareInt x.p.toInt y.p.toInt = r at hcon ⊢
  go_enter Try.func55, Try.ntmps55
  go_wp2_with (go_at_call 56; refine (hcon _).mono ?_; rintro e w' ⟨rfl, rfl⟩)
  go_ret
  exact ⟨rfl, 0, _, by rw [alloc_eq_grow, alloc_eq_grow, grow_grow]; rfl⟩
set_option maxHeartbeats 1000000 in
theorem sort_any (w : World) (A : Option Addr) (c : Nat) (ms : List Mk) (B : Nat) (ho : OwnM w B (.slice A ms.length c) ms) (hB : B ≤ w.heap.size) (hn : ms.length ≤ 1000000) : SortsM w A c ms B := by
  have eg : ∀ args w, (callFunc 55 args).run Try.prog w = .ok (.enter 55 args) w := enters_of Try.func55 (by kernel_rfl) rfl
  unfold SortsM
  rcases ho.2 with ⟨hv, hz⟩ | ⟨gb, cap, cur, hv, hbase, hgb, r1, r2, r3, r4⟩
  · obtain rfl := List.eq_nil_of_length_eq_zero hz
    injection hv with hA _ hc
    subst hA hc
    refine (AnyF.slices_SortFunc_none Try.sortM none 0 (.func (.func 55) #[] #[]) w).mono ?_
    rintro e w' ⟨he, rfl⟩
    exact ⟨he, [], List.Perm.refl _, List.Pairwise.nil, OwnM.nil_ _ _, Below.refl _ _⟩
  · injection hv with hA _ hc
    subst hA hc
    have hgl : gb < w.heap.size := (Array.getElem?_eq_some_iff.1 hgb).1
    have hrl : (Mk.row ms).length = ms.length * 3 := Mk.row_len ms
    have hH : HoldsK Mk.cells 3 w gb 0 ms.toArray := by
      unfold HoldsK
      rw [flat_row]
      exact holds_row hgb (by rw [hrl]; exact r4)
    have hcon := AnyQ.slices_SortFunc Try.sortM 3 Try.isAgg38 Try.sizeOf38 Mk.cells (fun _ => rfl) (fun x v hv => by simp [Mk.cells] at hv; rcases hv with rfl | rfl | rfl <;> rfl) cmpP swoP 55 #[] gb 0 c ms.toArray w eg (fun _ _ _ _ x y => fold2_any x y _) hH hgl (by simp; omega)
    simp only [List.size_toArray] at hcon
    refine hcon.mono ?_
    rintro e w' ⟨he, d', n, os, ⟨hs, _, hp⟩, hso, rfl⟩
    have hs' : d'.size = ms.length := by simpa using hs
    have hp' : d'.toList.Perm ms := by
      have e1 : d'.extract 0 ms.length = d' := by rw [← hs']; exact Array.extract_size
      have e2 : ms.toArray.extract 0 ms.length = ms.toArray := by
        have : ms.length = ms.toArray.size := by simp
        rw [this]; exact Array.extract_size
      rw [e1, e2] at hp
      simpa using hp
    have hd : sortWorldK Mk.cells 3 w gb 0 n d' os = Sort.grow (putRow id (Sort.ahead w n) gb 0 (Mk.row d'.toList).toArray) os := by
      unfold sortWorldK putRowK
      rw [← flat_row]
    rw [hd]
    have hl' : (Mk.row d'.toList).length = ms.length * 3 := by rw [Mk.row_len]; simp [hs']
    refine ⟨he, d'.toList, hp', ?_, ?_, ?_⟩
    · rw [List.pairwise_iff_getElem]
      intro i j hi hj hij
      have hj' : j < ms.length := by simpa [hs'] using hj
      have h := hso i j (Nat.zero_le _) hij hj'
      rw [ltP] at h
      have h := of_decide_eq_false h
      rw [getElem!_pos d' i (by omega), getElem!_pos d' j (by omega)] at h
      simpa using h
    · refine ⟨by rw [hl']; simp [hs'], .inr ⟨gb, c, _, by simp [hs'], hbase, heap_row _ hgb, by simp [hs']; exact r1, r2, by simp [putCells, r3], ?_⟩⟩
      rw [show d'.toList.length * 3 = (Mk.row d'.toList).length from by rw [Mk.row_len]]
      exact take_putRow cur _ (by rw [hl', r3]; exact Nat.mul_le_mul_right _ r1)
    · exact (Below.refl B w).grown (grownBy_row _) hB fun j hj => by cases hj; exact hbase
end Go.Proofs.Ytgdbknbpnlpdnaa
