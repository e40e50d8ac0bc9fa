/- Joined texts: CliH, CliS. -/
import Derived.Test.YtpjmolnkmlpfeaaGreatDoorJR
import Derived.Shelf.SortM.Plain
import Derived.Shelf.SortM.SortNone
import Derived.Ground.SlgmProg
import Derived.Test.YtpjmolnkmlpfeaaGreatDoorChecked
/- A client's calls: slices.Index at numbers. -/
namespace Go.Proofs.YtpjmolnkmlpfeaaGreatDoor
set_option linter.unusedVariables false
set_option linter.unusedSimpArgs false
set_option maxRecDepth 100000
open Go.RowKit

def idxI (xs : List Int) (x : Int) : Int := match xs.findIdx? (fun b => decide (b = x)) with | some k => (k : Int) | none => -1
theorem idx_some {xs : List Int} {x : Int} {k : Nat} (hk : k < xs.length) (he : xs[k] = x) (hn : ∀ j, j < k → ∀ y, xs[j]? = some y → y ≠ x) : xs.findIdx? (fun b => decide (b = x)) = some k := by
 rw [List.findIdx?_eq_some_iff_getElem]
 refine ⟨hk, by simp [he], fun j hj => ?_⟩
 have := hn j hj xs[j] (List.getElem?_eq_getElem (by omega))
 simp [this]
theorem idx_none {xs : List Int} {x : Int} (hn : ∀ j, j < xs.length → ∀ y, xs[j]? = some y → y ≠ x) : xs.findIdx? (fun b => decide (b = x)) = none := by
 rw [List.findIdx?_eq_none_iff]
 intro y hy
 obtain ⟨j, hj, rfl⟩ := List.getElem_of_mem hy
 have := hn j hj xs[j] (List.getElem?_eq_getElem hj)
 simp [this]
set_option maxHeartbeats 4000000 in
theorem index_any {K : Nat → Prop} {w : World} {v : Value} {xs : List Int} (h : SlI K w v xs) (x : Int) (hn : xs.length ≤ 1000000) :
  Calls Tryz.prog 76 #[v, .int .i64 x] w fun e w' => e = .returned (.int .i64 (idxI xs x)) ∧ w' = w := by
 obtain ⟨A, c, rfl, hr, _⟩ := h
 have HR := Lib.hid hr
 clear hr
 go_enter Tryz.func76, Tryz.ntmps76
 go_wp2_with fail
 go_loopw [8] (fun i wr => ∃ k : Nat, k ≤ xs.length ∧ i = .int .i64 k ∧ wr = w ∧ ∀ j, j < k → ∀ y, xs[j]? = some y → y ≠ x) (fun i _ => xs.length - (intOf i).toNat)
 case atStart => exact ⟨0, by omega, rfl, rfl, by intro j hj; omega⟩
 case round =>
  obtain ⟨k, hk, rfl, hw, hnot⟩ := hrel
  subst hw
  have HNOT := Lib.hid hnot
  clear hnot
  by_cases hlt : k < xs.length
  ·obtain ⟨b, o, rfl, _, hc⟩ := Reads.flat HR.out (by omega) (by decide)
   have c0 := hc k (iv xs[k]) (by rw [List.getElem?_map, List.getElem?_eq_getElem hlt]; rfl)
   have HK : Hid (xs[k]? = some xs[k]) := List.getElem?_eq_getElem hlt
   have HKK : ∃ y, xs[k] = y := ⟨_, rfl⟩
   obtain ⟨y, HKK⟩ := HKK
   rw [HKK] at c0 HK
   have HKK := Lib.hid HKK
   unfold iv at c0
   clear hc
   by_cases hy : x = y
   ·have d0 : decide (x = y) = true := decide_eq_true hy
    have d1 : (x == y) = true := beq_iff_eq.2 hy
    have HID : Hid (idxI xs x = (k : Int)) := by
     show _ = _
     unfold idxI
     rw [idx_some hlt (by rw [HKK.out, hy]) HNOT.out]
    clear hy
    go_wp2_with fail
    go_ret
    exact ⟨by rw [HID.out]; rfl, rfl⟩
   ·have d0 : decide (x = y) = false := decide_eq_false hy
    have d1 : (x == y) = false := beq_eq_false_iff_ne.2 hy
    have HY := Lib.hid hy
    clear hy
    go_wp2_with fail
    go_roundw
    case rel =>
     refine ⟨k + 1, by omega, by go_num, by first | rfl | trivial, fun j hj z hz => ?_⟩
     rcases Nat.lt_or_ge j k with h | h
     ·exact HNOT.out j h z hz
     ·obtain rfl : j = k := by omega
      rw [HK.out] at hz
      injection hz with hz
      rw [← hz]
      exact fun e => HY.out e.symm
    case measure => simp [intOf]; omega
  ·obtain rfl : k = xs.length := by omega
   have HID : Hid (idxI xs x = -1) := by
    show _ = _
    unfold idxI
    rw [idx_none HNOT.out]
   go_wp2_with fail
   go_ret
   exact ⟨by rw [HID.out]; rfl, rfl⟩
end Go.Proofs.YtpjmolnkmlpfeaaGreatDoor

/- Numbers, sorted: what the kit's contract on slices.Sort says here. -/
namespace Go.Proofs
set_option maxRecDepth 100000
open Go.RowKit Go.Sort Go.Shelf

def Tryz.sortI_ren : Go.Shelf.Ren := ⟨fun | 5 => 67 | 8 => 79 | 7 => 78 | 19 => 96 | 20 => 97 | 10 => 87 | 11 => 88 | 12 => 89 | 13 => 90 | 14 => 91 | 15 => 92 | 16 => 93 | 17 => 94 | 18 => 95 | 30 => 101 | 31 => 102 | 32 => 103 | 33 => 104 | 34 => 105 | 35 => 106 | 40 => 118 | n => n, fun | 23 => 97 | 25 => 3 | 3 => 3 | 32 => 134 | 22 => 97 | 0 => 0 | 44 => 154 | 46 => 22 | 4 => 4 | 36 => 147 | 35 => 146 | 41 => 79 | 5 => 5 | 9 => 9 | 53 => 163 | 57 => 167 | 63 => 177 | 64 => 178 | n => n, fun | n => n⟩
theorem Tryz.sortI : Go.Proofs.SlLaysM.n5 Tryz.prog Tryz.sortI_ren := {
 mixed := by kernel_rfl
 f5 := ⟨Tryz.f67.name, by decide, Tryz.func67.trans (congrArg some (by kernel_rfl))⟩
 f8 := Tryz.func79.trans (congrArg some (by kernel_rfl))
 f7 := ⟨Tryz.f78.name, by decide, Tryz.func78.trans (congrArg some (by kernel_rfl))⟩
 f19 := Tryz.func96.trans (congrArg some (by kernel_rfl))
 f20 := Tryz.func97.trans (congrArg some (by kernel_rfl))
 f10 := ⟨Tryz.f87.name, by decide, Tryz.func87.trans (congrArg some (by kernel_rfl))⟩
 f11 := ⟨Tryz.f88.name, by decide, Tryz.func88.trans (congrArg some (by kernel_rfl))⟩
 f12 := ⟨Tryz.f89.name, by decide, Tryz.func89.trans (congrArg some (by kernel_rfl))⟩
 f13 := ⟨Tryz.f90.name, by decide, Tryz.func90.trans (congrArg some (by kernel_rfl))⟩
 f14 := ⟨Tryz.f91.name, by decide, Tryz.func91.trans (congrArg some (by kernel_rfl))⟩
 f15 := ⟨Tryz.f92.name, by decide, Tryz.func92.trans (congrArg some (by kernel_rfl))⟩
 f16 := ⟨Tryz.f93.name, by decide, Tryz.func93.trans (congrArg some (by kernel_rfl))⟩
 f17 := ⟨Tryz.f94.name, by decide, Tryz.func94.trans (congrArg some (by kernel_rfl))⟩
 f18 := ⟨Tryz.f95.name, by decide, Tryz.func95.trans (congrArg some (by kernel_rfl))⟩
 f31 := Tryz.func102.trans (congrArg some (by kernel_rfl))
 f32 := Tryz.func103.trans (congrArg some (by kernel_rfl))
 f30 := ⟨Tryz.f101.name, by decide, Tryz.func101.trans (congrArg some (by kernel_rfl))⟩
 f33 := ⟨Tryz.f104.name, by decide, Tryz.func104.trans (congrArg some (by kernel_rfl))⟩
 f34 := ⟨Tryz.f105.name, by decide, Tryz.func105.trans (congrArg some (by kernel_rfl))⟩
 f35 := ⟨Tryz.f106.name, by decide, Tryz.func106.trans (congrArg some (by kernel_rfl))⟩
 f40 := ⟨Tryz.f118.name, by decide, Tryz.func118.trans (congrArg some (by kernel_rfl))⟩
 t0 := Tryz.underlying0
 a0 := Tryz.isAgg0
 z0 := Tryz.sizeOf0
 v0 := Tryz.zeroValue0
 t3 := Tryz.underlying3
 a3 := Tryz.isAgg3
 z3 := Tryz.sizeOf3
 v3 := Tryz.zeroValue3
 t4 := Tryz.underlying4
 a4 := Tryz.isAgg4
 z4 := Tryz.sizeOf4
 v4 := Tryz.zeroValue4
 t5 := Tryz.underlying5
 a5 := Tryz.isAgg5
 z5 := Tryz.sizeOf5
 v5 := Tryz.zeroValue5
 t9 := Tryz.underlying9
 a9 := Tryz.isAgg9
 z9 := Tryz.sizeOf9
 v9 := Tryz.zeroValue9
 t22 := Tryz.underlying97
 a22 := Tryz.isAgg97
 z22 := Tryz.sizeOf97
 v22 := Tryz.zeroValue97
 t23 := Tryz.underlying97
 a23 := Tryz.isAgg97
 z23 := Tryz.sizeOf97
 v23 := Tryz.zeroValue97
 t25 := Tryz.underlying3
 a25 := Tryz.isAgg3
 z25 := Tryz.sizeOf3
 v25 := Tryz.zeroValue3
 t32 := Tryz.underlying134
 a32 := Tryz.isAgg134
 z32 := Tryz.sizeOf134
 v32 := Tryz.zeroValue134
 t35 := Tryz.underlying146
 a35 := Tryz.isAgg146
 z35 := Tryz.sizeOf146
 v35 := Tryz.zeroValue146
 t36 := Tryz.underlying147
 a36 := Tryz.isAgg147
 z36 := Tryz.sizeOf147
 v36 := Tryz.zeroValue147
 t41 := Tryz.underlying79
 a41 := Tryz.isAgg79
 z41 := Tryz.sizeOf79
 v41 := Tryz.zeroValue79
 t44 := Tryz.underlying154
 a44 := Tryz.isAgg154
 z44 := Tryz.sizeOf154
 v44 := Tryz.zeroValue154
 t46 := Tryz.underlying22
 a46 := Tryz.isAgg22
 z46 := Tryz.sizeOf22
 v46 := Tryz.zeroValue22
 t53 := Tryz.underlying163
 a53 := Tryz.isAgg163
 z53 := Tryz.sizeOf163
 v53 := Tryz.zeroValue163
 t57 := Tryz.underlying167
 a57 := Tryz.isAgg167
 z57 := Tryz.sizeOf167
 v57 := Tryz.zeroValue167
 t63 := Tryz.underlying177
 a63 := Tryz.isAgg177
 z63 := Tryz.sizeOf177
 v63 := Tryz.zeroValue177
 t64 := Tryz.underlying178
 a64 := Tryz.isAgg178
 z64 := Tryz.sizeOf178
 v64 := Tryz.zeroValue178 }

end Go.Proofs
