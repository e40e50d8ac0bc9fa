/- Joined texts: ShelfJ, JuGc, JuGd. -/
import Derived.Shelf.SlIter.Nil
import Derived.Shelf.SortM.Plain
import Derived.Shelf.SortM.SortNone
import Derived.Ground.GgzProg
import Derived.Ground.SlgmProg
import Derived.Test.YtpjmolnkmlpfeaaGreatDoorChecked
import Derived.Test.YtpjmolnkmlpfeaaGreatDoorJuGb
import Derived.Test.YtpjmolnkmlpfeaaGreatDoorJQ
import Derived.Test.YtpjmolnkmlpfeaaGreatDoorJBE
/- Courses by words rising: what the kit's contracts on slices.Sorted and maps.Keys say here. -/
namespace Go.Proofs
set_option maxRecDepth 100000
open Go.RowKit Go.Maps Go.Sort Go.Shelf

def Tryz.keysJ_ren : Go.Shelf.Ren := ⟨fun | 7 => 69 | 10 => 82 | n => n, fun | 23 => 109 | 26 => 9 | 3 => 99 | 28 => 122 | 0 => 0 | 27 => 121 | 33 => 136 | 4 => 4 | n => n, fun | n => n⟩
theorem Tryz.keysJ : Go.Proofs.SlLaysZ.n7 Tryz.prog Tryz.keysJ_ren := {
 mixed := by kernel_rfl
 f7 := ⟨Tryz.f69.name, by decide, Tryz.func69.trans (congrArg some (by kernel_rfl))⟩
 f10 := ⟨Tryz.f82.name, by decide, Tryz.func82.trans (congrArg some (by kernel_rfl))⟩
 t0 := Tryz.underlying0
 a0 := Tryz.isAgg0
 z0 := Tryz.sizeOf0
 v0 := Tryz.zeroValue0
 t4 := Tryz.underlying4
 a4 := Tryz.isAgg4
 z4 := Tryz.sizeOf4
 v4 := Tryz.zeroValue4
 t23 := Tryz.underlying109
 a23 := Tryz.isAgg109
 z23 := Tryz.sizeOf109
 v23 := Tryz.zeroValue109
 t26 := Tryz.underlying9
 a26 := Tryz.isAgg9
 z26 := Tryz.sizeOf9
 v26 := Tryz.zeroValue9
 t27 := Tryz.underlying121
 a27 := Tryz.isAgg121
 z27 := Tryz.sizeOf121
 v27 := Tryz.zeroValue121
 t28 := Tryz.underlying122
 a28 := Tryz.isAgg122
 z28 := Tryz.sizeOf122
 v28 := Tryz.zeroValue122
 t33 := Tryz.underlying136
 a33 := Tryz.isAgg136
 z33 := Tryz.sizeOf136
 v33 := Tryz.zeroValue136 }
def Tryz.sortedJ_ren : Go.Shelf.Ren := ⟨fun | 6 => 68 | 8 => 80 | 9 => 81 | 11 => 98 | 13 => 79 | 12 => 99 | 23 => 96 | 24 => 97 | 14 => 107 | 15 => 108 | 16 => 109 | 17 => 110 | 18 => 111 | 19 => 112 | 20 => 113 | 21 => 114 | 22 => 115 | 25 => 119 | 26 => 102 | 27 => 103 | 28 => 120 | 29 => 121 | 30 => 122 | 31 => 126 | n => n, fun | 26 => 9 | 28 => 122 | 24 => 119 | 0 => 0 | 3 => 3 | 37 => 134 | 48 => 154 | 50 => 22 | 4 => 4 | 40 => 147 | 39 => 146 | 45 => 79 | 5 => 5 | 9 => 9 | 51 => 163 | 55 => 167 | 57 => 177 | 58 => 178 | 33 => 136 | n => n, fun | n => n⟩
theorem Tryz.sortedJ : Go.Proofs.SlLaysZ.n6 Tryz.prog Tryz.sortedJ_ren := {
 mixed := by kernel_rfl
 f6 := ⟨Tryz.f68.name, by decide, Tryz.func68.trans (congrArg some (by kernel_rfl))⟩
 f8 := ⟨Tryz.f80.name, by decide, Tryz.func80.trans (congrArg some (by kernel_rfl))⟩
 f11 := ⟨Tryz.f98.name, by decide, Tryz.func98.trans (congrArg some (by kernel_rfl))⟩
 t0 := Tryz.underlying0
 a0 := Tryz.isAgg0
 z0 := Tryz.sizeOf0
 v0 := Tryz.zeroValue0
 t24 := Tryz.underlying119
 a24 := Tryz.isAgg119
 z24 := Tryz.sizeOf119
 v24 := Tryz.zeroValue119
 t26 := Tryz.underlying9
 a26 := Tryz.isAgg9
 z26 := Tryz.sizeOf9
 v26 := Tryz.zeroValue9
 t28 := Tryz.underlying122
 a28 := Tryz.isAgg122
 z28 := Tryz.sizeOf122
 v28 := Tryz.zeroValue122
 i26 := by kernel_rfl }
def Tryz.sortJ_ren : Go.Shelf.Ren := ⟨fun | 6 => 81 | 8 => 79 | 9 => 99 | 19 => 96 | 20 => 97 | 21 => 107 | 22 => 108 | 23 => 109 | 24 => 110 | 25 => 111 | 26 => 112 | 27 => 113 | 28 => 114 | 29 => 115 | 36 => 119 | 31 => 102 | 32 => 103 | 37 => 120 | 38 => 121 | 39 => 122 | 41 => 126 | n => n, fun | 27 => 119 | 29 => 9 | 3 => 3 | 32 => 134 | 26 => 119 | 0 => 0 | 44 => 154 | 46 => 22 | 4 => 4 | 36 => 147 | 35 => 146 | 41 => 79 | 5 => 5 | 9 => 9 | 53 => 163 | 57 => 167 | 63 => 177 | 64 => 178 | n => n, fun | n => n⟩
theorem Tryz.sortJ : Go.Proofs.SlLaysM.n6 Tryz.prog Tryz.sortJ_ren := {
 mixed := by kernel_rfl
 f6 := ⟨Tryz.f81.name, by decide, Tryz.func81.trans (congrArg some (by kernel_rfl))⟩
 f8 := Tryz.func79.trans (congrArg some (by kernel_rfl))
 f9 := ⟨Tryz.f99.name, by decide, Tryz.func99.trans (congrArg some (by kernel_rfl))⟩
 f19 := Tryz.func96.trans (congrArg some (by kernel_rfl))
 f20 := Tryz.func97.trans (congrArg some (by kernel_rfl))
 f21 := ⟨Tryz.f107.name, by decide, Tryz.func107.trans (congrArg some (by kernel_rfl))⟩
 f22 := ⟨Tryz.f108.name, by decide, Tryz.func108.trans (congrArg some (by kernel_rfl))⟩
 f23 := ⟨Tryz.f109.name, by decide, Tryz.func109.trans (congrArg some (by kernel_rfl))⟩
 f24 := ⟨Tryz.f110.name, by decide, Tryz.func110.trans (congrArg some (by kernel_rfl))⟩
 f25 := ⟨Tryz.f111.name, by decide, Tryz.func111.trans (congrArg some (by kernel_rfl))⟩
 f26 := ⟨Tryz.f112.name, by decide, Tryz.func112.trans (congrArg some (by kernel_rfl))⟩
 f27 := ⟨Tryz.f113.name, by decide, Tryz.func113.trans (congrArg some (by kernel_rfl))⟩
 f28 := ⟨Tryz.f114.name, by decide, Tryz.func114.trans (congrArg some (by kernel_rfl))⟩
 f29 := ⟨Tryz.f115.name, by decide, Tryz.func115.trans (congrArg some (by kernel_rfl))⟩
 f31 := Tryz.func102.trans (congrArg some (by kernel_rfl))
 f32 := Tryz.func103.trans (congrArg some (by kernel_rfl))
 f36 := ⟨Tryz.f119.name, by decide, Tryz.func119.trans (congrArg some (by kernel_rfl))⟩
 f37 := ⟨Tryz.f120.name, by decide, Tryz.func120.trans (congrArg some (by kernel_rfl))⟩
 f38 := ⟨Tryz.f121.name, by decide, Tryz.func121.trans (congrArg some (by kernel_rfl))⟩
 f39 := ⟨Tryz.f122.name, by decide, Tryz.func122.trans (congrArg some (by kernel_rfl))⟩
 f41 := ⟨Tryz.f126.name, by decide, Tryz.func126.trans (congrArg some (by kernel_rfl))⟩
 t0 := Tryz.underlying0
 a0 := Tryz.isAgg0
 z0 := Tryz.sizeOf0
 v0 := Tryz.zeroValue0
 t3 := Tryz.underlying3
 a3 := Tryz.isAgg3
 z3 := Tryz.sizeOf3
 v3 := Tryz.zeroValue3
 t4 := Tryz.underlying4
 a4 := Tryz.isAgg4
 z4 := Tryz.sizeOf4
 v4 := Tryz.zeroValue4
 t5 := Tryz.underlying5
 a5 := Tryz.isAgg5
 z5 := Tryz.sizeOf5
 v5 := Tryz.zeroValue5
 t9 := Tryz.underlying9
 a9 := Tryz.isAgg9
 z9 := Tryz.sizeOf9
 v9 := Tryz.zeroValue9
 t26 := Tryz.underlying119
 a26 := Tryz.isAgg119
 z26 := Tryz.sizeOf119
 v26 := Tryz.zeroValue119
 t27 := Tryz.underlying119
 a27 := Tryz.isAgg119
 z27 := Tryz.sizeOf119
 v27 := Tryz.zeroValue119
 t29 := Tryz.underlying9
 a29 := Tryz.isAgg9
 z29 := Tryz.sizeOf9
 v29 := Tryz.zeroValue9
 t32 := Tryz.underlying134
 a32 := Tryz.isAgg134
 z32 := Tryz.sizeOf134
 v32 := Tryz.zeroValue134
 t35 := Tryz.underlying146
 a35 := Tryz.isAgg146
 z35 := Tryz.sizeOf146
 v35 := Tryz.zeroValue146
 t36 := Tryz.underlying147
 a36 := Tryz.isAgg147
 z36 := Tryz.sizeOf147
 v36 := Tryz.zeroValue147
 t41 := Tryz.underlying79
 a41 := Tryz.isAgg79
 z41 := Tryz.sizeOf79
 v41 := Tryz.zeroValue79
 t44 := Tryz.underlying154
 a44 := Tryz.isAgg154
 z44 := Tryz.sizeOf154
 v44 := Tryz.zeroValue154
 t46 := Tryz.underlying22
 a46 := Tryz.isAgg22
 z46 := Tryz.sizeOf22
 v46 := Tryz.zeroValue22
 t53 := Tryz.underlying163
 a53 := Tryz.isAgg163
 z53 := Tryz.sizeOf163
 v53 := Tryz.zeroValue163
 t57 := Tryz.underlying167
 a57 := Tryz.isAgg167
 z57 := Tryz.sizeOf167
 v57 := Tryz.zeroValue167
 t63 := Tryz.underlying177
 a63 := Tryz.isAgg177
 z63 := Tryz.sizeOf177
 v63 := Tryz.zeroValue177
 t64 := Tryz.underlying178
 a64 := Tryz.isAgg178
 z64 := Tryz.sizeOf178
 v64 := Tryz.zeroValue178 }

theorem Tryz.sortsJ (m : Nat) : AnyZ.SortsIn Tryz.prog Tryz.sortedJ_ren Fence.wide m :=
 ⟨fun blk off cap ss W hH hblk hsz => callsIn_wide.2 (AnyM.slices_Sort_string Tryz.sortJ blk off cap ss W hH hblk hsz),
  fun p cap W => callsIn_wide.2 (AnyM.slices_Sort_string_none Tryz.sortJ p cap W)⟩
theorem Tryz.maps_Keys_J (mb : Option Nat) (W : World) : Calls Tryz.prog 69 #[.map mb] W fun e w' => e = .returned (.func (.func 82) #[] #[.pointer (some ⟨W.heap.size, 0, none⟩)]) ∧ w' = W.alloc (.cells #[.map mb] 109) :=
 callsIn_wide.1 (AnyZ.keys_in Tryz.keysJ Fence.wide 5 trivial rfl mb W)
set_option maxHeartbeats 1000000 in
theorem Tryz.sorted_keysJ {H : Type} (b nn : Nat) (D0 : DataW H) (R : Value → Option (DataW H × List MemPlace)) (w : World) (hown : w.ownsMap Tryz.prog 9 R b nn D0) (hmax : Maps.size D0 ≤ maxLen) (hbytes : Maps.size D0 * 16 ≤ 140737488355328) :
  Calls Tryz.prog 68 #[.func (.func 82) #[] #[.pointer (some ⟨w.heap.size, 0, none⟩)]] (w.alloc (.cells #[.map (some b)] 109)) fun e w' => ∃ (v : Value) (ss : List (List UInt8)), e = .returned v ∧ ss.Perm (strKeys D0) ∧
   w'.ownsRow (w.alloc (.cells #[.map (some b)] 109)).heap.size 9 1 v ss.length ((ss.mergeSort (fun x y => decide (x ≤ y))).map encStr) ∧ (v = .slice none 0 0 ↔ ss = []) ∧ Below (w.alloc (.cells #[.map (some b)] 109)).heap.size (w.alloc (.cells #[.map (some b)] 109)) w' := by
 have hbl := hown.lt
 have hseq : SeqGives Fence.wide 2 Tryz.prog 82 #[.pointer (some ⟨w.heap.size, 0, none⟩)] encStr (fun ss => ss.Perm (strKeys D0)) (Maps.size D0) (w.alloc (.cells #[.map (some b)] 109)) :=
  AnyZ.keys_gives (ρ := Tryz.keysJ_ren) { Tryz.keysJ with } Fence.wide _ trivial rfl (by omega) w.heap.size b nn D0 _ (by simp) (by simp) (by
   obtain ⟨es, clock, hb, Ft, hs, hD⟩ := hown
   exact ⟨es, clock, (Below.heap_alloc _ _ b hbl).trans hb, Ft, hs, hD⟩)
 exact callsIn_wide.1 (AnyZ.sorted_in Tryz.sortedJ Fence.wide 5 trivial trivial trivial trivial rfl (by omega) (Tryz.sortsJ _) (enters_of Tryz.func81 (by kernel_rfl) rfl) 82 #[.pointer (some ⟨w.heap.size, 0, none⟩)] trivial (enters_of Tryz.func82 (by kernel_rfl) rfl) _ _ hmax hbytes _ hseq)
end Go.Proofs

/- ends: the courses behind a known call's end. -/
set_option linter.unusedVariables false
set_option linter.unusedSimpArgs false
namespace Go.Proofs.YtpjmolnkmlpfeaaGreatDoor
set_option maxRecDepth 100000
open Go.RowKit

/-- A course with its values; a slice of courses. -/
structure CrsV where
 c : Crs
 vl : Value
 vc : Value
 vd : Value
def crE (p : CrsV) : List Value := crL p.c p.vl p.vc p.vd
theorem crE_len (p : CrsV) : (crE p).length = 4 := rfl
def SlC (K : Nat → Prop) (w : World) (v : Value) (cs : List Crs) : Prop := ∃ A c, ∃ E : List CrsV, v = .slice A E.length c ∧ E.map (·.c) = cs ∧ Reads w 4 A E.length (E.flatMap crE) ∧ (∀ p ∈ E, CrF K w p.vl p.vc p.vd p.c) ∧ E.length ≤ c ∧ c ≤ 9223372036854775807 ∧ (0 < E.length → ∀ ad, A = some ad → K ad.block)
section
variable {K K' S : Nat → Prop} {w w' : World} {v vl vc vd : Value}
theorem SlC.below {l : List Crs} (h : SlC K w v l) (hb : Below w.heap.size w w') : SlC K w' v l := by
 obtain ⟨A, c, E, e, h0, h1, h2, h3⟩ := h
 exact ⟨A, c, E, e, h0, Reads.below h1 hb, fun p hp => (h2 p hp).below hb, h3⟩
theorem SlC.mod {l : List Crs} (h : SlC K w v l) (hm : Mod S w w') (hK : ∀ b, K b → ¬ S b) : SlC K w' v l := by
 obtain ⟨A, c, E, e, h0, h1, h2, h3, h4, h5⟩ := h
 exact ⟨A, c, E, e, h0, reads_mod h1 hm fun h0 ad ea => hK _ (h5 h0 ad ea), fun p hp => (h2 p hp).mod hm hK, h3, h4, h5⟩
theorem SlC.weak {l : List Crs} (h : SlC K w v l) (hK : ∀ b, b < w.heap.size → K b → K' b) : SlC K' w v l := by
 obtain ⟨A, c, E, e, h0, h1, h2, h3, h4, h5⟩ := h
 exact ⟨A, c, E, e, h0, h1, fun p hp => (h2 p hp).weak hK, h3, h4, fun h0 ad ea => hK _ (reads_lt h1 h0 ea) (h5 h0 ad ea)⟩
theorem SlO.weak {P : List OpE} (h : SlO K w v P) (hK : ∀ b, b < w.heap.size → K b → K' b) : SlO K' w v P := by
 obtain ⟨A, c, e, h1, h2, h3, h4, h5⟩ := h
 exact ⟨A, c, e, h1, fun p hp => ⟨(h2 p hp).1.weak hK, (h2 p hp).2.weak hK⟩, h3, h4, fun h0 ad ea => hK _ (reads_lt h1 h0 ea) (h5 h0 ad ea)⟩
end
/-- What is answered. -/
def EndsPost (K : Nat → Prop) (ops : List Opr) (op : List Nat) (x : Nat) (all : List Crs) (w : World) (e : Ending) (w' : World) : Prop :=
 Below w.heap.size w w' ∧ ((∃ v out, e = .returned (.tuple #[v, .bool true]) ∧ SlC (fun b => K b ∨ w.heap.size ≤ b) w' v out ∧ out.length ≤ 3000 ∧ (∀ l, l ∈ out ↔ l ∈ leftL ops op x all)) ∨
  (∃ v, e = .returned (.tuple #[v, .bool false]) ∧ ∃ S' : List Crs, S'.Nodup ∧ (∀ d ∈ S', ∃ c ∈ all, Rch ops op x c d) ∧ 3000 < S'.length))
/-- Blocks one by one. -/
def allocs (w : World) (l : List Obj) : World := l.foldl (fun w o => w.alloc o) w
theorem allocs_size : ∀ (l : List Obj) (w : World), (allocs w l).heap.size = w.heap.size + l.length
 | [], w => rfl
 | o :: l, w => by
  show (allocs (w.alloc o) l).heap.size = _
  rw [allocs_size l, alloc_size, List.length_cons]
  omega
theorem allocs_below : ∀ (l : List Obj) (w : World), Below w.heap.size w (allocs w l)
 | [], w => Below.refl _ _
 | o :: l, w => ((below_new w o).trans ((allocs_below l (w.alloc o)).mono (by simp)))
theorem allocs_obj : ∀ (l : List Obj) (w : World) (i : Nat) (h : i < l.length), (allocs w l).heap[w.heap.size + i]? = some l[i]
 | o :: l, w, 0, _ => by
  show (allocs (w.alloc o) l).heap[w.heap.size + 0]? = _
  rw [(allocs_below l (w.alloc o)).block _ (by simp)]
  exact heap_alloc_new w o
 | o :: l, w, i + 1, h => by
  have := allocs_obj l (w.alloc o) i (by simpa using h)
  rw [alloc_size] at this
  show (allocs (w.alloc o) l).heap[w.heap.size + (i + 1)]? = _
  rw [show w.heap.size + (i + 1) = w.heap.size + 1 + i by omega, this]
  rfl
theorem map_made (k : TypeId) {w : World} {b : Nat} (hb : w.heap[b]? = some (.map #[] 0)) : MapW k w b [] := by
 obtain ⟨es, clock, h1, r⟩ := MapW.made k w
 rw [heap_alloc_new] at h1
 injection h1 with h1
 injection h1 with e1 e2
 subst e1 e2
 exact ⟨_, _, hb, r⟩
theorem strKeys_entsW (E : Ens) : strKeys (entsW E) = E.map (·.1) := by
 show (E.map fun p => (Lit.string p.1, (DataW.held p.2 : DataW Value))).map (fun p => strOf p.1) = _
 rw [List.map_map]
 rfl
set_option maxHeartbeats 8000000 in
theorem ends_any {K : Nat → Prop} {w : World} {va vops vop : Value} {P : List OpE} {op : List Nat} {x : Nat} {all : List Crs} (hall : SlC K w va all) (hops : SlO (fun _ => True) w vops P) (hop : SlI (fun _ => True) w vop (nats op))
  (hR : ∀ d, (∃ c ∈ all, Rch (P.map (·.1)) op x c d) → OkC d) (hbody : ∀ p ∈ P, p.1.call.body.length ≤ 1000000 ∧ p.1.rep.body.length ≤ 1000000 ∧ p.1.call.at_ < 18446744073709551616) (hopP : ∀ k ∈ op, k < P.length) (hopl : op.length ≤ 100000) (hPl : P.length ≤ 100000) (hn : all.length ≤ 1000000) :
  Calls Tryz.prog 53 #[va, vops, vop, .int .i64 (x : Int)] w (EndsPost K (P.map (·.1)) op x all w) := by
 obtain ⟨A, ca, E, rfl, hE, hr, hEc, _, _, hAK⟩ := hall
 have hl : all.length = E.length := by rw [← hE, List.length_map]
 obtain ⟨Ao, co, rfl, hro, hrob, hro1, hro2, _⟩ := hops
 obtain ⟨Ap, cp, rfl, hrp, hrp1, hrp2, _⟩ := hop
 have hmm := @run_makeMap Tryz.prog
 obtain ⟨fv, hfv⟩ : ∃ fv : Value, fv = .func (.func 61) #[] #[.pointer (some ⟨w.heap.size + 6, 0, none⟩), .pointer (some ⟨w.heap.size + 2, 0, none⟩), .pointer (some ⟨w.heap.size + 4, 0, none⟩), .pointer (some ⟨w.heap.size + 1, 0, none⟩), .pointer (some ⟨w.heap.size, 0, none⟩), .pointer (some ⟨w.heap.size + 7, 0, none⟩)] := ⟨_, rfl⟩
 obtain ⟨l, hlL⟩ : ∃ l, l = [Obj.cells #[.slice Ao P.length co] 93, .cells #[.slice Ap (nats op).length cp] 97, .cells #[.int .i64 (x : Int)] 3, .map #[] 0, .cells #[.map (some (w.heap.size + 3))] 109, .map #[] 0, .cells #[.map (some (w.heap.size + 5))] 110, .cells #[fv] 111] := ⟨_, rfl⟩
 have hW : allocs w l = (((((((w.alloc (.cells #[.slice Ao P.length co] 93)).alloc (.cells #[.slice Ap (nats op).length cp] 97)).alloc (.cells #[.int .i64 (x : Int)] 3)).alloc (.map #[] 0)).alloc (.cells #[.map (some (w.heap.size + 3))] 109)).alloc (.map #[] 0)).alloc (.cells #[.map (some (w.heap.size + 5))] 110)).alloc (.cells #[fv] 111) := by rw [hlL]; rfl
 have hob := fun i (h : i < l.length) => allocs_obj l w i h
 have hbW := allocs_below l w
 have hsz := allocs_size l w
 have b7 : Blk (allocs w l) (w.heap.size + 7) 111 #[fv] := by
  have := hob 7 (by rw [hlL]; simp)
  subst hlL
  exact this
 have HMW : Hid (MapW 9 (allocs w l) (w.heap.size + 3) [] ∧ MapW 9 (allocs w l) (w.heap.size + 5) [] ∧ Below w.heap.size w (allocs w l) ∧ (allocs w l).heap.size = w.heap.size + 8 ∧
   Blk (allocs w l) w.heap.size 93 #[.slice Ao P.length co] ∧ Blk (allocs w l) (w.heap.size + 1) 97 #[.slice Ap (nats op).length cp] ∧ Blk (allocs w l) (w.heap.size + 2) 3 #[.int .i64 (x : Int)] ∧ Blk (allocs w l) (w.heap.size + 4) 109 #[.map (some (w.heap.size + 3))] ∧ Blk (allocs w l) (w.heap.size + 6) 110 #[.map (some (w.heap.size + 5))] ∧
   Blk (allocs w l) (w.heap.size + 7) 111 #[fv]) := by
  subst hlL
  exact ⟨map_made _ (hob 3 (by simp)), map_made _ (hob 5 (by simp)), hbW, hsz, hob 0 (by simp), hob 1 (by simp), hob 2 (by simp), hob 4 (by simp), hob 6 (by simp), b7⟩
 have HR := Lib.hid hr
 have HEC := Lib.hid hEc
 have HL := Lib.hid hl
 have HE := Lib.hid hE
 have HAK := Lib.hid hAK
 have HRO := Lib.hid hro
 have HROB := Lib.hid hrob
 have HRP := Lib.hid hrp
 have HX : Hid (P.length ≤ co ∧ co ≤ 9223372036854775807 ∧ (nats op).length ≤ cp ∧ cp ≤ 9223372036854775807) := ⟨hro1, hro2, hrp1, hrp2⟩
 have HRR := Lib.hid hR
 have HBO : Hid ((∀ p ∈ P, p.1.call.body.length ≤ 1000000 ∧ p.1.rep.body.length ≤ 1000000 ∧ p.1.call.at_ < 18446744073709551616) ∧ (∀ k ∈ op, k < P.length) ∧ op.length ≤ 100000 ∧ P.length ≤ 100000) := ⟨hbody, hopP, hopl, hPl⟩
 have hn' : E.length ≤ 1000000 := by omega
 have HW := Lib.hid hW
 have HF := Lib.hid hfv
 clear hob hbW hsz b7 hlL hW hfv hr hEc hl hE hAK hro hrob hrp hro1 hro2 hrp1 hrp2 hR hbody hopP hopl hPl hn
 go_enter Tryz.func53, Tryz.ntmps53
 have hst := fun (a : Addr) (g : Fn) (l : Array Value) (m : Mode) (w : World) => run_store Tryz.prog w a (.func g #[] l) m rfl
 go_wp2_with fail
 clear hmm hst
 have hG : ∃ G : Ge, G = { sb := w.heap.size + 5, lb := w.heap.size + 3, bS := w.heap.size + 6, bX := w.heap.size + 2, bL := w.heap.size + 4, bP := w.heap.size + 1, bO := w.heap.size, bG := w.heap.size + 7, x := x, op := op, P := P, vop := .slice Ap (nats op).length cp, vops := .slice Ao P.length co } := ⟨_, rfl⟩
 obtain ⟨G, hG⟩ := hG
 obtain ⟨M2, M1, HB1, HS1, C0, C1, C2, C4, C6, st1⟩ := HMW.out
 rw [HF.out] at st1
 have hW := HW.out
 rw [HF.out] at hW
 simp only [Nat.add_assoc, Nat.reduceAdd]
 rw [← hW]
 clear hW
 generalize allocs w l = W1 at M1 M2 C0 C1 C2 C4 C6 HB1 HS1 st1 ⊢
 have hX : ∃ X : Nat → Prop, X = fun b => b = w.heap.size + 5 ∨ b = w.heap.size + 3 ∨ (b < w.heap.size ∧ ¬ K b) := ⟨_, rfl⟩
 obtain ⟨X, hX⟩ := hX
 have hok : GoOk G W1 := by
  subst hG
  refine ⟨C6, C2, C4, C1, C0, st1, ⟨Ap, cp, rfl, Reads.below HRP.out HB1, HX.out.2.2.1, HX.out.2.2.2, fun h0 ad ea => ?_⟩, ⟨Ao, co, rfl, Reads.below HRO.out HB1, fun p hp => ?_, HX.out.1, HX.out.2.1, fun h0 ad ea => ?_⟩, ?_, ?_, ?_, ?_, ?_, ?_, ?_⟩
  ·have := reads_lt HRP.out h0 ea
   rintro (e | e) <;> simp only at e <;> omega
  ·have hw : ∀ b, b < w.heap.size → True → ¬ Ge.Z { sb := w.heap.size + 5, lb := w.heap.size + 3, bS := w.heap.size + 6, bX := w.heap.size + 2, bL := w.heap.size + 4, bP := w.heap.size + 1, bO := w.heap.size, bG := w.heap.size + 7, x := x, op := op, P := P, vop := .slice Ap (nats op).length cp, vops := .slice Ao P.length co } b := fun b hb _ => by
    rintro (e | e) <;> simp only at e <;> omega
   exact ⟨((HROB.out p hp).1.weak hw).below HB1, ((HROB.out p hp).2.weak hw).below HB1⟩
  ·have := reads_lt HRO.out h0 ea
   rintro (e | e) <;> simp only at e <;> omega
  all_goals first | (rintro (e | e) <;> simp only at e <;> omega) | (show w.heap.size + 5 ≠ w.heap.size + 3; omega)
 have hst : GoSt G X W1 [] [] := by subst hG; exact GoSt.nil M1 M2
 have HOK := Lib.hid hok
 have HST := Lib.hid hst
 have HG := Lib.hid hG
 have HXX := Lib.hid hX
 have HBB := Lib.hid HB1
 have HSS := Lib.hid HS1
 have HGO : Hid (GeOk G fun d => ∃ c ∈ all, Rch (P.map (·.1)) op x c d) := by
  show GeOk _ _
  subst hG
  exact ⟨HRR.out, fun c d ⟨a, ha, hr⟩ hx hd => ⟨a, ha, hr.snoc hx hd⟩, HBO.out.1, HBO.out.2.1, HBO.out.2.2.1, HBO.out.2.2.2⟩
 clear hG hX hok hst M1 M2 C0 C1 C2 C4 C6 HB1 HS1 st1
 go_loopw [23] (fun i wr => ∃ (k : Nat) (S L : List Crs), k ≤ E.length ∧ i = .int .i64 k ∧ Mod G.Z W1 wr ∧ GoSt G X wr S L ∧ S.length ≤ 3000 ∧ Trv (P.map (·.1)) op x (fun d => ∃ c ∈ all, Rch (P.map (·.1)) op x c d) nobody [] [] S L ∧ ∀ j, (hj : j < E.length) → j < k → E[j].c ∈ S) (fun i _ => E.length - (intOf i).toNat)
 case atStart => exact ⟨0, [], [], by omega, rfl, Mod.refl _ _, HST.out, by decide, Trv.refl (fun _ h => by cases h), fun j hj h => by omega⟩
 case round =>
  obtain ⟨k, S, L, hk, rfl, hm, hst, hsn, htr, hin⟩ := hrel
  have HM := Lib.hid hm
  have HS1 := Lib.hid hst
  have HTR : Hid (S.length ≤ 3000 ∧ Trv (P.map (·.1)) op x (fun d => ∃ c ∈ all, Rch (P.map (·.1)) op x c d) nobody [] [] S L ∧ ∀ j, (hj : j < E.length) → j < k → E[j].c ∈ S) := ⟨hsn, htr, hin⟩
  clear hm hst hsn htr hin
  by_cases hlt : k < E.length
  ·have hGe := HG.out
   have hr1 : Reads wr 4 A E.length (E.flatMap crE) := reads_mod (Reads.below HR.out HBB.out) HM.out fun h0 ad ea => by
    have := reads_lt HR.out h0 ea
    rw [HG.out]
    rintro (e | e) <;> simp only at e <;> omega
   obtain ⟨b, o, rfl, hbl, hrg⟩ := rows_range crE_len (by decide) hr1 hlt
   have hcr := HEC.out _ (List.getElem_mem hlt)
   have HK : Hid (∃ h : k < E.length, E[k] = E[k]) := ⟨hlt, rfl⟩
   obtain ⟨pk, hpk⟩ : ∃ pk, pk = E[k] := ⟨_, rfl⟩
   rw [← hpk] at hrg hcr
   have HPK : Hid (∃ h : k < E.length, pk = E[k]) := ⟨hlt, hpk⟩
   have HRG := Lib.hid hrg
   have HCR := Lib.hid hcr
   have hca : pk.c ∈ all := by rw [← HE.out, hpk]; exact List.mem_map.2 ⟨_, List.getElem_mem hlt, rfl⟩
   have HCA := Lib.hid hca
   have ho1 : ∀ v ∈ (crE pk).toArray.toList, v.oneCell' = true := by
    obtain ⟨⟨⟨_, _, _, e1, _⟩, ⟨_, _, e2, _⟩⟩, ⟨_, _, e3, _⟩⟩ := hcr
    intro v hv
    simp only [crE, crL, List.toList_toArray, List.mem_cons, List.not_mem_nil, or_false] at hv
    rcases hv with rfl | rfl | rfl | rfl
    ·rw [e1]; rfl
    ·rfl
    ·rw [e2]; rfl
    ·rw [e3]; rfl
   clear hGe hr1 hrg hcr hpk HK hca
   go_wp2_with (first
    | (refine wpList_load_rg rfl (ty := 99) rfl (vs := crE pk) rfl HRG.out Tryz.underlying99 rfl info_course4 ?_)
    | (refine wpList_alloc_blk rfl rfl zero_course ?_; intro g14 w2 e14 hB14 hb14; have E14 := Lib.hid e14; clear e14)
    | (refine wpList_store_blk rfl rfl rfl rfl hB14 rfl (info_course (cs := (crE pk).toArray) rfl) ho1 ?_; intro w3 hB3 hm3; refine Hid.out ?_))
   refine Lib.hid ?_
   have hb23 : Below wr.heap.size wr w3 := hb14.trans (hm3.to_below hb14.size fun b hb e => by have := E14.out; omega)
   have hM3 : Mod G.Z W1 w3 := HM.out.trans (mod_below hb23)
   have hO3 := HOK.out.mod hM3
   have hst3 := HS1.out.below hb23
   have hXlt : ∀ b, X b → b < w3.heap.size := fun b hb => by
    rw [HXX.out] at hb
    have h1 := hM3.size; have h2 := HSS.out
    rcases hb with h | h | ⟨h, _⟩ <;> omega
   have hXs : X G.sb := by rw [HXX.out, HG.out]; exact .inl rfl
   have hXl : X G.lb := by rw [HXX.out, HG.out]; exact .inr (.inl rfl)
   have hcv : CrV (fun b => ¬ X b) w3 (.agg (crE pk).toArray) pk.c :=
    ⟨pk.vl, pk.vc, pk.vd, rfl, ((((HCR.out.weak (K' := fun b => K b ∧ b < w.heap.size) fun b hb h => ⟨h, hb⟩).below HBB.out).mod hM3 fun b hb hz => by
     have := hb.2
     rw [HG.out] at hz
     rcases hz with e | e <;> simp only at e <;> omega).weak fun b _ hb hx => by
      rw [HXX.out] at hx
      rcases hx with h | h | ⟨_, h⟩
      ·have := hb.2; omega
      ·have := hb.2; omega
      ·exact h hb.1)⟩
   have hgo := goes_any HGO.out (freeN G.op pk.c.done + 1) pk.c (Nat.lt_succ_self _) X w3 S L _ hXlt hXs hXl hO3 hst3 HTR.out.2.1.reach ⟨pk.c, HCA.out, .refl _⟩ HTR.out.1 hcv
   have g1 : G.bS = w.heap.size + 6 := by rw [HG.out]
   have g2 : G.bX = w.heap.size + 2 := by rw [HG.out]
   have g3 : G.bL = w.heap.size + 4 := by rw [HG.out]
   have g4 : G.bP = w.heap.size + 1 := by rw [HG.out]
   have g5 : G.bO = w.heap.size := by rw [HG.out]
   have g6 : G.bG = w.heap.size + 7 := by rw [HG.out]
   have cG := (hO3.g.cell 0).trans (rfl : _ = some (Value.func (.func 61) #[] #[.pointer (some ⟨G.bS, 0, none⟩), .pointer (some ⟨G.bX, 0, none⟩), .pointer (some ⟨G.bL, 0, none⟩), .pointer (some ⟨G.bP, 0, none⟩), .pointer (some ⟨G.bO, 0, none⟩), .pointer (some ⟨G.bG, 0, none⟩)]))
   rw [g1, g2, g3, g4, g5, g6] at hgo cG
   have HGG := Lib.hid hgo
   have HM3 := Lib.hid hM3
   have HB3 := Lib.hid hB3
   have egg := enters_of Tryz.func61 (by kernel_rfl) rfl
   clear hB14 hb14 hm3 hB3 E14 hb23 hM3 hO3 hst3 hXlt hXs hXl hcv hgo g1 g2 g3 g4 g5 g6 ho1
   go_wp2_with (refine wpList_load_rg rfl (ty := 99) rfl (vs := crE pk) rfl (Blk.range HB3.out 0 4) Tryz.underlying99 rfl info_course4 ?_)
   refine HGG.out.mono ?_
   rintro e w4 ⟨hm4, (⟨rfl, S2, L2, hst4, hs4, hc4, ht4⟩ | ⟨rfl, hbad⟩)⟩
   ·have HP4 : Hid (Mod G.Z w3 w4 ∧ GoSt G X w4 S2 L2 ∧ S2.length ≤ 3000 ∧ pk.c ∈ S2 ∧ Trv G.ops G.op G.x (fun d => ∃ c ∈ all, Rch (P.map (·.1)) op x c d) nobody S L S2 L2) := ⟨hm4, hst4, hs4, hc4, ht4⟩
    clear hm4 hst4 hs4 hc4 ht4 cG
    go_wp2_with fail
    go_roundw
    case rel =>
     obtain ⟨hm4, hst4, hs4, hc4, ht4⟩ := HP4.out
     have e1 : G.ops = P.map (·.1) := by rw [HG.out]; rfl
     have e2 : G.op = op := by rw [HG.out]
     have e3 : G.x = x := by rw [HG.out]
     rw [e1, e2, e3] at ht4
     refine ⟨k + 1, S2, L2, hlt, by go_num, HM3.out.trans hm4, hst4, hs4, HTR.out.2.1.trans ht4, fun j hj hjk => ?_⟩
     rcases Nat.lt_or_ge j k with h | h
     ·exact ht4.subS _ (HTR.out.2.2 j hj h)
     ·obtain rfl : j = k := by omega
      obtain ⟨_, e⟩ := HPK.out
      rw [← e]; exact hc4
    case measure => simp [intOf]; omega
   ·have HBAD := Lib.hid hbad
    have HM4 := Lib.hid hm4
    clear hbad hm4 cG
    go_wp2_with fail
    go_ret2
    refine ⟨?_, .inr ⟨_, rfl, ?_⟩⟩
    ·exact HBB.out.trans ((HM3.out.trans HM4.out).to_below HBB.out.size fun b hb hz => by
      rw [HG.out] at hz
      rcases hz with e | e <;> simp only at e <;> omega)
    ·exact HBAD.out
  ·obtain rfl : k = E.length := by omega
   obtain ⟨ES, EL, hms, hml, hsr, hlr, hel⟩ := HS1.out
   have e3 : G.lb = w.heap.size + 3 := by rw [HG.out]
   rw [e3] at hml
   have hEL : EL.length ≤ 3000 := Nat.le_trans hel HTR.out.1
   have hks := Tryz.maps_Keys_J (some (w.heap.size + 3)) wr
   have hso := Tryz.sorted_keysJ (w.heap.size + 3) _ _ heldR wr hml (by rw [entsW_size]; unfold maxLen; omega) (by rw [entsW_size]; omega)
   have hO := HOK.out.mod HM.out
   have cL := (hO.l.cell 0).trans (rfl : _ = some (Value.map (some G.lb)))
   rw [e3, show G.bL = w.heap.size + 4 by rw [HG.out]] at cL
   have HML := Lib.hid hml
   have HLR := Lib.hid hlr
   have HEL := Lib.hid hEL
   have HKS := Lib.hid hks
   have HSO := Lib.hid hso
   have HOO := Lib.hid hO
   clear hms hml hsr hlr hel e3 hks hso hO hEL
   go_wp2_with fail
   refine HKS.out.mono ?_
   rintro e w5 ⟨rfl, rfl⟩
   go_wp2_with fail
   refine HSO.out.mono ?_
   rintro e w6 ⟨v6, ss, rfl, hperm, hrow, hnil, hb6⟩
   clear HKS HSO
   rw [strKeys_entsW] at hperm
   obtain ⟨A6, c6, rfl, hc6, hc6'⟩ := own_slice hrow
   have hlen6 : ss.length = EL.length := by rw [hperm.length_eq, List.length_map]
   obtain ⟨ks, hks⟩ : ∃ ks, ks = ss.mergeSort (fun x y => decide (x ≤ y)) := ⟨_, rfl⟩
   have hkp : ks.Perm (EL.map (·.1)) := by rw [hks]; exact (List.mergeSort_perm _ _).trans hperm
   have hkl : ks.length = EL.length := by rw [hkp.length_eq, List.length_map]
   rw [← hks, hlen6, ← hkl] at hrow
   rw [hlen6, ← hkl]
   have hT6 : Below wr.heap.size wr w6 := (below_new wr _).trans (hb6.mono (by simp))
   have HT6 := Lib.hid hT6
   have HRW := Lib.hid (Reads.of_own hrow)
   have HRB := Lib.hid (own_ge hrow)
   have HKP := Lib.hid hkp
   have HML6 := Lib.hid (HML.out.below hT6)
   have HLR6 : Hid (LeftR X w6 EL L) := HLR.out.mod (mod_below (S := fun _ => False) hT6) fun _ _ h => h.elim
   have HBL : Hid (Blk w6 (w.heap.size + 4) 109 #[.map (some (w.heap.size + 3))]) := by
    have h1 := HOO.out.l.below hT6 HOO.out.l.lt
    rw [show G.bL = w.heap.size + 4 by rw [HG.out], show G.lb = w.heap.size + 3 by rw [HG.out]] at h1
    exact h1
   have HKL : Hid (ks.length = EL.length) := hkl
   have hk3 : ks.length ≤ 3000 := by rw [hkl]; exact HEL.out
   clear hperm hrow hnil hb6 hc6 hc6' hlen6 hks hkp hkl hT6 cL HML HLR
   go_wp2_with fail
   clear hk
   go_loopw [15, 36] (fun ov i wq => ∃ (k : Nat) (out : List CrsV), k ≤ ks.length ∧ i = .int .i64 k ∧ out.length = k ∧ wq.ownsRow w6.heap.size 99 4 ov out.length (out.flatMap crE) ∧ Below w6.heap.size w6 wq ∧
    (∀ p ∈ out, CrF (fun b => K b ∨ w.heap.size ≤ b) w6 p.vl p.vc p.vd p.c ∧ p.c ∈ L ∧ OkC p.c) ∧ ∀ j, (hj : j < ks.length) → j < k → ∃ p ∈ out, wordC p.c = ks[j]) (fun _ i _ => ks.length - (intOf i).toNat)
   case atStart => exact ⟨0, [], by omega, rfl, rfl, World.ownsRow_nil _ _ _ _, Below.refl _ _, fun _ h => (by cases h), fun j hj h => by omega⟩
   case round =>
    obtain ⟨k, out, hk, rfl, hok, hown, hbq, hall, hin⟩ := hrel
    obtain ⟨wq, rfl⟩ : ∃ wo : World, wo = wr := ⟨_, rfl⟩
    have HOUT : Hid (out.length = k ∧ (∀ p ∈ out, CrF (fun b => K b ∨ w.heap.size ≤ b) w6 p.vl p.vc p.vd p.c ∧ p.c ∈ L ∧ OkC p.c) ∧ ∀ j, (hj : j < ks.length) → j < k → ∃ p ∈ out, wordC p.c = ks[j]) := ⟨hok, hall, hin⟩
    have HOWN := Lib.hid hown
    have HBQ := Lib.hid hbq
    obtain ⟨Ao2, co2, rfl, hc1, hc2⟩ := own_slice hown
    have HCC : Hid (out.length ≤ co2 ∧ co2 ≤ 9223372036854775807) := ⟨hc1, by unfold maxLen at hc2; omega⟩
    clear hok hall hin hown hbq hc1 hc2
    by_cases hlt : k < ks.length
    ·obtain ⟨bk, okk, rfl, hbk, hck⟩ := Reads.flat (Reads.below HRW.out HBQ.out) (by omega) (by decide)
     have hcell := hck k (encStr ks[k]) (by rw [List.getElem?_map, List.getElem?_eq_getElem hlt]; rfl)
     obtain ⟨s, hs⟩ : ∃ s, s = ks[k] := ⟨_, rfl⟩
     rw [← hs] at hcell
     have hmem : s ∈ EL.map (·.1) := HKP.out.mem_iff.1 (by rw [hs]; exact List.getElem_mem hlt)
     obtain ⟨q, hq, hqs⟩ := List.mem_map.1 hmem
     obtain ⟨c, hcL, hcw⟩ := HLR6.out.all q hq
     obtain ⟨hcok, v, hget, vl, vc, vd, rfl, hcf⟩ := HLR6.out.get c hcL
     have hsw : s = wordC c := by rw [← hqs, hcw]
     have hlk := (HML6.out.below HBQ.out).look strK Tryz.underlying109 zero_course (str_key (n := s) (by rw [hsw]; have := wordC_len hcok; omega))
     rw [hsw, hget] at hlk
     rw [hsw] at hcell
     simp only [Option.getD_some] at hlk
     unfold crL at hlk
     have hcf' : CrF (fun b => K b ∨ w.heap.size ≤ b) w6 vl vc vd c := hcf.weak fun b _ hb => by
      rw [HXX.out] at hb
      rcases Nat.lt_or_ge b w.heap.size with h | h
      ·exact .inl (Classical.byContradiction fun hk => hb (.inr (.inr ⟨h, hk⟩)))
      ·exact .inr h
     have HC : Hid (CrF (fun b => K b ∨ w.heap.size ≤ b) w6 vl vc vd c ∧ c ∈ L ∧ OkC c ∧ ∃ h : k < ks.length, wordC c = ks[k]) := ⟨hcf', hcL, hcok, hlt, by rw [← hsw, hs]⟩
     obtain ⟨⟨⟨a1, b1, c1, rfl, _⟩, ⟨a2, b2, rfl, _⟩⟩, ⟨a3, b3, rfl, _⟩⟩ := hcf
     have cLq := (HBL.out.below HBQ.out HBL.out.lt).cell 0
     clear hck hbk hs hmem hq hqs hcL hcw hcok hget hsw hcf'
     go_wp2_with (first | (at_builtin; refine app_list course_ty rfl (s := .tmp 40) (x := .tmp 44) rfl (own_call HOWN.out (below_new _ _)) rfl (reads_blockN _ 99 [.slice a1 c1.length b1, .int .u64 (c.m.trim : Int), .slice a2 c.m.cur.length b2, .slice a3 (nats c.done).length b3] 4 rfl) rfl (by intro u hu; simp only [List.mem_cons, List.not_mem_nil, or_false] at hu; rcases hu with rfl | rfl | rfl | rfl <;> rfl) (by have := HOUT.out.1; omega) (by have := HBQ.out.size; rw [alloc_size]; omega) ?_; intro v9 w9 ho9 hg9 _))
     obtain ⟨ho, hal, hin⟩ := HOUT.out
     have hbn := (below_new wq (.cells #[Value.slice a1 c1.length b1, .int .u64 (c.m.trim : Int), .slice a2 c.m.cur.length b2, .slice a3 (nats c.done).length b3] 99)).mono HBQ.out.size
     refine ⟨⟨k + 1, out ++ [{ c := c, vl := .slice a1 c1.length b1, vc := .slice a2 c.m.cur.length b2, vd := .slice a3 (nats c.done).length b3 }], hlt, by go_num, by rw [List.length_append, ho]; rfl, ?_, ?_, fun p hp => ?_, fun j hj hjk => ?_⟩, by simp [intOf]; omega⟩
     ·rw [List.length_append, List.flatMap_append]
      exact ho9
     ·exact (HBQ.out.trans hbn).grown hg9 (Nat.le_trans HBQ.out.size hbn.size) (own_ge HOWN.out)
     ·rcases List.mem_append.1 hp with hp | hp
      ·exact hal p hp
      ·rw [List.mem_singleton.1 hp]
       exact ⟨HC.out.1, HC.out.2.1, HC.out.2.2.1⟩
     ·rcases Nat.lt_or_ge j k with h | h
      ·obtain ⟨p, hp, e⟩ := hin j hj h
       exact ⟨p, List.mem_append_left _ hp, e⟩
      ·obtain rfl : j = k := by omega
       obtain ⟨_, e⟩ := HC.out.2.2.2
       exact ⟨_, List.mem_append_right _ (List.mem_singleton.2 rfl), e⟩
    ·obtain rfl : k = ks.length := by omega
     go_wp2_with fail
     go_ret2
     obtain ⟨ho, hal, hin⟩ := HOUT.out
     have h0 : Below w.heap.size w w6 := (HBB.out.trans (HM.out.to_below HBB.out.size fun b hb hz => by
      rw [HG.out] at hz
      rcases hz with e | e <;> simp only at e <;> omega)).trans (HT6.out.mono (Nat.le_trans HBB.out.size HM.out.size))
     refine ⟨h0.trans (HBQ.out.mono h0.size), .inl ⟨_, out.map (·.c), rfl, ⟨Ao2, co2, out, rfl, rfl, Reads.of_own HOWN.out, fun p hp => (hal p hp).1.below HBQ.out, ?_, ?_, fun _ ad ea => .inr ?_⟩, by rw [List.length_map]; omega, fun l => ?_⟩⟩
     ·exact HCC.out.1
     ·exact HCC.out.2
     ·exact Nat.le_trans h0.size (own_ge HOWN.out _ (by rw [ea]; rfl))
     ·have e1 : l ∈ out.map (·.c) ↔ l ∈ L := by
       constructor
       ·intro h
        obtain ⟨p, hp, rfl⟩ := List.mem_map.1 h
        exact (hal p hp).2.1
       ·intro h
        obtain ⟨hok, v, hget, _⟩ := HLR6.out.get l h
        have hm : wordC l ∈ ks := HKP.out.mem_iff.2 (List.mem_map.2 ⟨_, (fget_some (HML6.out.srt strK)).1 hget, rfl⟩)
        obtain ⟨j, hj, e⟩ := List.mem_iff_getElem.1 hm
        obtain ⟨p, hp, e2⟩ := hin j hj hj
        have := wordC_inj (hal p hp).2.2 hok (by rw [e2, e])
        exact List.mem_map.2 ⟨p, hp, this⟩
      rw [e1]
      refine HTR.out.2.1.all (fun c hc => ?_) l
      rw [← HE.out] at hc
      obtain ⟨p, hp, rfl⟩ := List.mem_map.1 hc
      obtain ⟨j, hj, rfl⟩ := List.mem_iff_getElem.1 hp
      exact HTR.out.2.2 j hj hj
end Go.Proofs.YtpjmolnkmlpfeaaGreatDoor

/- What a channel's first round over the notes keeps. -/
namespace Go.Proofs.YtpjmolnkmlpfeaaGreatDoor
set_option maxRecDepth 100000
open Go.RowKit

def setL (xs : List Value) (o : Nat) (vs : List Value) : List Value := xs.take o ++ vs ++ xs.drop (o + vs.length)
theorem setL_get {xs vs : List Value} {o : Nat} (h : o + vs.length ≤ xs.length) (i : Nat) : (setL xs o vs)[i]? = if o ≤ i ∧ i < o + vs.length then vs[i - o]? else xs[i]? := by
 unfold setL
 have h1 : (xs.take o).length = o := by rw [List.length_take]; omega
 by_cases h2 : i < o
 ·rw [if_neg (by omega), List.append_assoc, List.getElem?_append_left (by omega), List.getElem?_take_of_lt h2]
 ·by_cases h3 : i < o + vs.length
  ·rw [if_pos ⟨by omega, h3⟩, List.getElem?_append_left (by rw [List.length_append]; omega), List.getElem?_append_right (by omega), h1]
  ·rw [if_neg (by omega), List.getElem?_append_right (by rw [List.length_append]; omega), List.length_append, h1, List.getElem?_drop]
   congr 1
   omega
theorem own_puts {w w' : World} {base : Nat} {e : TypeId} {size n : Nat} {g c : Nat} {xs vs : List Value} {o : Nat} {cur : Array Value} (h : w.ownsRow base e size (.slice (some ⟨g, 0, none⟩) n c) n xs) (hB : Blk w g e cur) (hB' : Blk w' g e (putL cur o vs)) (ho : o + vs.length ≤ n * size) :
  w'.ownsRow base e size (.slice (some ⟨g, 0, none⟩) n c) n (setL xs o vs) := by
 obtain ⟨hl, ⟨h1, h2⟩ | ⟨g', cap, cur', e1, e2, e3, e4, e5, e6, e7⟩⟩ := h
 ·cases h1
 ·injection e1 with e1 _ e9
  injection e1 with e1
  injection e1 with e1
  subst e1 e9
  have hc : cur' = cur := by
   have h1 : w.heap[g]? = some (.cells cur e (0, 0)) := hB
   rw [e3] at h1
   injection h1 with h1
   injection h1
  subst hc
  have hle : n * size ≤ c * size := Nat.mul_le_mul_right _ e4
  refine ⟨?_, .inr ⟨g, c, putL cur' o vs, rfl, e2, hB', e4, e5, by rw [putL_size]; exact e6, ?_⟩⟩
  ·unfold setL
   simp only [List.length_append, List.length_take, List.length_drop]
   omega
  ·apply List.ext_getElem?
   intro i
   rw [setL_get (by omega)]
   by_cases hi : i < n * size
   ·rw [List.getElem?_take_of_lt hi, Array.getElem?_toList, putL_get _ _ _ _ (by omega)]
    split
    ·rfl
    ·rw [← e7, List.getElem?_take_of_lt hi, Array.getElem?_toList]
   ·rw [if_neg (by omega), List.getElem?_eq_none (by rw [List.length_take]; omega), List.getElem?_eq_none (by omega)]
theorem flat_setL {α : Type} {f : α → List Value} {size : Nat} (hf : ∀ x, (f x).length = size) : ∀ (E : List α) (k j : Nat) (hk : k < E.length) (vs : List Value) (y : α), j + vs.length ≤ size → setL (f E[k]) j vs = f y → setL (E.flatMap f) (k * size + j) vs = (E.set k y).flatMap f := by
 intro E k j hk vs y hj h
 have hlen : ∀ (l : List α), (l.flatMap f).length = l.length * size := by
  intro l
  induction l with
  | nil => simp
  | cons a l ih => rw [List.flatMap_cons, List.length_append, ih, hf, List.length_cons, Nat.add_mul]; omega
 have e1 : E = E.take k ++ E[k] :: E.drop (k + 1) := by
  rw [← List.drop_eq_getElem_cons hk, List.take_append_drop]
 have e2 : E.set k y = E.take k ++ y :: E.drop (k + 1) := List.set_eq_take_append_cons_drop.trans (by rw [if_pos hk])
 have hlt : (E.take k).length = k := by rw [List.length_take]; omega
 rw [e2, List.flatMap_append, List.flatMap_cons, ← h]
 have e3 : E.flatMap f = (E.take k).flatMap f ++ (f E[k] ++ (E.drop (k + 1)).flatMap f) := by
  conv => lhs; rw [e1]
  rw [List.flatMap_append, List.flatMap_cons]
 have hp : ((E.take k).flatMap f).length = k * size := by rw [hlen, hlt]
 rw [e3]
 apply List.ext_getElem?
 intro i
 rw [setL_get (by simp only [List.length_append, hp, hf]; omega)]
 have L1 : ∀ (A B : List Value), A.length = k * size → i < k * size → (A ++ B)[i]? = A[i]? := fun A B hA hi => List.getElem?_append_left (by omega)
 have L2 : ∀ (A B : List Value), A.length = k * size → ¬ i < k * size → (A ++ B)[i]? = B[i - k * size]? := fun A B hA hi => by rw [List.getElem?_append_right (by omega), hA]
 have L3 : ∀ (A B : List Value) (q : Nat), A.length = size → q < size → (A ++ B)[q]? = A[q]? := fun A B q hA hi => List.getElem?_append_left (by omega)
 have L4 : ∀ (A B : List Value) (q : Nat), A.length = size → ¬ q < size → (A ++ B)[q]? = B[q - size]? := fun A B q hA hi => by rw [List.getElem?_append_right (by omega), hA]
 have hs : (setL (f E[k]) j vs).length = size := by rw [h, hf]
 by_cases h1 : i < k * size
 ·rw [if_neg (by omega), L1 _ _ hp h1, L1 _ _ hp h1]
 ·rw [L2 _ _ hp h1, L2 _ _ hp h1]
  by_cases h2 : i - k * size < size
  ·rw [L3 _ _ _ (hf _) h2, L3 _ _ _ hs h2, setL_get (by rw [hf]; exact hj)]
   by_cases h3 : j ≤ i - k * size ∧ i - k * size < j + vs.length
   ·rw [if_pos (by omega), if_pos h3]
    congr 1
    omega
   ·rw [if_neg (by omega), if_neg h3]
  ·rw [if_neg (by omega), L4 _ _ _ (hf _) h2, L4 _ _ _ hs h2]
/-- The calls of the notes p, and the map of their numbers. -/
structure OpSt (K : Nat → Prop) (w0 : World) (mb : Nat) (n : Int) (p : List Nte) (w : World) (v : Value) (P : List OpE) (E : Ens) : Prop where
 ops : P.map (·.1) = opsOf p n
 own : w.ownsRow (mb + 1) 95 19 v P.length (P.flatMap opE)
 bod : ∀ q ∈ P, SlB K w0 q.2.1 q.1.call.body ∧ SlB K w0 q.2.2 q.1.rep.body
 map : MapW 77 w mb E
 get : ∀ y ∈ p, y.call.ch = n → fget (idKey (idOf y.call)) E = some (.int .i64 (opIx (opsOf p n) y.call : Nat))
 len : E.length ≤ p.length
section
variable {K : Nat → Prop} {w0 w w' : World} {mb : Nat} {n : Int} {p : List Nte} {v : Value} {P : List OpE} {E : Ens}
theorem OpSt.nil (h : MapW 77 w mb []) : OpSt K w0 mb n [] w (.slice none 0 0) [] [] :=
 ⟨rfl, World.ownsRow_nil _ _ _ _, fun _ h => (by cases h), h, fun _ h => (by cases h), Nat.le_refl _⟩
theorem OpSt.below (h : OpSt K w0 mb n p w v P E) (hb : Below w.heap.size w w') : OpSt K w0 mb n p w' v P E :=
 ⟨h.ops, own_call h.own hb, h.bod, h.map.below hb, h.get, h.len⟩
theorem OpSt.plen (h : OpSt K w0 mb n p w v P E) : P.length ≤ p.length := by
 have := ops_len n p
 rw [← h.ops, List.length_map] at this
 exact this
theorem OpSt.pop (h : OpSt K w0 mb n p w v P E) {i : Nat} (hi : i < P.length) : (opsOf p n)[i]? = some P[i].1 := by
 rw [← h.ops, List.getElem?_map, List.getElem?_eq_getElem hi]
 rfl
theorem is_end {p : List Nte} {x : Nte} (hp : IsH (p ++ [x])) (hk : x.kind = 2) : ∃ z ∈ p, z.kind = 1 ∧ z.call = x.call := by
 obtain ⟨_, h2, _⟩ := (isFrom_app p [] [x]).1 hp
 rw [List.nil_append] at h2
 rcases h2 with ⟨h, _⟩ | ⟨_, h, _⟩
 ·omega
 ·exact h
theorem is_pre {p : List Nte} {x : Nte} (hp : IsH (p ++ [x])) : IsH p := ((isFrom_app p [] [x]).1 hp).1
theorem OpSt.skip {x : Nte} (h : OpSt K w0 mb n p w v P E) (hp : IsH (p ++ [x])) (hx : x.call.ch ≠ n ∨ (x.kind = 2 ∧ knownR x.rep.res = false)) : OpSt K w0 mb n (p ++ [x]) w v P E := by
 have e : opsOf (p ++ [x]) n = opsOf p n := by
  rw [ops_snoc]
  unfold stepOp
  by_cases hc : x.call.ch ≠ n
  ·rw [if_pos hc]
  ·rw [if_neg hc]
   rcases hx with h | ⟨h1, h2⟩
   ·exact absurd h hc
   ·rw [if_neg (by omega), h2]; rfl
 refine ⟨by rw [e]; exact h.ops, h.own, h.bod, h.map, fun y hy hc => ?_, by rw [List.length_append]; exact Nat.le_trans h.len (Nat.le_add_right _ _)⟩
 rw [e]
 rcases List.mem_append.1 hy with hy | hy
 ·exact h.get y hy hc
 ·rw [List.mem_singleton] at hy
  subst hy
  rcases hx with hx | ⟨hk, _⟩
  ·exact absurd hc hx
  ·obtain ⟨z, hz, _, ez⟩ := is_end hp hk
   have := h.get z hz (by rw [ez]; exact hc)
   rw [ez] at this
   exact this
theorem OpSt.beg {x : Nte} {vc : Value} {v' : Value} (h : OpSt K w0 mb n p w v P E) (s : Srt E) (hp : IsH (p ++ [x])) (hok : ∀ y ∈ p ++ [x], NtOk y) (hc : x.call.ch = n) (hk : x.kind = 1) (hv : SlB K w0 vc x.call.body)
  (ho : w'.ownsRow (mb + 1) 95 19 v' (P.length + 1) (P.flatMap opE ++ opL { call := x.call, rep := zRep, known := false } vc (.slice none 0 0))) (hm : MapW 77 w' mb (fput (idKey (idOf x.call)) (.int .i64 (P.length : Int)) E)) :
  OpSt K w0 mb n (p ++ [x]) w' v' (P ++ [({ call := x.call, rep := zRep, known := false }, vc, .slice none 0 0)]) (fput (idKey (idOf x.call)) (.int .i64 (P.length : Int)) E) := by
 have hnew : ∀ y ∈ p, y.call.ch = n → idOf y.call ≠ idOf x.call := by
  intro y hy hyc e
  obtain ⟨_, h2, _⟩ := (isFrom_app p [] [x]).1 hp
  rw [List.nil_append] at h2
  have hb : ∃ z ∈ p, z.kind = 1 ∧ z.call = y.call := by
   obtain ⟨i, hi, rfl⟩ := List.mem_iff_getElem.1 hy
   rcases (is_pre hp).at_ hi with ⟨k, _⟩ | ⟨_, ⟨z, hz, kz, ez⟩, _⟩
   ·exact ⟨_, List.getElem_mem hi, k, rfl⟩
   ·exact ⟨z, List.mem_of_mem_take hz, kz, ez⟩
  obtain ⟨z, hz, kz, ez⟩ := hb
  rcases h2 with ⟨_, hu, _⟩ | ⟨hu, _⟩
  ·exact hu z hz kz (by rw [ez]; exact e)
  ·omega
 have e : opsOf (p ++ [x]) n = opsOf p n ++ [{ call := x.call, rep := zRep, known := false }] := by
  rw [ops_snoc]
  unfold stepOp
  rw [if_neg (fun h => h hc), if_pos hk]
 have hix : opIx (opsOf (p ++ [x]) n) x.call = P.length := by
  have hl : (opsOf p n).length = P.length := by rw [← h.ops, List.length_map]
  have hlt : P.length < (opsOf (p ++ [x]) n).length := by rw [e, List.length_append, hl]; simp
  refine find_nodup (OpsI.of hp).ids hlt ?_
  simp only [e]
  rw [List.getElem_append_right (by omega)]
  simp
 refine ⟨by rw [e, List.map_append, h.ops]; rfl, ?_, fun q hq => ?_, hm, fun y hy hyc => ?_, ?_⟩
 ·rw [List.length_append, List.flatMap_append]
  exact ho
 ·rcases List.mem_append.1 hq with hq | hq
  ·exact h.bod q hq
  ·rw [List.mem_singleton] at hq
   subst hq
   exact ⟨hv, SlB.nil _ _⟩
 ·rw [fget_put s]
  rcases List.mem_append.1 hy with hy' | hy'
  ·rw [if_neg fun e2 => hnew y hy' hyc (idKey_inj (hok y hy).id (hok x (by simp)).id e2), h.get y hy' hyc, (ix_ext hp hy' hyc).2]
  ·rw [List.mem_singleton] at hy'
   subst hy'
   rw [if_pos rfl, hix]
 ·have := fput_le (idKey (idOf x.call)) (.int .i64 (P.length : Int)) E
  have := h.len
  rw [List.length_append]
  simp only [List.length_cons, List.length_nil]
  omega
theorem OpSt.ix {x : Nte} (h : OpSt K w0 mb n p w v P E) (hp : IsH (p ++ [x])) (hc : x.call.ch = n) (hk : x.kind = 2) : opIx (opsOf p n) x.call < P.length ∧ fget (idKey (idOf x.call)) E = some (.int .i64 (opIx (opsOf p n) x.call : Nat)) := by
 obtain ⟨z, hz, _, ez⟩ := is_end hp hk
 have h1 := (ix_ext (n := n) hp hz (by rw [ez]; exact hc)).1
 have h2 := h.get z hz (by rw [ez]; exact hc)
 rw [ez] at h1 h2
 have hl : (opsOf p n).length = P.length := by rw [← h.ops, List.length_map]
 rw [hl] at h1
 exact ⟨h1, h2⟩
def finOp (x : Nte) (vr : Value) (q : OpE) : OpE := ({ q.1 with known := true, rep := x.rep }, q.2.1, vr)
theorem OpSt.fin {x : Nte} {vr : Value} (h : OpSt K w0 mb n p w v P E) (hp : IsH (p ++ [x])) (hc : x.call.ch = n) (hk : x.kind = 2) (hr : knownR x.rep.res = true) (hv : SlB K w0 vr x.rep.body) {i : Nat} (hi : i < P.length) (ei : i = opIx (opsOf p n) x.call)
  (ho : w'.ownsRow (mb + 1) 95 19 v P.length ((P.set i (finOp x vr P[i])).flatMap opE)) (hm : MapW 77 w' mb E) :
  OpSt K w0 mb n (p ++ [x]) w' v (P.set i (finOp x vr P[i])) E := by
 have e : opsOf (p ++ [x]) n = (opsOf p n).modify i fun o => { o with known := true, rep := x.rep } := by
  rw [ops_snoc]
  unfold stepOp
  rw [if_neg (fun h => h hc), if_neg (by omega), if_pos hr, ei]
 refine ⟨?_, by rw [List.length_set]; exact ho, fun q hq => ?_, hm, fun y hy hyc => ?_, by rw [List.length_append]; exact Nat.le_trans h.len (Nat.le_add_right _ _)⟩
 ·rw [e, ← h.ops, List.map_set]
  apply List.ext_getElem?
  intro j
  rw [List.getElem?_set, List.getElem?_modify, List.getElem?_map]
  by_cases hj : i = j
  ·subst hj
   rw [if_pos rfl, if_pos (by rw [List.length_map]; exact hi), List.getElem?_eq_getElem hi]
   simp [finOp]
  ·rw [if_neg hj]
   simp [hj]
 ·rcases List.mem_or_eq_of_mem_set hq with hq | hq
  ·exact h.bod q hq
  ·subst hq
   exact ⟨(h.bod _ (List.getElem_mem hi)).1, hv⟩
 ·rcases List.mem_append.1 hy with hy' | hy'
  ·rw [(ix_ext hp hy' hyc).2]
   exact h.get y hy' hyc
  ·rw [List.mem_singleton] at hy'
   subst hy'
   obtain ⟨z, hz, _, ez⟩ := is_end hp hk
   have h2 := (ix_ext (n := n) hp hz (by rw [ez]; exact hc)).2
   rw [ez] at h2
   rw [h2, (h.ix hp hc hk).2]
end
/-- The calls of fit notes are fit. -/
theorem ops_ok {h : List Nte} (hh : IsH h) (hok : ∀ x ∈ h, NtOk x) {n : Int} : ∀ o ∈ opsOf h n, OkO o ∧ o.call.body.length ≤ 1000000 ∧ o.rep.body.length ≤ 1000000 := by
 intro o ho
 have hI := OpsI.of (n := n) hh
 obtain ⟨y, hy, ky, ey, _⟩ := hI.mem o ho
 have hmay : MayP y.call := by
  obtain ⟨i, hi, rfl⟩ := List.mem_iff_getElem.1 hy
  rcases hh.at_ hi with ⟨_, _, h⟩ | ⟨h, _⟩
  ·exact h
  ·omega
 have h1 := hok y hy
 have hrep : o.rep.at_ < 18446744073709551616 ∧ o.rep.body.length ≤ 1000000 := by
  cases hk : o.known with
  | false => rw [hI.un o ho hk]; exact ⟨by decide, by decide⟩
  | true =>
   obtain ⟨z, hz, _, _, ez, _⟩ := hI.kn o ho hk
   rw [← ez]
   exact ⟨(hok z hz).rat, (hok z hz).rbody⟩
 rw [← ey]
 obtain ⟨⟨m1, m2, _⟩, _⟩ := hmay
 refine ⟨⟨?_, ?_, ?_, ?_, hrep.1⟩, h1.body, hrep.2⟩
 ·rw [← ey]; omega
 ·rw [← ey]; omega
 ·rw [← ey]; exact h1.seq
 ·rw [← ey]; exact h1.at_
end Go.Proofs.YtpjmolnkmlpfeaaGreatDoor
