/- The walk of the chapter's examples. -/
import Derived.Test.YtgnegofkffiopaaSumF
import Derived.Lib.SlBytesConst
namespace Go.Proofs.Ytgnegofkffiopaa
open Go.RowKit

namespace Crc
/-- What the examples seal. -/
def exS : List UInt8 := sealed [97, 98]
theorem exS_eq : ∃ a b c d : UInt8, exS = [97, 98, a, b, c, d] := ⟨_, _, _, _, rfl⟩
theorem ex_some : opened exS = some [97, 98] := by decide +kernel
theorem ex_nil : opened (sealed []) = some [] := by decide +kernel
theorem ex_short : opened [97, 98, 99] = none := by decide +kernel
theorem ex_sum0 : (sum []).toNat = 0 := by decide +kernel
theorem ex_sum9 : (sum [49, 50, 51, 52, 53, 54, 55, 56, 57]).toNat = 3808858755 := by decide +kernel
theorem ex_sum32 : (sum (List.replicate 32 0)).toNat = 2324772522 := by decide +kernel
theorem ex_xor (c : UInt8) : bits .xor .u8 (c.toNat : Int) 128 = ((c ^^^ 128).toNat : Int) := by
  rw [show (128 : Int) = ((128 : Nat) : Int) from rfl, u8_xor_nat _ _ c.toNat_lt (by omega), UInt8.toNat_xor]
  rfl
def ex5 : UInt8 := exS[5]?.getD 0
def exQ : UInt8 := ex5 ^^^ 128
theorem ex5_eq : (exS.map bv)[5]? = some (.int .u8 (ex5.toNat : Int)) := rfl
theorem ex_set : (exS.map bv).set 5 (.int .u8 (exQ.toNat : Int)) = (exS.set 5 exQ).map bv := by rw [List.map_set]; rfl
theorem ex_none' : opened (exS.set 5 exQ) = none := by decide +kernel
def zs : Array Value := ((List.replicate 32 (0 : UInt8)).map bv).toArray
theorem ex_flat : ([[49, 50, 51, 52], [], [53, 54, 55, 56, 57]] : List (List UInt8)).flatten = [49, 50, 51, 52, 53, 54, 55, 56, 57] := rfl
end Crc
theorem ex_parts (w : World) : Parts (((w.alloc (.cells #[.int .u8 49, .int .u8 50, .int .u8 51, .int .u8 52] 5 (4, 5))).alloc (.cells #[.int .u8 53, .int .u8 54, .int .u8 55, .int .u8 56, .int .u8 57] 5 (5, 6))).alloc
    (.cells #[.slice (some ⟨w.heap.size, 0, none⟩) 4 4, .slice none 0 0, .slice (some ⟨w.heap.size + 1, 0, none⟩) 5 5] 23)) (some ⟨w.heap.size + 1 + 1, 0, none⟩) [[49, 50, 51, 52], [], [53, 54, 55, 56, 57]] := by
  have h1 : Bytes (w.alloc (.cells #[.int .u8 49, .int .u8 50, .int .u8 51, .int .u8 52] 5 (4, 5))) (some ⟨w.heap.size, 0, none⟩) [49, 50, 51, 52] := Bytes.block _ _ _ _ _ rfl
  generalize hw1 : w.alloc (.cells #[.int .u8 49, .int .u8 50, .int .u8 51, .int .u8 52] 5 (4, 5)) = w1 at h1
  have hs1 : w1.heap.size = w.heap.size + 1 := by rw [← hw1]; simp
  have h2 : Bytes (w1.alloc (.cells #[.int .u8 53, .int .u8 54, .int .u8 55, .int .u8 56, .int .u8 57] 5 (5, 6))) (some ⟨w1.heap.size, 0, none⟩) [53, 54, 55, 56, 57] := Bytes.block _ _ _ _ _ rfl
  have h1' := h1.alloc (.cells #[.int .u8 53, .int .u8 54, .int .u8 55, .int .u8 56, .int .u8 57] 5 (5, 6))
  generalize hw2 : w1.alloc (.cells #[.int .u8 53, .int .u8 54, .int .u8 55, .int .u8 56, .int .u8 57] 5 (5, 6)) = w2 at h1' h2
  have hs2 : w2.heap.size = w.heap.size + 1 + 1 := by rw [← hw2]; simp [hs1]
  rw [← hs2]
  rw [hs1] at h2
  refine Parts.block _ [.slice (some ⟨w.heap.size, 0, none⟩) 4 4, .slice none 0 0, .slice (some ⟨w.heap.size + 1, 0, none⟩) 5 5] _ rfl rfl fun i v l hv hl => ?_
  match i, hv, hl with
  | 0, hv, hl => simp at hv hl; subst hv hl; exact BytesV.mk_ h1' rfl (by simp) (by omega)
  | 1, hv, hl => simp at hv hl; subst hv hl; exact BytesV.mk_ (Bytes.nil_ _ _) rfl (by simp) (by omega)
  | 2, hv, hl => simp at hv hl; subst hv hl; exact BytesV.mk_ h2 rfl (by simp) (by omega)
theorem make32 (w : World) : (Instr.makeSlice 23 (.int .i64 32) (.int .i64 32)).run Try.prog w = .ok (.slice (some ⟨w.heap.size, 0, none⟩) 32 32) (w.alloc (.cells Crc.zs 5)) := by kernel_rfl

set_option maxRecDepth 100000 in
set_option maxHeartbeats 1600000 in
theorem awake_any (w : World) : Calls Try.prog 8 #[] w fun e w' => e = .returned (.bool true) ∧ Below w.heap.size w w' := by
  have hab : Bytes (w.alloc (.cells #[.int .u8 97, .int .u8 98] 5 (2, 3))) (some ⟨w.heap.size, 0, none⟩) [97, 98] := Bytes.block w _ _ _ _ rfl
  have kc := fun (w : World) (C : Array Value) (n c : Nat) => Lib.run_convert_bytes_const (P := Try.prog) w 23 5 C n c Try.underlying23 Try.underlying5
  go_enter Try.func8, Try.ntmps8
  go_wp2_with fail
  refine (seal_any _ 2 [97, 98] _ hab (by simp) (by simp) (by simp)).mono ?_
  rintro e w1 ⟨v1, rfl, hown1, hb1⟩
  obtain ⟨g1, c1, rfl, hg1, hc1, hc1'⟩ := own_ptr hown1 (by omega)
  simp only [maxLen] at hc1'
  replace hg1 : w.heap.size ≤ g1 := by simp at hg1; omega
  have hw1 : Below w.heap.size w w1 := below_call (below_new w _) (by simp) hb1
  have hS1 : Bytes w1 (some ⟨g1, 0, none⟩) Crc.exS := own_bytes hown1
  go_wp2_with fail
  refine (open_any _ c1 Crc.exS _ hS1 (by decide) hc1 hc1').mono ?_
  rintro e w2 ⟨ho2, hb2⟩
  rw [Crc.ex_some] at ho2
  obtain ⟨v2, rfl, hown2⟩ := ho2
  have hw2 : Below w.heap.size w w2 := below_call hw1 hw1.size hb2
  have hown1' := own_call hown1 hb2
  have c5 : w2.cell? ⟨g1, 5, none⟩ = some (.int .u8 (Crc.ex5.toNat : Int)) := (hown1'.cellAt 5 (by simp)).trans Crc.ex5_eq
  have f5 := hown1'.frozenAt 5
  have hx5 : bits .xor .u8 (Crc.ex5.toNat : Int) 128 = (Crc.exQ.toNat : Int) := Crc.ex_xor Crc.ex5
  have hst := hown1'.stored 5 (.int .u8 (Crc.exQ.toNat : Int))
  rw [show (List.map bv (Crc.sealed [97, 98])) = Crc.exS.map bv from rfl, Crc.ex_set] at hst
  have hown3 := hst.1
  have hg3 := hst.2
  clear hst
  have hw3 : Below w.heap.size w (w2.setCell ⟨g1, 5, none⟩ (.int .u8 (Crc.exQ.toNat : Int))) := hw2.setCell (p := ⟨g1, 5, none⟩) hg1 _
  have hS3 : Bytes (w2.setCell ⟨g1, 5, none⟩ (.int .u8 (Crc.exQ.toNat : Int))) (some ⟨g1, 0, none⟩) (Crc.exS.set 5 Crc.exQ) := own_bytes hown3
  go_wp2_with fail
  clear c5 f5 hx5
  generalize w2.setCell ⟨g1, 5, none⟩ (.int .u8 (Crc.exQ.toNat : Int)) = w3 at hown3 hg3 hw3 hS3
  refine (open_any _ c1 (Crc.exS.set 5 Crc.exQ) _ hS3 (by decide) hc1 hc1').mono ?_
  rintro e w4 ⟨ho4, hb4⟩
  rw [Crc.ex_none'] at ho4
  obtain rfl := ho4
  have hw4 : Below w.heap.size w w4 := below_call hw3 hw3.size hb4
  have k4 : Below w3.heap.size w3 w4 := hb4
  go_wp2_with fail
  refine (seal_any none 0 [] _ (Bytes.nil_ _ _) (by simp) (by simp) (by simp)).mono ?_
  rintro e w5 ⟨v5, rfl, hown5, hb5⟩
  have hw5 : Below w.heap.size w w5 := below_call hw4 hw4.size hb5
  have k5 := below_call k4 k4.size hb5
  obtain ⟨g5, c6, rfl, _, hc6, hc6'⟩ := own_ptr hown5 (by omega)
  simp only [maxLen] at hc6'
  go_wp2_with fail
  refine (open_any _ c6 (Crc.sealed []) _ (own_bytes hown5) (by decide) hc6 hc6').mono ?_
  rintro e w6 ⟨ho6, hb6⟩
  rw [Crc.ex_nil] at ho6
  obtain ⟨v6, rfl, hown6⟩ := ho6
  have hw6 : Below w.heap.size w w6 := below_call hw5 hw5.size hb6
  have k6 := below_call k5 k5.size hb6
  have habc : Bytes (w6.alloc (.cells #[.int .u8 97, .int .u8 98, .int .u8 99] 5 (3, 4))) (some ⟨w6.heap.size, 0, none⟩) [97, 98, 99] := Bytes.block _ _ _ _ _ rfl
  go_wp2_with fail
  refine (open_any _ 3 [97, 98, 99] _ habc (by simp) (by simp) (by simp)).mono ?_
  rintro e w7 ⟨ho7, hb7⟩
  rw [Crc.ex_short] at ho7
  obtain rfl := ho7
  have hw7 : Below w.heap.size w w7 := below_call (hw6.alloc hw6.size _) (by have := hw6.size; simp; omega) hb7
  have k7 := below_call (k6.alloc k6.size _) (by have := k6.size; simp; omega) hb7
  go_wp2_with fail
  refine (of_any none 0 [] _ ⟨[], Reads.nil_ _ _ _, fun i v l hv _ => by simp at hv⟩ (by simp) (by simp)).mono ?_
  rintro e w8 ⟨rfl, hb8⟩
  rw [List.flatten_nil, Crc.ex_sum0]
  have hw8 : Below w.heap.size w w8 := below_call hw7 hw7.size hb8
  have k8 := below_call k7 k7.size hb8
  have kc8 := fun (o : Obj) (C : Array Value) (n c : Nat) => Lib.run_convert_bytes_const (P := Try.prog) (w8.alloc o) 23 5 C n c Try.underlying23 Try.underlying5
  simp only [alloc_size] at kc8
  have hmk := make32
  go_wp2_with fail
  refine (of_any _ 3 [[49, 50, 51, 52], [], [53, 54, 55, 56, 57]] _ (ex_parts w8) (by simp) (by simp)).mono ?_
  rintro e w9 ⟨rfl, hb9⟩
  rw [Crc.ex_flat, Crc.ex_sum9]
  have hw9 : Below w.heap.size w w9 := below_call (((hw8.alloc hw8.size _).alloc (by have := hw8.size; simp; omega) _).alloc (by have := hw8.size; simp; omega) _) (by have := hw8.size; simp; omega) hb9
  have k9 := below_call (((k8.alloc k8.size _).alloc (by have := k8.size; simp; omega) _).alloc (by have := k8.size; simp; omega) _) (by have := k8.size; simp; omega) hb9
  clear kc8
  go_wp2_with fail
  have hz : Bytes (w9.alloc (.cells Crc.zs 5)) (some ⟨w9.heap.size, 0, none⟩) (List.replicate 32 0) := Bytes.block _ _ _ _ _ rfl
  have hzp := Parts.one 23 (c := 32) hz (by simp) (by simp)
  simp only [alloc_size, List.length_replicate] at hzp
  refine (of_any _ 1 [List.replicate 32 0] _ hzp (by simp) (by simp)).mono ?_
  rintro e w10 ⟨rfl, hb10⟩
  rw [List.flatten_cons, List.flatten_nil, List.append_nil, Crc.ex_sum32]
  have hw10 : Below w.heap.size w w10 := below_call ((hw9.alloc hw9.size _).alloc (by have := hw9.size; simp; omega) _) (by have := hw9.size; simp; omega) hb10
  have k10 := below_call ((k9.alloc k9.size _).alloc (by have := k9.size; simp; omega) _) (by have := k9.size; simp; omega) hb10
  have hlt1 := (hown1.lt g1 rfl).2
  have hown2' := hown2.kept hg3 (.inr (fun e => by have := (hown2.lt g1 e).1; omega))
  have hown2'' := own_call hown2' k10
  obtain ⟨A2, c2, rfl, _, _⟩ := own_slice hown2
  have hcs := conv_str (P := Try.prog) (c := c2) (n := 2) Try.underlying23 Try.underlying5 Try.underlying9 (own_bytes hown2'') rfl
  go_wp2
  go_ret
  exact ⟨rfl, hw10⟩
end Go.Proofs.Ytgnegofkffiopaa
