/- The walks of what is sealed. -/
import Derived.Test.YtgnegofkffiopaaSumRef
import Derived.Test.YtgnegofkffiopaaWords2
namespace Go.Proofs.Ytgnegofkffiopaa
open Go.RowKit

namespace Crc
/-- The byte of a word at a place. -/
def byteAt (x : BitVec 32) (k : Nat) : UInt8 := UInt8.ofNat (x.toNat / 2 ^ (8 * k))
def le4 (x : BitVec 32) : List UInt8 := [byteAt x 0, byteAt x 1, byteAt x 2, byteAt x 3]
def sealed (l : List UInt8) : List UInt8 := l ++ le4 (sum l)
theorem le4_take (x : BitVec 32) (k : Nat) (hk : k < 4) : (le4 x).take (k + 1) = (le4 x).take k ++ [byteAt x k] := by
  have : k = 0 ∨ k = 1 ∨ k = 2 ∨ k = 3 := by omega
  rcases this with rfl | rfl | rfl | rfl <;> rfl
theorem w_byte (x : BitVec 32) (k : Nat) : IntKind.u8.wrap (shrI (x.toNat : Int) (8 * k)) = ((byteAt x k).toNat : Int) := by
  unfold shrI byteAt
  rw [IntKind.wrap_u8, UInt8.toNat_ofNat']
  simp
end Crc

theorem bytes_ty : SliceTy Try.prog 23 5 1 1 := SliceTy.mk Try.underlying23 (z := .int .u8 0) (by kernel_rfl) rfl

set_option maxHeartbeats 400000 in
theorem places_any (w : World) :
    Calls Try.prog 16 #[] w fun e w' => e = .returned (.agg #[.int .i64 0, .int .i64 8, .int .i64 16, .int .i64 24]) ∧ Below w.heap.size w w' := by
  go_enter Try.func16, Try.ntmps16
  go_wp2
  exact bodyPost_ret (v := .agg #[.int .i64 0, .int .i64 8, .int .i64 16, .int .i64 24]) (by simp [results, Try.results16, go_sem]) rfl ⟨rfl, (Below.refl _ _).alloc (Nat.le_refl _) _⟩

/-- The place number k. -/
theorem place_at (k : Nat) (hk : k < 4) (w : World) : (Instr.index 42 (.agg #[.int .i64 0, .int .i64 8, .int .i64 16, .int .i64 24]) (.int .i64 (k : Int))).run Try.prog w = .ok (.int .i64 ((8 * k : Nat) : Int)) w := by
  have : k = 0 ∨ k = 1 ∨ k = 2 ∨ k = 3 := by omega
  rcases this with rfl | rfl | rfl | rfl <;> rfl

set_option maxHeartbeats 800000 in
theorem seal_any (A : Option Addr) (cap : Nat) (l : List UInt8) (w : World) (hp : Bytes w A l) (hn : l.length ≤ 1000000) (hc1 : l.length ≤ cap) (hc2 : cap ≤ 9223372036854775807) :
    Calls Try.prog 11 #[.slice A l.length cap] w fun e w' => ∃ v, e = .returned v ∧ w'.ownsRow w.heap.size 5 1 v (l.length + 4) ((Crc.sealed l).map bv) ∧ Below w.heap.size w w' := by
  have hpar := Parts.one 23 hp hc1 hc2
  obtain ⟨i0, z0, g1, g2, g3, g4, g5, g6, g7, g8⟩ := bytes_ty
  go_enter Try.func11, Try.ntmps11
  go_wp2_with (first
    | (go_at_call 9; refine (of_any _ _ [l] _ hpar (by simp) (by simp; omega)).mono ?_; rintro e w1 ⟨rfl, hb1⟩; have hbw : Below w.heap.size w w1 := below_call (below_new w _) (by simp) hb1)
    | (at_make; refine wpList_make_own _ rfl _ _ _ rfl w.heap.size 5 i0 z0 1 g1 g2 g3 g4 _ _ _ (l.length + 4) rfl rfl (by omega) (by rw [g5]; omega) (by simp only [maxLen]; omega) hbw.size ?_; intro w2 hown2 hg2; have hbw2 : Below w.heap.size w w2 := hbw.grown hg2 hbw.size (fun k hk => by cases hk))
    | (at_builtin; refine app_list bytes_ty rfl rfl hown2 rfl (Reads.below hp hbw2) rfl (bv_one l) (by omega) hbw2.size ?_; intro v3 w3 hown3 hg3 _; have hbw3 : Below w.heap.size w w3 := hbw2.grown hg3 hbw2.size (own_ge hown2))
    | (go_at_call 16; refine (places_any _).mono ?_; rintro e w4 ⟨rfl, hb4⟩; have hbw4 : Below w.heap.size w w4 := below_call hbw3 hbw3.size hb4))
  have hown4 := own_call hown3 hb4
  clear hown2 hown3
  obtain ⟨x, hx0⟩ : ∃ x, x = Crc.sum l := ⟨_, rfl⟩
  rw [← hx0]
  have HX := Lib.hid hx0
  clear hx0
  have hx := x.isLt
  go_loopw [4, 17] (fun v i wr => ∃ k : Nat, k ≤ 4 ∧ i = .int .i64 k ∧ wr.ownsRow w.heap.size 5 1 v (l.length + k) ((l ++ (Crc.le4 x).take k).map bv) ∧ Below w.heap.size w wr) (fun _ i _ => 4 - (intOf i).toNat)
  case atStart => exact ⟨0, by omega, rfl, by simpa using hown4, hbw4⟩
  case round =>
    obtain ⟨k, hk, rfl, hown, hbel⟩ := hrel
    by_cases hlt : k < 4
    · have hpl := place_at k hlt
      have ht := Crc.le4_take x k hlt
      have HT := Lib.hid ht
      have HB := Crc.w_byte x k
      have hjb : 8 * k ≤ IntKind.u32.bits := by show 8 * k ≤ 32; omega
      clear ht
      go_wp2_with (first
        | (((with_reducible refine wpList_shr (k := .u32) (k' := .i64) (xv := (x.toNat : Int)) (j := 8 * k) rfl rfl ?_ ?_ hjb ?_); rfl; rfl))
        | (at_builtin; refine app_list bytes_ty rfl rfl (hown.alloc _) rfl (Reads.one _ _ _) rfl (by simp [Value.oneCell']) (by omega) (by have := hbel.size; simp; omega) ?_; intro v5 w5 hown5 hg5 _))
      have hbel5 : Below w.heap.size w w5 := (hbel.alloc hbel.size _).grown hg5 (by have := hbel.size; simp; omega) (own_ge hown)
      go_roundw
      case rel =>
        refine ⟨k + 1, by omega, by go_num, ?_, hbel5⟩
        rw [HT.out, ← List.append_assoc, List.map_append, ← Nat.add_assoc]
        exact hown5
      case measure => simp [intOf]; omega
    · have hk4 : k = 4 := by omega
      subst hk4
      clear hlt
      go_wp2
      go_ret
      refine ⟨_, rfl, ?_, hbel⟩
      have e : Crc.sealed l = l ++ (Crc.le4 x).take 4 := by rw [HX.out]; rfl
      rw [e]
      exact hown
end Go.Proofs.Ytgnegofkffiopaa
