/- slices.Clone at bytes; what a name is; whether a disk answers. -/
import Derived.Test.YtggdkhgpkedbkaaDiskB
import Derived.Lib.SliceRun
import Derived.Laws.IdiomStrings
import Derived.Deep.QuietTactic
import Derived.BigQuiet
namespace Go.Proofs.Ytggdkhgpkedbkaa
open Go.RowKit

theorem bytes_ty : SliceTy Try.prog 23 5 1 1 := SliceTy.mk Try.underlying23 (z := .int .u8 0) (by kernel_rfl) rfl
def CloneB (base : Nat) (l : List UInt8) (e : Ending) (w' : World) : Prop := ∃ A c, e = .returned (.slice A l.length c) ∧ w'.ownsRow base 5 1 (.slice A l.length c) l.length (l.map bv)
set_option maxHeartbeats 400000 in
theorem clone_any (A : Option Addr) (c : Nat) (l : List UInt8) (w : World) (hA : Bytes w A l) (hn : l.length ≤ 140737488355328) :
    Calls Try.prog 36 #[.slice A l.length c] w fun e w' => CloneB w.heap.size l e w' ∧ Below w.heap.size w w' := by
  have hen := fun (w : World) (a : Option Addr) (n c n' c' : Nat) => Lib.run_eql_slice_nil (P := Try.prog) w 23 5 a n c n' c' Try.underlying23
  rcases A with _ | ad
  · obtain rfl : l = [] := by
      rcases Nat.eq_zero_or_pos l.length with h0 | h0
      · exact List.eq_nil_of_length_eq_zero h0
      · obtain ⟨_, h, _⟩ := hA.2 h0; cases h
    go_enter Try.func36, Try.ntmps36
    go_wp2_with fail
    go_ret
    exact ⟨⟨_, _, rfl, World.ownsRow_nil _ _ _ _⟩, Below.refl _ _⟩
  · have hown0 : (w.alloc (.cells #[] 5)).ownsRow w.heap.size 5 1 (.slice (some ⟨w.heap.size, 0, none⟩) 0 0) 0 [] := World.ownsRow_made _ _ _ (Nat.le_refl _) (by simp [maxLen]) rfl
    have hA' := Reads.alloc hA (.cells #[] 5)
    have h1 := bv_one l
    generalize hrow : l.map bv = r at hA' h1
    have HR := Lib.hid hrow
    clear hrow hA
    go_enter Try.func36, Try.ntmps36
    go_wp2_with (first
      | (at_builtin; refine app_list bytes_ty rfl (s := .tmp 5) (x := .tmp 6) rfl hown0 rfl hA' rfl h1 (by omega) (by simp) ?_; intro v3 w3 hown3 hg3 _))
    go_ret
    obtain ⟨A3, c3, rfl, _, _⟩ := own_slice hown3
    refine ⟨⟨A3, c3, by simp, ?_⟩, (below_new _ _).grown hg3 (by simp) (own_ge hown0)⟩
    rw [HR.out]
    simpa using hown3

/-- A byte that may stand in no name. -/
def badB (c : UInt8) : Bool := !(c == 46 || (97 ≤ c && c ≤ 122) || (48 ≤ c && c ≤ 57))
def isName (n : Nm) : Bool := 1 ≤ n.length && n.length ≤ 16 && !n.any badB
def badI (c : Int) : Bool := (c != 46 && (decide (c < 97) || decide (122 < c))) && (decide (c < 48) || decide (57 < c))
theorem bad_eq (c : UInt8) : badI (c.toNat : Int) = badB c := by
  have h : ∀ n : Fin 256, badI (n.val : Int) = badB (UInt8.ofNat n.val) := by decide +kernel
  have := h ⟨c.toNat, c.toNat_lt⟩
  simpa using this
theorem bad_any (c : UInt8) (w : World) : Calls Try.prog 71 #[.int .u8 (c.toNat : Int)] w fun e w' => e = .returned (.bool (badB c)) ∧ w = w' := by
  rw [← bad_eq]
  generalize (c.toNat : Int) = x
  unfold badI
  by_cases h1 : x = 46 <;> by_cases h2 : x < 97 <;> by_cases h3 : 122 < x <;> by_cases h4 : x < 48 <;> by_cases h5 : 57 < x <;> try omega
  all_goals
    go_enter Try.func71, Try.ntmps71
    go_wp2_with fail
    go_ret
    simp [*]
end Go.Proofs.Ytggdkhgpkedbkaa
