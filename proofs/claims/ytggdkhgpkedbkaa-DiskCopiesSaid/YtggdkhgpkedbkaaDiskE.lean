/- Whether a disk is one, whether it answers, what a call with names meets. -/
import Derived.Test.YtggdkhgpkedbkaaDiskD
namespace Go.Proofs.Ytggdkhgpkedbkaa
open Go.RowKit

/-- Block d is a disk's struct. -/
def DskB (w : World) (d : Nat) (f l : Option Nat) (v : Value) (cap s : Int) (down : Bool) : Prop :=
  Blk w d 58 #[.map f, .map l, v, .int .i64 cap, .int .u64 s, .bool down]
def pd (d : Nat) : Value := .pointer (some ⟨d, 0, none⟩)
theorem eql_nilmap (w : World) (m : Option Nat) : (binOp .eql 52 (.map m) (.map none)).run Try.prog w = .ok (.bool m.isNone) w := by
  cases m <;> kernel_rfl
theorem none_nil (w : World) : Calls Try.prog 34 #[.pointer none] w fun e w' => e = .returned (.bool true) ∧ w = w' := by
  go_enter Try.func34, Try.ntmps34
  go_wp2_with fail
  go_ret
  exact ⟨rfl, rfl⟩
theorem none_any {w : World} {d : Nat} {f l : Option Nat} {v : Value} {cap s : Int} {down : Bool} (h : DskB w d f l v cap s down) : Calls Try.prog 34 #[pd d] w fun e w' => e = .returned (.bool f.isNone) ∧ w = w' := by
  have c0 := Blk.cell h 0
  simp only [List.getElem?_toArray, List.getElem?_cons_succ, List.getElem?_cons_zero] at c0
  have he := eql_nilmap
  unfold pd
  cases f <;>
  · go_enter Try.func34, Try.ntmps34
    go_wp2_with fail
    go_ret
    exact ⟨rfl, rfl⟩
theorem off_nil (w : World) : Calls Try.prog 40 #[.pointer none] w fun e w' => e = .returned (.bool true) ∧ w = w' := by
  go_enter Try.func40, Try.ntmps40
  go_wp2_with (go_at_call 34; refine (none_nil _).mono ?_; rintro e w1 ⟨rfl, rfl⟩)
  go_ret
  exact ⟨rfl, rfl⟩
theorem off_any {w : World} {d : Nat} {f l : Option Nat} {v : Value} {cap s : Int} {down : Bool} (h : DskB w d f l v cap s down) : Calls Try.prog 40 #[pd d] w fun e w' => e = .returned (.bool (f.isNone || down)) ∧ w = w' := by
  have c5 := Blk.cell h 5
  simp only [List.getElem?_toArray, List.getElem?_cons_succ, List.getElem?_cons_zero] at c5
  have hcall := none_any h
  clear h
  unfold pd at *
  cases f <;>
  · go_enter Try.func40, Try.ntmps40
    go_wp2_with (go_at_call 34; refine hcall.mono ?_; clear hcall; rintro e w1 ⟨rfl, rfl⟩)
    go_ret
    exact ⟨rfl, rfl⟩
/-- What a call with names answers first. -/
def askE (off : Bool) (ns : List Nm) : Int := if off then 6 else if ns.any (fun n => !isName n) then 1 else 0
theorem asks_nil (x : Value) (ns : List Nm) (w : World) : Calls Try.prog 35 #[.pointer none, x] w fun e w' => e = .returned (.int .i64 (askE true ns)) ∧ Below w.heap.size w w' := by
  go_enter Try.func35, Try.ntmps35
  go_wp2_with (go_at_call 40; refine (off_nil _).mono ?_; rintro e w1 ⟨rfl, rfl⟩)
  go_ret
  exact ⟨rfl, Below.refl _ _⟩
theorem asks_any {w : World} {d : Nat} {f l : Option Nat} {v : Value} {cap s : Int} {down : Bool} (h : DskB w d f l v cap s down) (A : Option Addr) (c : Nat) (ns : List Nm) (hA : Strs w A ns) (hn : ns.length ≤ 9223372036854775807) (hl : ∀ n ∈ ns, n.length ≤ 9223372036854775807) :
    Calls Try.prog 35 #[pd d, .slice A ns.length c] w fun e w' => e = .returned (.int .i64 (askE (f.isNone || down) ns)) ∧ Below w.heap.size w w' := by
  have hoff := off_any h
  have hany := anyS A c ns w hA hn hl
  unfold askE
  generalize (f.isNone || down) = o at *
  generalize (ns.any fun n => !isName n) = r at *
  clear h hA hl
  unfold pd at *
  cases o
  · cases r <;>
    · go_enter Try.func35, Try.ntmps35
      go_wp2_with (first
        | (go_at_call 40; refine hoff.mono ?_; rintro e w1 ⟨rfl, rfl⟩)
        | (go_at_call 58; refine hany.mono ?_; rintro e w1 ⟨rfl, hb⟩))
      go_ret
      exact ⟨rfl, hb⟩
  · go_enter Try.func35, Try.ntmps35
    go_wp2_with (go_at_call 40; refine hoff.mono ?_; rintro e w1 ⟨rfl, rfl⟩)
    go_ret
    exact ⟨rfl, Below.refl _ _⟩
end Go.Proofs.Ytggdkhgpkedbkaa
