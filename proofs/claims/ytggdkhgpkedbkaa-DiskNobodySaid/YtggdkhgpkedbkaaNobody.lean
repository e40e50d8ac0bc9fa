/- A pointer to no disk: nil, or to a struct that New did not make. -/
import Derived.Test.YtggdkhgpkedbkaaActs
namespace Go.Proofs.Ytggdkhgpkedbkaa
open Go.RowKit

def Nix (w : World) (v : Value) : Prop := v = .pointer none ∨ ∃ z, v = pd z ∧ DskB w z none none (.slice none 0 0) 0 0 false
theorem Nix.below {w w' : World} {v : Value} (h : Nix w v) (hb : Below w.heap.size w w') : Nix w' v := by
  rcases h with rfl | ⟨z, rfl, h⟩
  · exact .inl rfl
  · exact .inr ⟨z, rfl, Blk.below h hb (Blk.lt h)⟩
section
variable {w : World} {v : Value} (h : Nix w v)
include h
theorem nix_none : Calls Try.prog 34 #[v] w fun e w' => e = .returned (.bool true) ∧ w = w' := by
  rcases h with rfl | ⟨z, rfl, h⟩
  · exact none_nil w
  · exact none_any h
theorem nix_off : Calls Try.prog 40 #[v] w fun e w' => e = .returned (.bool true) ∧ w = w' := by
  rcases h with rfl | ⟨z, rfl, h⟩
  · exact off_nil w
  · exact off_any h
theorem nix_asks (A : Option Addr) (c : Nat) (ns : List Nm) (hA : Strs w A ns) (hn : ns.length ≤ 9223372036854775807) (hl : ∀ n ∈ ns, n.length ≤ 9223372036854775807) : Calls Try.prog 35 #[v, .slice A ns.length c] w fun e w' => e = .returned (.int .i64 6) ∧ Below w.heap.size w w' := by
  rcases h with rfl | ⟨z, rfl, h⟩
  · exact asks_nil _ ns w
  · exact asks_any h A c ns hA hn hl
theorem nix_sync : Calls Try.prog 16 #[v] w fun e w' => e = .returned (.int .i64 6) ∧ w = w' := by
  have hc := nix_off h
  go_enter Try.func16, Try.ntmps16
  go_wp2_with (go_at_call 40; refine hc.mono ?_; rintro e w1 ⟨rfl, rfl⟩)
  go_ret
  exact ⟨rfl, rfl⟩
theorem nix_start : Calls Try.prog 13 #[v] w fun e w' => e = .returned (.int .i64 1) ∧ w = w' := by
  have hc := nix_none h
  go_enter Try.func13, Try.ntmps13
  go_wp2_with (go_at_call 34; refine hc.mono ?_; rintro e w1 ⟨rfl, rfl⟩)
  go_ret
  exact ⟨rfl, rfl⟩
theorem nix_wipe : Calls Try.prog 28 #[v] w fun e w' => e = .returned (.tuple #[]) ∧ w = w' := by
  have hc := nix_none h
  go_enter Try.func28, Try.ntmps28
  go_wp2_with (go_at_call 34; refine hc.mono ?_; rintro e w1 ⟨rfl, rfl⟩)
  refine bodyPost_ret (results_none rfl _ _ _) rfl ?_
  exact ⟨rfl, rfl⟩
theorem nix_waits : Calls Try.prog 18 #[v] w fun e w' => e = .returned (.int .i64 0) ∧ w = w' := by
  have hc := nix_off h
  go_enter Try.func18, Try.ntmps18
  go_wp2_with (go_at_call 40; refine hc.mono ?_; rintro e w1 ⟨rfl, rfl⟩)
  go_ret
  exact ⟨rfl, rfl⟩
theorem nix_bytes : Calls Try.prog 23 #[v] w fun e w' => e = .returned (.int .i64 0) ∧ w = w' := by
  have hc := nix_off h
  go_enter Try.func23, Try.ntmps23
  go_wp2_with (go_at_call 40; refine hc.mono ?_; rintro e w1 ⟨rfl, rfl⟩)
  go_ret
  exact ⟨rfl, rfl⟩
theorem nix_names : Calls Try.prog 22 #[v] w fun e w' => e = .returned (.slice none 0 0) ∧ w = w' := by
  have hc := nix_off h
  go_enter Try.func22, Try.ntmps22
  go_wp2_with (go_at_call 40; refine hc.mono ?_; rintro e w1 ⟨rfl, rfl⟩)
  go_ret
  exact ⟨rfl, rfl⟩
theorem nix_serial : Calls Try.prog 32 #[v] w fun e w' => e = .returned (.int .u64 0) ∧ w = w' := by
  have hc := nix_none h
  go_enter Try.func32, Try.ntmps32
  go_wp2_with (go_at_call 34; refine hc.mono ?_; rintro e w1 ⟨rfl, rfl⟩)
  go_ret
  exact ⟨rfl, rfl⟩
theorem nix_capacity : Calls Try.prog 33 #[v] w fun e w' => e = .returned (.int .i64 0) ∧ w = w' := by
  have hc := nix_none h
  go_enter Try.func33, Try.ntmps33
  go_wp2_with (go_at_call 34; refine hc.mono ?_; rintro e w1 ⟨rfl, rfl⟩)
  go_ret
  exact ⟨rfl, rfl⟩
theorem nix_down : Calls Try.prog 26 #[v] w fun e w' => e = .returned (.bool true) ∧ w = w' := by
  have hc := nix_off h
  go_enter Try.func26, Try.ntmps26
  go_wp2_with (go_at_call 40; refine hc.mono ?_; rintro e w1 ⟨rfl, rfl⟩)
  go_ret
  exact ⟨rfl, rfl⟩
theorem nix_copy : Calls Try.prog 20 #[v] w fun e w' => e = .returned (.pointer none) ∧ w = w' := by
  have hc := nix_none h
  go_enter Try.func20, Try.ntmps20
  go_wp2_with (go_at_call 34; refine hc.mono ?_; rintro e w1 ⟨rfl, rfl⟩)
  go_ret
  exact ⟨rfl, rfl⟩
theorem nix_crash (p q : Int) : Calls Try.prog 19 #[v, .int .i64 p, .int .i64 q] w fun e w' => e = .returned (.int .i64 6) ∧ w = w' := by
  have hc := nix_off h
  go_enter Try.func19, Try.ntmps19
  go_wp2_with (go_at_call 40; refine hc.mono ?_; rintro e w1 ⟨rfl, rfl⟩)
  go_ret
  exact ⟨rfl, rfl⟩
theorem nix_size (n : Nm) : Calls Try.prog 31 #[v, .string ⟨n.toArray⟩] w fun e w' => e = .returned (.int .i64 0) ∧ w = w' := by
  have hc := nix_off h
  go_enter Try.func31, Try.ntmps31
  go_wp2_with (go_at_call 40; refine hc.mono ?_; rintro e w1 ⟨rfl, rfl⟩)
  go_ret
  exact ⟨rfl, rfl⟩
set_option maxRecDepth 100000 in
theorem nix_read (n : Nm) (hn : Nok n) : Calls Try.prog 14 #[v, .string ⟨n.toArray⟩] w fun e w' => e = .returned (.tuple #[.slice none 0 0, .int .i64 6]) ∧ Below w.heap.size w w' := by
  have hb0 : Below w.heap.size w (w.alloc (.cells #[.string ⟨n.toArray⟩] 9)) := ((Below.refl _ w).alloc (by simp; try omega) _)
  have hS := Strs.one w 9 n
  have hc := nix_asks (h.below hb0) _ 1 [n] hS (by simp) (by simp only [List.mem_cons, List.not_mem_nil, or_false]; rintro n (rfl) <;> assumption)
  simp only [alloc_size, List.length_cons, List.length_nil] at hc
  go_enter Try.func14, Try.ntmps14
  go_wp2_with (go_at_call 35; refine hc.mono ?_; rintro e w1 ⟨rfl, hb⟩)
  go_ret2
  exact ⟨rfl, hb0.trans (hb.mono (by omega))⟩
set_option maxRecDepth 100000 in
theorem nix_append (n : Nm) (hn : Nok n) (A : Option Addr) (l c : Nat) : Calls Try.prog 24 #[v, .string ⟨n.toArray⟩, .slice A l c] w fun e w' => e = .returned (.int .i64 6) ∧ Below w.heap.size w w' := by
  have hb0 : Below w.heap.size w (((w.alloc (.cells #[.string ⟨n.toArray⟩] 9)).alloc (.cells #[.slice A l c] 23)).alloc (.cells #[.string ⟨n.toArray⟩] 9)) := ((((Below.refl _ w).alloc (by simp; try omega) _).alloc (by simp; try omega) _).alloc (by simp; try omega) _)
  have hS := Strs.one ((w.alloc (.cells #[.string ⟨n.toArray⟩] 9)).alloc (.cells #[.slice A l c] 23)) 9 n
  have hc := nix_asks (h.below hb0) _ 1 [n] hS (by simp) (by simp only [List.mem_cons, List.not_mem_nil, or_false]; rintro n (rfl) <;> assumption)
  simp only [alloc_size, List.length_cons, List.length_nil] at hc
  go_enter Try.func24, Try.ntmps24
  go_wp2_with (go_at_call 35; refine hc.mono ?_; rintro e w1 ⟨rfl, hb⟩)
  go_ret
  exact ⟨rfl, hb0.trans (hb.mono (by omega))⟩
set_option maxRecDepth 100000 in
theorem nix_put (n : Nm) (hn : Nok n) (A : Option Addr) (l c : Nat) : Calls Try.prog 15 #[v, .string ⟨n.toArray⟩, .slice A l c] w fun e w' => e = .returned (.int .i64 6) ∧ Below w.heap.size w w' := by
  have hb0 : Below w.heap.size w (((w.alloc (.cells #[.string ⟨n.toArray⟩] 9)).alloc (.cells #[.slice A l c] 23)).alloc (.cells #[.string ⟨n.toArray⟩] 9)) := ((((Below.refl _ w).alloc (by simp; try omega) _).alloc (by simp; try omega) _).alloc (by simp; try omega) _)
  have hS := Strs.one ((w.alloc (.cells #[.string ⟨n.toArray⟩] 9)).alloc (.cells #[.slice A l c] 23)) 9 n
  have hc := nix_asks (h.below hb0) _ 1 [n] hS (by simp) (by simp only [List.mem_cons, List.not_mem_nil, or_false]; rintro n (rfl) <;> assumption)
  simp only [alloc_size, List.length_cons, List.length_nil] at hc
  go_enter Try.func15, Try.ntmps15
  go_wp2_with (go_at_call 35; refine hc.mono ?_; rintro e w1 ⟨rfl, hb⟩)
  go_ret
  exact ⟨rfl, hb0.trans (hb.mono (by omega))⟩
set_option maxRecDepth 100000 in
theorem nix_rename (n k : Nm) (hn : Nok n) (hk : Nok k) : Calls Try.prog 17 #[v, .string ⟨n.toArray⟩, .string ⟨k.toArray⟩] w fun e w' => e = .returned (.int .i64 6) ∧ Below w.heap.size w w' := by
  have hb0 : Below w.heap.size w (((w.alloc (.cells #[.string ⟨n.toArray⟩] 9)).alloc (.cells #[.string ⟨k.toArray⟩] 9)).alloc (.cells #[.string ⟨n.toArray⟩, .string ⟨k.toArray⟩] 9)) := ((((Below.refl _ w).alloc (by simp; try omega) _).alloc (by simp; try omega) _).alloc (by simp; try omega) _)
  have hS := Strs.two ((w.alloc (.cells #[.string ⟨n.toArray⟩] 9)).alloc (.cells #[.string ⟨k.toArray⟩] 9)) 9 n k
  have hc := nix_asks (h.below hb0) _ 2 [n, k] hS (by simp) (by simp only [List.mem_cons, List.not_mem_nil, or_false]; rintro n (rfl | rfl) <;> assumption)
  simp only [alloc_size, List.length_cons, List.length_nil] at hc
  go_enter Try.func17, Try.ntmps17
  go_wp2_with (go_at_call 35; refine hc.mono ?_; rintro e w1 ⟨rfl, hb⟩)
  go_ret
  exact ⟨rfl, hb0.trans (hb.mono (by omega))⟩
set_option maxRecDepth 100000 in
theorem nix_remove (n : Nm) (hn : Nok n) : Calls Try.prog 25 #[v, .string ⟨n.toArray⟩] w fun e w' => e = .returned (.int .i64 6) ∧ Below w.heap.size w w' := by
  have hb0 : Below w.heap.size w ((w.alloc (.cells #[.string ⟨n.toArray⟩] 9)).alloc (.cells #[.string ⟨n.toArray⟩] 9)) := (((Below.refl _ w).alloc (by simp; try omega) _).alloc (by simp; try omega) _)
  have hS := Strs.one (w.alloc (.cells #[.string ⟨n.toArray⟩] 9)) 9 n
  have hc := nix_asks (h.below hb0) _ 1 [n] hS (by simp) (by simp only [List.mem_cons, List.not_mem_nil, or_false]; rintro n (rfl) <;> assumption)
  simp only [alloc_size, List.length_cons, List.length_nil] at hc
  go_enter Try.func25, Try.ntmps25
  go_wp2_with (go_at_call 35; refine hc.mono ?_; rintro e w1 ⟨rfl, hb⟩)
  go_ret
  exact ⟨rfl, hb0.trans (hb.mono (by omega))⟩
end
end Go.Proofs.Ytggdkhgpkedbkaa
