/- A client's calls: copies, and the work's methods. -/
import Derived.Test.YtpbaofabflgpkaaCliA
import Derived.Test.YtpbaofabflgpkaaBlks
import Derived.Test.YtpbaofabflgpkaaRegion
import Derived.Test.YtpbaofabflgpkaaJA
import Derived.Test.YtpbaofabflgpkaaChecked
import Derived.Tactics
import Derived.Handy
import Derived.Lib.SliceRun
import Derived.Laws.IdiomStrings
namespace Go.Proofs.Ytpbaofabflgpkaa
set_option linter.unusedVariables false
set_option linter.unusedSimpArgs false
open Go.RowKit

section
variable {P : Program} {fn : Func} {p q u v : Tmp} {ty ty2 : TypeId} {w : World} {g g2 : Nat} {t t2 : TypeId} {cs cs2 : Array Value} {d d2 : TypeDesc}
theorem run_cell (hB : Blk w g t cs) (hu : P.underlying ty = some d) (hd : (match d with | .struct _ | .array _ _ => true | _ => false) = true) (hi : (P.info? ty).map (·.size) = some cs.size) :
    (asAddr (.pointer (some ⟨g, 0, none⟩))).run P w = .ok ⟨g, 0, none⟩ w ∧ (loadVar ty ⟨g, 0, none⟩).run P w = .ok (.agg cs) w := ⟨by simp [asAddr], run_loadVar_row w g t ty cs _ d hB hu hd hi⟩
theorem results_c (h : fn.results = #[.cell p ty]) (tmps : Array Value) (hB : Blk w g t cs) (hp : tmps.getD p undef = .pointer (some ⟨g, 0, none⟩)) (hu : P.underlying ty = some d) (hd : (match d with | .struct _ | .array _ _ => true | _ => false) = true) (hi : (P.info? ty).map (·.size) = some cs.size) :
    (results fn tmps).run P w = .ok (.agg cs) w := results_cell_row h tmps w g t cs _ d hp hB hu hd hi
theorem results_ct (h : fn.results = #[.cell p ty, .tmp u]) (tmps : Array Value) (hB : Blk w g t cs) (hp : tmps.getD p undef = .pointer (some ⟨g, 0, none⟩)) (hu : P.underlying ty = some d) (hd : (match d with | .struct _ | .array _ _ => true | _ => false) = true) (hi : (P.info? ty).map (·.size) = some cs.size) :
    (results fn tmps).run P w = .ok (.tuple #[.agg cs, tmps.getD u undef]) w := by
  obtain ⟨h1, h2⟩ := run_cell hB hu hd hi
  rw [Array.getD_eq_getD_getElem?] at hp
  simp only [results, h]
  simp [Sem.run_bind, Result.andThen, hp, h1, h2]
theorem results_ctt (h : fn.results = #[.cell p ty, .tmp u, .tmp v]) (tmps : Array Value) (hB : Blk w g t cs) (hp : tmps.getD p undef = .pointer (some ⟨g, 0, none⟩)) (hu : P.underlying ty = some d) (hd : (match d with | .struct _ | .array _ _ => true | _ => false) = true) (hi : (P.info? ty).map (·.size) = some cs.size) :
    (results fn tmps).run P w = .ok (.tuple #[.agg cs, tmps.getD u undef, tmps.getD v undef]) w := by
  obtain ⟨h1, h2⟩ := run_cell hB hu hd hi
  rw [Array.getD_eq_getD_getElem?] at hp
  simp only [results, h]
  simp [Sem.run_bind, Result.andThen, hp, h1, h2]
theorem results_ctct (h : fn.results = #[.cell p ty, .tmp u, .cell q ty2, .tmp v]) (tmps : Array Value) (hB : Blk w g t cs) (hp : tmps.getD p undef = .pointer (some ⟨g, 0, none⟩)) (hu : P.underlying ty = some d) (hd : (match d with | .struct _ | .array _ _ => true | _ => false) = true) (hi : (P.info? ty).map (·.size) = some cs.size)
    (hB2 : Blk w g2 t2 cs2) (hp2 : tmps.getD q undef = .pointer (some ⟨g2, 0, none⟩)) (hu2 : P.underlying ty2 = some d2) (hd2 : (match d2 with | .struct _ | .array _ _ => true | _ => false) = true) (hi2 : (P.info? ty2).map (·.size) = some cs2.size) :
    (results fn tmps).run P w = .ok (.tuple #[.agg cs, tmps.getD u undef, .agg cs2, tmps.getD v undef]) w := by
  obtain ⟨h1, h2⟩ := run_cell hB hu hd hi
  obtain ⟨h3, h4⟩ := run_cell hB2 hu2 hd2 hi2
  rw [Array.getD_eq_getD_getElem?] at hp hp2
  simp only [results, h]
  simp [Sem.run_bind, Result.andThen, hp, h1, h2, hp2, h3, h4]
end
/-- The sizes of the structs. -/
theorem info_call {cs : Array Value} (h : cs.size = 9) : (Try.prog.info? 27).map (·.size) = some cs.size := by rw [h]; kernel_rfl
theorem info_reply {cs : Array Value} (h : cs.size = 9) : (Try.prog.info? 36).map (·.size) = some cs.size := by rw [h]; kernel_rfl
theorem info_client {cs : Array Value} (h : cs.size = 17) : (Try.prog.info? 29).map (·.size) = some cs.size := by rw [h]; kernel_rfl
theorem zero_call (w : World) : (zeroValue 27).run Try.prog w = .ok (.agg (calL zCal (.slice none 0 0)).toArray) w := (zero_of_info (n := 9) (by kernel_rfl)).1 w
theorem zero_reply (w : World) : (zeroValue 36).run Try.prog w = .ok (.agg (repL zRep (.slice none 0 0)).toArray) w := (zero_of_info (n := 9) (by kernel_rfl)).1 w
theorem zero_client (w : World) : (zeroValue 29).run Try.prog w = .ok (.agg (cliL zCli (.slice none 0 0) (.slice none 0 0)).toArray) w := (zero_of_info (n := 17) (by kernel_rfl)).1 w
theorem SlB.one {K : Nat → Prop} {w : World} {v : Value} {l : List UInt8} (h : SlB K w v l) : v.oneCell' = true := by
  obtain ⟨A, c, rfl, _⟩ := h
  rfl
theorem SlI.one {K : Nat → Prop} {w : World} {v : Value} {l : List Int} (h : SlI K w v l) : v.oneCell' = true := by
  obtain ⟨A, c, rfl, _⟩ := h
  rfl
theorem calL_one {C : Cal} {v : Value} (h : v.oneCell' = true) : ∀ x ∈ (calL C v).toArray.toList, x.oneCell' = true := by
  intro x hx
  simp only [calL, List.toList_toArray, List.mem_cons, List.not_mem_nil, or_false] at hx
  rcases hx with rfl | rfl | rfl | rfl | rfl | rfl | rfl | rfl | rfl
  all_goals first | exact h | rfl
theorem repL_one {R : Rep} {v : Value} (h : v.oneCell' = true) : ∀ x ∈ (repL R v).toArray.toList, x.oneCell' = true := by
  intro x hx
  simp only [repL, List.toList_toArray, List.mem_cons, List.not_mem_nil, or_false] at hx
  rcases hx with rfl | rfl | rfl | rfl | rfl | rfl | rfl | rfl | rfl
  all_goals first | exact h | rfl
theorem cliL_one {X : Cli} {vb vc : Value} (h : vb.oneCell' = true) (h2 : vc.oneCell' = true) : ∀ x ∈ (cliL X vb vc).toArray.toList, x.oneCell' = true := by
  intro x hx
  simp only [cliL, List.toList_toArray, List.mem_cons, List.not_mem_nil, or_false] at hx
  rcases hx with rfl | rfl | rfl | rfl | rfl | rfl | rfl | rfl | rfl | rfl | rfl | rfl | rfl | rfl | rfl | rfl | rfl
  all_goals first | exact h | exact h2 | rfl
theorem bytes_ty : SliceTy Try.prog 25 5 1 1 := SliceTy.mk Try.underlying25 (z := .int .u8 0) (by kernel_rfl) rfl
theorem int_ty : SliceTy Try.prog 23 3 1 8 := SliceTy.mk Try.underlying23 (z := .int .i64 0) (by kernel_rfl) rfl
set_option maxHeartbeats 400000 in
theorem bclone_any {K : Nat → Prop} {w : World} {v : Value} {l : List UInt8} (h : SlB K w v l) (hn : l.length ≤ 140737488355328) :
    Calls Try.prog 29 #[v] w fun e w' => (∃ v', e = .returned v' ∧ SlB (fun b => w.heap.size ≤ b) w' v' l) ∧ Below w.heap.size w w' := by
  obtain ⟨A, c, rfl, hA, _⟩ := h
  have hen := fun (w : World) (a : Option Addr) (n c n' c' : Nat) => Lib.run_eql_slice_nil (P := Try.prog) w 25 5 a n c n' c' Try.underlying25
  rcases A with _ | ad
  · obtain rfl : l = [] := by
      rcases Nat.eq_zero_or_pos l.length with h0 | h0
      · exact List.eq_nil_of_length_eq_zero h0
      · obtain ⟨_, h, _⟩ := hA.2 h0; cases h
    go_enter Try.func29, Try.ntmps29
    go_wp2_with fail
    go_ret
    exact ⟨⟨_, rfl, SlB.nil _ _⟩, Below.refl _ _⟩
  · have hown0 : (w.alloc (.cells #[] 5)).ownsRow w.heap.size 5 1 (.slice (some ⟨w.heap.size, 0, none⟩) 0 0) 0 [] := World.ownsRow_made _ _ _ (Nat.le_refl _) (by simp [maxLen]) rfl
    have hA' := Reads.alloc hA (.cells #[] 5)
    have h1 := bv_one l
    generalize hrow : l.map bv = r at hA' h1
    have HR := Lib.hid hrow
    clear hrow hA
    go_enter Try.func29, Try.ntmps29
    go_wp2_with (first
      | (at_builtin; refine app_list bytes_ty rfl (s := .tmp 5) (x := .tmp 6) rfl hown0 rfl hA' rfl h1 (by omega) (by simp) ?_; intro v3 w3 hown3 hg3 _))
    go_ret
    obtain ⟨A3, c3, rfl, q1, q2⟩ := own_slice hown3
    rw [Nat.zero_add] at hown3 q1 ⊢
    rw [List.nil_append, ← HR.out] at hown3
    exact ⟨⟨_, rfl, A3, c3, rfl, own_bytes hown3, q1, by simpa [maxLen] using q2, fun _ ad ea => own_ge hown3 _ (by rw [ea]; rfl)⟩, (below_new _ _).grown hg3 (by simp) (own_ge hown0)⟩
theorem iv_one (xs : List Int) : ∀ u ∈ xs.map iv, u.oneCell' = true := by
  intro u hu
  obtain ⟨c, _, rfl⟩ := List.mem_map.1 hu
  rfl
set_option maxHeartbeats 400000 in
theorem iclone_any {K : Nat → Prop} {w : World} {v : Value} {l : List Int} (h : SlI K w v l) (hn : l.length ≤ 1000000) :
    Calls Try.prog 22 #[v] w fun e w' => (∃ v', e = .returned v' ∧ SlI (fun b => w.heap.size ≤ b) w' v' l) ∧ Below w.heap.size w w' := by
  obtain ⟨A, c, rfl, hA, _⟩ := h
  have hen := fun (w : World) (a : Option Addr) (n c n' c' : Nat) => Lib.run_eql_slice_nil (P := Try.prog) w 23 3 a n c n' c' Try.underlying23
  rcases A with _ | ad
  · obtain rfl : l = [] := by
      rcases Nat.eq_zero_or_pos l.length with h0 | h0
      · exact List.eq_nil_of_length_eq_zero h0
      · obtain ⟨_, h, _⟩ := hA.2 h0; cases h
    go_enter Try.func22, Try.ntmps22
    go_wp2_with fail
    go_ret
    exact ⟨⟨_, rfl, SlI.nil _ _⟩, Below.refl _ _⟩
  · have hown0 : (w.alloc (.cells #[] 3)).ownsRow w.heap.size 3 1 (.slice (some ⟨w.heap.size, 0, none⟩) 0 0) 0 [] := World.ownsRow_made _ _ _ (Nat.le_refl _) (by simp [maxLen]) rfl
    have hA' := Reads.alloc hA (.cells #[] 3)
    have h1 := iv_one l
    generalize hrow : l.map iv = r at hA' h1
    have HR := Lib.hid hrow
    clear hrow hA
    go_enter Try.func22, Try.ntmps22
    go_wp2_with (first
      | (at_builtin; refine app_list int_ty rfl (s := .tmp 5) (x := .tmp 6) rfl hown0 rfl hA' rfl h1 (by omega) (by simp) ?_; intro v3 w3 hown3 hg3 _))
    go_ret
    obtain ⟨A3, c3, rfl, q1, q2⟩ := own_slice hown3
    rw [Nat.zero_add] at hown3 q1 ⊢
    rw [List.nil_append, ← HR.out] at hown3
    exact ⟨⟨_, rfl, A3, c3, rfl, Reads.of_own hown3, q1, by simpa [maxLen] using q2, fun _ ad ea => own_ge hown3 _ (by rw [ea]; rfl)⟩, (below_new _ _).grown hg3 (by simp) (own_ge hown0)⟩
end Go.Proofs.Ytpbaofabflgpkaa
