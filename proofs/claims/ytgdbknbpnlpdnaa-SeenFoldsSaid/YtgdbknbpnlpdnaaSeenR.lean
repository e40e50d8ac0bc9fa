/- The walk of the chapter's examples. -/
import Derived.Test.YtgdbknbpnlpdnaaSeenQ
namespace Go.Proofs.Ytgdbknbpnlpdnaa
set_option linter.unusedVariables false
set_option linter.unusedSimpArgs false
open Go.RowKit

theorem mark_lit (p s o : Int) (w : World) : Calls Try.prog 31 #[.int .i64 p, .int .u64 s, .int .u64 o] w fun e w' => e = .returned (.agg #[.int .i64 p, .int .u64 s, .int .u64 o]) ∧ Below w.heap.size w w' := by
  go_enter Try.func31, Try.ntmps31
  go_wp2_with fail
  exact bodyPost_ret (v := .agg #[.int .i64 p, .int .u64 s, .int .u64 o]) (by simp [results, Try.results31, go_sem]) rfl ⟨rfl, below_new _ _⟩
theorem mark_eql (w : World) (a b c a' b' c' : Int) : (binOp .eql 38 (.agg #[.int .i64 a, .int .u64 b, .int .u64 c]) (.agg #[.int .i64 a', .int .u64 b', .int .u64 c'])).run Try.prog w = .ok (.bool (decide (a = a' ∧ b = b' ∧ c = c'))) w := by
  have u3 := Try.underlying3
  have a3 := Try.isAgg3
  have z3 := Try.sizeOf3
  have u27 := Try.underlying27
  have a27 := Try.isAgg27
  have z27 := Try.sizeOf27
  have hS : Try.prog.underlying 38 = some (.struct (Try.prog.fieldsOf 38)) := by kernel_rfl
  have hp : Try.prog.stoodInHeld 38 = false := by kernel_rfl
  rw [run_eql_struct, show (10000 : Nat) = 9999 + 1 from rfl, run_equalIn_agg w 9999 38 _ _ hS hp]
  simp only [Program.fieldsOf, Try.underlying38]
  go_simp
  by_cases h1 : a = a' <;> by_cases h2 : b = b' <;> by_cases h3 : c = c' <;> simp [h1, h2, h3]
def exL : List Mk := [⟨2, 5, 9⟩, ⟨4, 1, 3⟩]
def exM : List Mk := [⟨2, 5, 9⟩, ⟨3, 7, 10⟩, ⟨4, 1, 3⟩]
def exF : List Mk := [⟨2, 9, 22⟩, ⟨4, 2, 20⟩]
def exE : List En := [⟨4, 2, none, 0, 0⟩, ⟨4, 2, none, 0, 0⟩, ⟨2, 9, none, 0, 0⟩]
theorem exA : askOf (lastM exL 2) exL.length 5 = (1, 9) := by decide +kernel
theorem exB : askOf (lastM exL 2) exL.length 4 = (2, 0) := by decide +kernel
theorem exC : askOf (lastM exL 2) exL.length 6 = (0, 0) := by decide +kernel
theorem exAdd : addS exL ⟨3, 7, 10⟩ = some (some exM) := by decide +kernel
theorem exTake : takeS exL 20 exE = some (some exF) := by decide +kernel
theorem exCut : (exL.filter fun m => decide (m.o.toNat < (9 : UInt64).toNat)) = [⟨4, 1, 3⟩] := by decide +kernel
theorem exMay : mayB exL = true := by decide +kernel
theorem exRow : (Mk.row exL).toArray = #[.int .i64 2, .int .u64 5, .int .u64 9, .int .i64 4, .int .u64 1, .int .u64 3] := by kernel_rfl
theorem exRowM : Mk.row exM = [.int .i64 2, .int .u64 5, .int .u64 9, .int .i64 3, .int .u64 7, .int .u64 10, .int .i64 4, .int .u64 1, .int .u64 3] := by kernel_rfl
theorem exRowF : Mk.row exF = [.int .i64 2, .int .u64 9, .int .u64 22, .int .i64 4, .int .u64 2, .int .u64 20] := by kernel_rfl
theorem exRowE : (En.row exE).toArray = #[.int .i64 4, .int .u64 2, .slice none 0 0, .int .i64 4, .int .u64 2, .slice none 0 0, .int .i64 2, .int .u64 9, .slice none 0 0] := by kernel_rfl

set_option maxRecDepth 100000 in
set_option maxHeartbeats 2000000 in
theorem awake_any (w : World) : Calls Try.prog 10 #[] w fun e w' => e = .returned (.bool true) ∧ Below w.heap.size w w' := by
  go_enter Try.func10, Try.ntmps10
  go_wp2_with fail
  refine (mark_lit 2 5 9 _).mono ?_
  rintro e w1 ⟨rfl, hb1⟩
  go_wp2_with fail
  refine (mark_lit 4 1 3 _).mono ?_
  rintro e w2 ⟨rfl, hb2⟩
  have hw2 : Below w.heap.size w w2 := below_call hb1 hb1.size hb2
  clear hb1 hb2
  obtain ⟨w3, hw3e⟩ : ∃ w3 : World, w3 = w2.alloc (.cells #[.int .i64 2, .int .u64 5, .int .u64 9, .int .i64 4, .int .u64 1, .int .u64 3] 38) := ⟨_, rfl⟩
  have hL : Marks w3 (some ⟨w2.heap.size, 0, none⟩) exL := by rw [hw3e]; exact Marks.new _ _ _ _ _ exRow.symm
  have hw3 : Below w.heap.size w w3 := by rw [hw3e]; exact hw2.alloc hw2.size _
  have HW3 := Lib.hid hw3e
  clear hw3e
  go_wp2_with fail
  rw [← HW3.out]
  have h1 := ask_any (some ⟨w2.heap.size, 0, none⟩) 2 exL 2 5 w3 hL (by decide)
  rw [exA] at h1
  refine h1.mono ?_
  clear h1
  rintro e w4 ⟨rfl, hb4⟩
  have hw4 := below_call hw3 hw3.size hb4
  have k4 : Below w3.heap.size w3 w4 := hb4
  rw [show askV (1, 9) = .tuple #[.int .i64 1, .int .u64 9] from rfl]
  go_wp2_with fail
  have h1 := ask_any (some ⟨w2.heap.size, 0, none⟩) 2 exL 2 4 w4 (hL.below k4) (by decide)
  rw [exB] at h1
  refine h1.mono ?_
  clear h1
  rintro e w5 ⟨rfl, hb5⟩
  have hw5 := below_call hw4 hw4.size hb5
  have k5 := below_call k4 k4.size hb5
  rw [show askV (2, 0) = .tuple #[.int .i64 2, .int .u64 0] from rfl]
  go_wp2_with fail
  have h1 := ask_any (some ⟨w2.heap.size, 0, none⟩) 2 exL 2 6 w5 (hL.below k5) (by decide)
  rw [exC] at h1
  refine h1.mono ?_
  clear h1
  rintro e w6 ⟨rfl, hb6⟩
  have hw6 := below_call hw5 hw5.size hb6
  have k6 := below_call k5 k5.size hb6
  rw [show askV (0, 0) = .tuple #[.int .i64 0, .int .u64 0] from rfl]
  go_wp2_with fail
  refine (mark_lit 3 7 10 _).mono ?_
  rintro e w7 ⟨rfl, hb7⟩
  have hw7 := below_call hw6 hw6.size hb7
  have k7 := below_call k6 k6.size hb7
  go_wp2_with fail
  have h1 := add_any (some ⟨w2.heap.size, 0, none⟩) 2 exL ⟨3, 7, 10⟩ w7 (hL.below k7) (by decide)
  rw [exAdd] at h1
  refine h1.mono ?_
  clear h1
  rintro e w8 ⟨⟨v8, rfl, hown8⟩, hb8⟩
  have hw8 := below_call hw7 hw7.size hb8
  have k8 := below_call k7 k7.size hb8
  obtain ⟨g8, c8, rfl, hg8, hl8, _, _⟩ := hown8.ptr (by decide)
  rw [show exM.length = 3 from rfl]
  clear hb4 hb5 hb6 hb7 hb8 k4 k5 k6 k7 hw4 hw5 hw6 hw7
  obtain ⟨w9, hw9e⟩ : ∃ w9 : World, w9 = w8.alloc (.cells #[.int .i64 4, .int .u64 2, .slice none 0 0, .int .i64 4, .int .u64 2, .slice none 0 0, .int .i64 2, .int .u64 9, .slice none 0 0] 30) := ⟨_, rfl⟩
  have hE : Entries w9 (some ⟨w8.heap.size, 0, none⟩) exE := by
    rw [hw9e]; exact Reads.three _ _ _ _ _ (0, 0) exRowE.symm (En.row_len _)
  have hw9 : Below w.heap.size w w9 := by rw [hw9e]; exact hw8.alloc hw8.size _
  have k9 : Below w3.heap.size w3 w9 := by rw [hw9e]; exact k8.alloc k8.size _
  have hown9 : OwnM w9 w7.heap.size (.slice (some ⟨g8, 0, none⟩) exM.length c8) exM := by rw [hw9e]; exact hown8.alloc _
  have HW9 := Lib.hid hw9e
  clear hw9e
  go_wp2_with fail
  rw [← HW9.out]
  have h1 := take_any (some ⟨w2.heap.size, 0, none⟩) 2 exL 20 (some ⟨w8.heap.size, 0, none⟩) 3 exE w9 (hL.below k9) hE (by decide) (by decide)
  rw [exTake] at h1
  refine h1.mono ?_
  clear h1
  rintro e w10 ⟨⟨v10, rfl, hown10⟩, hb10⟩
  have hw10 := below_call hw9 hw9.size hb10
  have k10 := below_call k9 k9.size hb10
  obtain ⟨g10, c10, rfl, hg10, hl10, _, _⟩ := hown10.ptr (by decide)
  rw [show exF.length = 2 from rfl]
  have hownM := hown9.call hb10
  have m0 : w10.cell? ⟨g8, 3, none⟩ = some (.int .i64 3) := (World.ownsRow.cellAt hownM 3 (by decide)).trans (by rw [exRowM]; rfl)
  have m1 : w10.cell? ⟨g8, 4, none⟩ = some (.int .u64 7) := (World.ownsRow.cellAt hownM 4 (by decide)).trans (by rw [exRowM]; rfl)
  have m2 : w10.cell? ⟨g8, 5, none⟩ = some (.int .u64 10) := (World.ownsRow.cellAt hownM 5 (by decide)).trans (by rw [exRowM]; rfl)
  have f0 : w10.cell? ⟨g10, 0, none⟩ = some (.int .i64 2) := (World.ownsRow.cellAt hown10 0 (by decide)).trans (by rw [exRowF]; rfl)
  have f1 : w10.cell? ⟨g10, 1, none⟩ = some (.int .u64 9) := (World.ownsRow.cellAt hown10 1 (by decide)).trans (by rw [exRowF]; rfl)
  have f2 : w10.cell? ⟨g10, 2, none⟩ = some (.int .u64 22) := (World.ownsRow.cellAt hown10 2 (by decide)).trans (by rw [exRowF]; rfl)
  have f3 : w10.cell? ⟨g10, 3, none⟩ = some (.int .i64 4) := (World.ownsRow.cellAt hown10 3 (by decide)).trans (by rw [exRowF]; rfl)
  have f4 : w10.cell? ⟨g10, 4, none⟩ = some (.int .u64 2) := (World.ownsRow.cellAt hown10 4 (by decide)).trans (by rw [exRowF]; rfl)
  have f5 : w10.cell? ⟨g10, 5, none⟩ = some (.int .u64 20) := (World.ownsRow.cellAt hown10 5 (by decide)).trans (by rw [exRowF]; rfl)
  have hgl8 : g8 < w10.heap.size := (World.ownsRow.lt hownM g8 rfl).2
  have hgl10 : g10 < w10.heap.size := (World.ownsRow.lt hown10 g10 rfl).2
  clear hb10 hown8 hown9 hown10 hownM hw8 hw9 k8 k9 hE HW9 HW3 hl8 hl10
  have hel := mark_eql
  have hgd := mark_guard
  go_wp2_with fail
  refine PF.pf_begin (by kernel_rfl) ?_
  refine PF.pf_take0 0 (by kernel_rfl) rfl (fun _ _ _ _ _ h => h) (by kernel_rfl) (fun u => by go_simp; try rfl) ?_
  try simp only [Act.put, pz0, pz1, pz2]
  refine PF.pf_take0 1 (by kernel_rfl) rfl (fun _ _ _ _ _ h => h) (by kernel_rfl) (fun u => by go_simp; try rfl) ?_
  try simp only [Act.put, pz0, pz1, pz2]
  refine PF.pf_take0 2 (by kernel_rfl) rfl (fun _ _ _ _ _ h => h) (by kernel_rfl) (fun u => by go_simp; try rfl) ?_
  try simp only [Act.put, pz0, pz1, pz2]
  refine PF.pf_take0 3 (by kernel_rfl) rfl (fun _ _ _ _ _ h => h) (by kernel_rfl) (fun u => by go_simp; try rfl) ?_
  try simp only [Act.put, pz0, pz1, pz2]
  refine PF.pf_take0 4 (by kernel_rfl) rfl (fun _ _ _ _ _ h => h) (by kernel_rfl) (fun u => by go_simp; try rfl) ?_
  try simp only [Act.put, pz0, pz1, pz2]
  refine PF.pf_take0 5 (by kernel_rfl) rfl (fun _ _ _ _ _ h => h) (by kernel_rfl) (fun u => by go_simp; try rfl) ?_
  try simp only [Act.put, pz0, pz1, pz2]
  refine PF.pf_take0 6 (by kernel_rfl) rfl (fun _ _ _ _ _ h => h) (by kernel_rfl) (fun u => by go_simp; try rfl) ?_
  try simp only [Act.put, pz0, pz1, pz2]
  refine PF.pf_take0 7 (by kernel_rfl) rfl (fun _ _ _ _ _ h => h) (by kernel_rfl) (fun u => by go_simp; try rfl) ?_
  try simp only [Act.put, pz0, pz1, pz2]
  refine PF.pf_take0 8 (by kernel_rfl) rfl (fun _ _ _ _ _ h => h) (by kernel_rfl) (fun u => by go_simp; try rfl) ?_
  try simp only [Act.put, pz0, pz1, pz2]
  refine PF.pf_take0 9 (by kernel_rfl) rfl (fun _ _ _ _ _ h => h) (by kernel_rfl) (fun u => by go_simp; try rfl) ?_
  try simp only [Act.put, pz0, pz1, pz2]
  refine PF.pf_take0 10 (by kernel_rfl) rfl (fun _ _ _ _ _ h => h) (by kernel_rfl) (fun u => by go_simp; try rfl) ?_
  try simp only [Act.put, pz0, pz1, pz2]
  refine PF.pf_take0 11 (by kernel_rfl) rfl (fun _ _ _ _ _ h => h) (by kernel_rfl) (fun u => by go_simp; try rfl) ?_
  try simp only [Act.put, pz0, pz1, pz2]
  refine PF.pf_take0 12 (by kernel_rfl) rfl (fun _ _ _ _ _ h => h) (by kernel_rfl) (fun u => by go_simp; try rfl) ?_
  try simp only [Act.put, pz0, pz1, pz2]
  refine PF.pf_take0 13 (by kernel_rfl) rfl (fun _ _ _ _ _ h => h) (by kernel_rfl) (fun u => by go_simp; try rfl) ?_
  try simp only [Act.put, pz0, pz1, pz2]
  refine PF.pf_take0 14 (by kernel_rfl) rfl (fun _ _ _ _ _ h => h) (by kernel_rfl) (fun u => by go_simp; try rfl) ?_
  try simp only [Act.put, pz0, pz1, pz2]
  refine PF.pf_take0 15 (by kernel_rfl) rfl (fun _ _ _ _ _ h => h) (by kernel_rfl) (fun u => by go_simp; try rfl) ?_
  try simp only [Act.put, pz0, pz1, pz2]
  refine PF.pf_take0 16 (by kernel_rfl) rfl (fun _ _ _ _ _ h => h) (by kernel_rfl) (fun u => by go_simp; try rfl) ?_
  try simp only [Act.put, pz0, pz1, pz2]
  refine PF.pf_take0 17 (by kernel_rfl) rfl (fun _ _ _ _ _ h => h) (by kernel_rfl) (fun u => by go_simp; try rfl) ?_
  try simp only [Act.put, pz0, pz1, pz2]
  refine PF.pf_take0 18 (by kernel_rfl) rfl (fun _ _ _ _ _ h => h) (by kernel_rfl) (fun u => by go_simp; try rfl) ?_
  try simp only [Act.put, pz0, pz1, pz2]
  refine PF.pf_take0 19 (by kernel_rfl) rfl (fun _ _ _ _ _ h => h) (by kernel_rfl) (fun u => by go_simp; try rfl) ?_
  try simp only [Act.put, pz0, pz1, pz2]
  refine PF.pf_take0 20 (by kernel_rfl) rfl (fun _ _ _ _ _ h => h) (by kernel_rfl) (fun u => by go_simp; try rfl) ?_
  try simp only [Act.put, pz0, pz1, pz2]
  refine PF.pf_take1 21 (PF.Same (g8) _) (by kernel_rfl) rfl (fun _ _ _ _ _ h => h) (by kernel_rfl) (PF.Same.refl _ _) (fun u hu => by have hcu := hu.cell; go_simp; try rfl) ?_
  try simp only [Act.put, pz0, pz1, pz2]
  refine PF.pf_exec 22 (by kernel_rfl) rfl (by kernel_rfl) (fun K hK => ?_)
  go_simp
  refine (mark_lit 3 7 10 _).mono ?_; rintro e w11 ⟨rfl, hb11⟩; have hw11 : Below w.heap.size w w11 := below_call hw10.drew hw10.size hb11; have k11 : Below w3.heap.size w3 w11 := below_call k10.drew k10.size hb11; have hs11 : w10.heap.size ≤ w11.heap.size := hb11.size; replace f0 := (hb11.cell (p := ⟨g10, 0, none⟩) hgl10).trans f0; replace f1 := (hb11.cell (p := ⟨g10, 1, none⟩) hgl10).trans f1; replace f2 := (hb11.cell (p := ⟨g10, 2, none⟩) hgl10).trans f2; replace f3 := (hb11.cell (p := ⟨g10, 3, none⟩) hgl10).trans f3; replace f4 := (hb11.cell (p := ⟨g10, 4, none⟩) hgl10).trans f4; replace f5 := (hb11.cell (p := ⟨g10, 5, none⟩) hgl10).trans f5
  refine hK _ _ (by repeat (first | exact PF.owes_nil | refine PF.owes_left ?_ | refine PF.owes_no (by decide +kernel) ?_ | refine PF.owes_yes (by exact hb11.block g8 hgl8) ?_)) ?_
  clear hK K
  try simp only [Act.put, pz0, pz1, pz2]
  refine PF.pf_take0 23 (by kernel_rfl) rfl (fun _ _ _ _ _ h => h) (by kernel_rfl) (fun u => by go_simp; try rfl) ?_
  try simp only [Act.put, pz0, pz1, pz2]
  refine PF.pf_take0 24 (by kernel_rfl) rfl (fun _ _ _ _ _ h => h) (by kernel_rfl) (fun u => by go_simp; try rfl) ?_
  try simp only [Act.put, pz0, pz1, pz2]
  refine PF.pf_take0 25 (by kernel_rfl) rfl (fun _ _ _ _ _ h => h) (by kernel_rfl) (fun u => by go_simp; try rfl) ?_
  try simp only [Act.put, pz0, pz1, pz2]
  refine PF.pf_take0 26 (by kernel_rfl) rfl (fun _ _ _ _ _ h => h) (by kernel_rfl) (fun u => by go_simp; try rfl) ?_
  try simp only [Act.put, pz0, pz1, pz2]
  refine PF.pf_take0 27 (by kernel_rfl) rfl (fun _ _ _ _ _ h => h) (by kernel_rfl) (fun u => by go_simp; try rfl) ?_
  try simp only [Act.put, pz0, pz1, pz2]
  refine PF.pf_take0 28 (by kernel_rfl) rfl (fun _ _ _ _ _ h => h) (by kernel_rfl) (fun u => by go_simp; try rfl) ?_
  try simp only [Act.put, pz0, pz1, pz2]
  refine PF.pf_take0 29 (by kernel_rfl) rfl (fun _ _ _ _ _ h => h) (by kernel_rfl) (fun u => by go_simp; try rfl) ?_
  try simp only [Act.put, pz0, pz1, pz2]
  refine PF.pf_take0 30 (by kernel_rfl) rfl (fun _ _ _ _ _ h => h) (by kernel_rfl) (fun u => by go_simp; try rfl) ?_
  try simp only [Act.put, pz0, pz1, pz2]
  refine PF.pf_take0 31 (by kernel_rfl) rfl (fun _ _ _ _ _ h => h) (by kernel_rfl) (fun u => by go_simp; try rfl) ?_
  try simp only [Act.put, pz0, pz1, pz2]
  refine PF.pf_take1 32 (PF.Same (g10) _) (by kernel_rfl) rfl (fun _ _ _ _ _ h => h) (by kernel_rfl) (PF.Same.refl _ _) (fun u hu => by have hcu := hu.cell; go_simp; try rfl) ?_
  try simp only [Act.put, pz0, pz1, pz2]
  refine PF.pf_exec 33 (by kernel_rfl) rfl (by kernel_rfl) (fun K hK => ?_)
  go_simp
  refine (mark_lit 2 9 22 _).mono ?_; rintro e w12 ⟨rfl, hb12⟩; have hgl11 : g10 < w11.heap.size := (by omega); have hw12 : Below w.heap.size w w12 := below_call hw11 hw11.size hb12; have k12 : Below w3.heap.size w3 w12 := below_call k11 k11.size hb12; have hs12 : w11.heap.size ≤ w12.heap.size := hb12.size; replace f3 := (hb12.cell (p := ⟨g10, 3, none⟩) hgl11).trans f3; replace f4 := (hb12.cell (p := ⟨g10, 4, none⟩) hgl11).trans f4; replace f5 := (hb12.cell (p := ⟨g10, 5, none⟩) hgl11).trans f5
  refine hK _ _ (by repeat (first | exact PF.owes_nil | refine PF.owes_left ?_ | refine PF.owes_no (by decide +kernel) ?_ | refine PF.owes_yes (by exact hb12.block g10 hgl11) ?_)) ?_
  clear hK K
  try simp only [Act.put, pz0, pz1, pz2]
  refine PF.pf_take0 34 (by kernel_rfl) rfl (fun _ _ _ _ _ h => h) (by kernel_rfl) (fun u => by go_simp; try rfl) ?_
  try simp only [Act.put, pz0, pz1, pz2]
  refine PF.pf_take0 35 (by kernel_rfl) rfl (fun _ _ _ _ _ h => h) (by kernel_rfl) (fun u => by go_simp; try rfl) ?_
  try simp only [Act.put, pz0, pz1, pz2]
  refine PF.pf_take0 36 (by kernel_rfl) rfl (fun _ _ _ _ _ h => h) (by kernel_rfl) (fun u => by go_simp; try rfl) ?_
  try simp only [Act.put, pz0, pz1, pz2]
  refine PF.pf_take0 37 (by kernel_rfl) rfl (fun _ _ _ _ _ h => h) (by kernel_rfl) (fun u => by go_simp; try rfl) ?_
  try simp only [Act.put, pz0, pz1, pz2]
  refine PF.pf_take0 38 (by kernel_rfl) rfl (fun _ _ _ _ _ h => h) (by kernel_rfl) (fun u => by go_simp; try rfl) ?_
  try simp only [Act.put, pz0, pz1, pz2]
  refine PF.pf_take1 39 (PF.Same (g10) _) (by kernel_rfl) rfl (fun _ _ _ _ _ h => h) (by kernel_rfl) (PF.Same.refl _ _) (fun u hu => by have hcu := hu.cell; go_simp; try rfl) ?_
  try simp only [Act.put, pz0, pz1, pz2]
  refine PF.pf_exec 40 (by kernel_rfl) rfl (by kernel_rfl) (fun K hK => ?_)
  go_simp
  refine (mark_lit 4 2 20 _).mono ?_; rintro e w13 ⟨rfl, hb13⟩; have hgl12 : g10 < w12.heap.size := (by omega); have hw13 : Below w.heap.size w w13 := below_call hw12 hw12.size hb13; have k13 : Below w3.heap.size w3 w13 := below_call k12 k12.size hb13
  refine hK _ _ (by repeat (first | exact PF.owes_nil | refine PF.owes_left ?_ | refine PF.owes_no (by decide +kernel) ?_ | refine PF.owes_yes (by exact hb13.block g10 hgl12) ?_)) ?_
  clear hK K
  try simp only [Act.put, pz0, pz1, pz2]
  refine PF.pf_take0 41 (by kernel_rfl) rfl (fun _ _ _ _ _ h => h) (by kernel_rfl) (fun u => by go_simp; try rfl) ?_
  try simp only [Act.put, pz0, pz1, pz2]
  refine PF.pf_take0 42 (by kernel_rfl) rfl (fun _ _ _ _ _ h => h) (by kernel_rfl) (fun u => by go_simp; try rfl) ?_
  try simp only [Act.put, pz0, pz1, pz2]
  refine PF.pf_take0 43 (by kernel_rfl) rfl (fun _ _ _ _ _ h => h) (by kernel_rfl) (fun u => by go_simp; try rfl) ?_
  try simp only [Act.put, pz0, pz1, pz2]
  refine PF.pf_take0 44 (by kernel_rfl) rfl (fun _ _ _ _ _ h => h) (by kernel_rfl) (fun u => by go_simp; try rfl) ?_
  try simp only [Act.put, pz0, pz1, pz2]
  refine PF.pf_exec 45 (by kernel_rfl) rfl (by kernel_rfl) (fun K hK => ?_)
  go_simp
  have h1 := cut_any (some ⟨w2.heap.size, 0, none⟩) 2 exL 9 w13 (hL.below k13) (by decide); rw [exCut] at h1; refine h1.mono ?_; clear h1; rintro e w14 ⟨⟨v14, rfl, hown14⟩, hb14⟩; obtain ⟨A14, c14, rfl, _, _⟩ := hown14.form; have hw14 : Below w.heap.size w w14 := below_call hw13 hw13.size hb14; have k14 : Below w3.heap.size w3 w14 := below_call k13 k13.size hb14
  refine hK _ _ (by repeat (first | exact PF.owes_nil | refine PF.owes_left ?_ | refine PF.owes_no (by decide +kernel) ?_ | refine PF.owes_yes (by first | rfl | assumption | go_simp) ?_)) ?_
  clear hK K
  try simp only [Act.put, pz0, pz1, pz2]
  refine PF.pf_take0 46 (by kernel_rfl) rfl (fun _ _ _ _ _ h => h) (by kernel_rfl) (fun u => by go_simp; try rfl) ?_
  try simp only [Act.put, pz0, pz1, pz2]
  refine PF.pf_take0 47 (by kernel_rfl) rfl (fun _ _ _ _ _ h => h) (by kernel_rfl) (fun u => by go_simp; try rfl) ?_
  try simp only [Act.put, pz0, pz1, pz2]
  refine PF.pf_take0 48 (by kernel_rfl) rfl (fun _ _ _ _ _ h => h) (by kernel_rfl) (fun u => by go_simp; try rfl) ?_
  try simp only [Act.put, pz0, pz1, pz2]
  refine PF.pf_take0 49 (by kernel_rfl) rfl (fun _ _ _ _ _ h => h) (by kernel_rfl) (fun u => by go_simp; try rfl) ?_
  try simp only [Act.put, pz0, pz1, pz2]
  refine PF.pf_take0 50 (by kernel_rfl) rfl (fun _ _ _ _ _ h => h) (by kernel_rfl) (fun u => by go_simp; try rfl) ?_
  try simp only [Act.put, pz0, pz1, pz2]
  refine PF.pf_exec 51 (by kernel_rfl) rfl (by kernel_rfl) (fun K hK => ?_)
  go_simp
  have h1 := seenmay_any (some ⟨w2.heap.size, 0, none⟩) 2 exL w14 (hL.below k14) (by decide); rw [exMay] at h1; refine h1.mono ?_; clear h1; rintro e w15 ⟨rfl, hb15⟩; have hw15 : Below w.heap.size w w15 := below_call hw14 hw14.size hb15
  refine hK _ _ (by repeat (first | exact PF.owes_nil | refine PF.owes_left ?_ | refine PF.owes_no (by decide +kernel) ?_ | refine PF.owes_yes (by first | rfl | assumption | go_simp) ?_)) ?_
  clear hK K
  try simp only [Act.put, pz0, pz1, pz2]
  refine PF.pf_take0 52 (by kernel_rfl) rfl (fun _ _ _ _ _ h => h) (by kernel_rfl) (fun u => by go_simp; try rfl) ?_
  try simp only [Act.put, pz0, pz1, pz2]
  refine PF.pf_take0 53 (by kernel_rfl) rfl (fun _ _ _ _ _ h => h) (by kernel_rfl) (fun u => by go_simp; try rfl) ?_
  try simp only [Act.put, pz0, pz1, pz2]
  refine PF.pf_done (by kernel_rfl) ?_
  go_wp2_with fail
  go_ret
  exact ⟨rfl, hw15⟩
end Go.Proofs.Ytgdbknbpnlpdnaa
