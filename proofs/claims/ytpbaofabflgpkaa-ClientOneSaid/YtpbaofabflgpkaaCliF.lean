/- A client's calls: ask. -/
import Derived.Test.YtpbaofabflgpkaaCliD
namespace Go.Proofs.Ytpbaofabflgpkaa
set_option linter.unusedVariables false
set_option linter.unusedSimpArgs false
open Go.RowKit

theorem sent_ty : SliceTy Try.prog 39 48 10 96 := SliceTy.mk Try.underlying39 (z := .agg #[.int .i64 0, .int .i64 0, .int .u64 0, .int .u64 0, .int .i64 0, .int .i64 0, .int .i64 0, .int .u64 0, .int .u64 0, .slice none 0 0]) (by kernel_rfl) rfl
theorem exec_build2 {P : Program} {u : World} {E : Operand → Value} {op : Oper} {ty : TypeId} {i j : Nat} {p q : Operand} (ho : op.op = .build ty #[(i, p), (j, q)]) {x y v : Value} (hx : E p = x) (hy : E q = y) (hb : (Instr.build ty #[(i, x), (j, y)]).run P u = .ok v u) :
    (execOp E op).run P u = .ok (.value v) u := by
  unfold execOp
  simp only [ho, Sem.run_bind, List.map_toArray, List.map_cons, List.map_nil, hx, hy, hb, Result.andThen_ok, Sem.run_pure]
theorem build_sent (to : Int) (C : Cal) (v : Value) (w : World) : (Instr.build 48 #[(0, .int .i64 to), (1, .agg (calL C v).toArray)]).run Try.prog w = .ok (.agg (Value.int .i64 to :: calL C v).toArray) w := by kernel_rfl
theorem sent_cells (to : Int) (C : Cal) (v : Value) : List.foldl (fun (cs : Array Value) x => cs.setIfInBounds x.snd x.fst) #[.int .i64 to, .int .i64 0, .int .u64 0, .int .u64 0, .int .i64 0, .int .i64 0, .int .i64 0, .int .u64 0, .int .u64 0, .slice none 0 0] ((calL C v).zipIdx 1) = (Value.int .i64 to :: calL C v).toArray := by
  simp only [calL, List.zipIdx_cons, List.zipIdx_nil, List.foldl_cons, List.foldl_nil, pz0, pz1, pz2]
theorem Reads.blockN (w : World) (t : TypeId) (us : List Value) (n : Nat) (h : us.length = n) : Reads (w.alloc (.cells us.toArray t)) n (some ⟨w.heap.size, 0, none⟩) 1 us := by
  refine ⟨by rw [h, Nat.one_mul], fun _ => ⟨_, rfl, by simp, fun j u hu => ?_⟩⟩
  rw [add_flat]
  have := (Blk.new w t us.toArray).cell (0 + j)
  rw [this]
  simpa using hu
set_option maxRecDepth 100000 in
set_option maxHeartbeats 16000000 in
theorem ask_any {B : Nat} {w : World} {g : Nat} {X : Cli} {now : Nat} (h : Wk B w g X now none) (hg : Good X) (hn : X.call.body.length ≤ 1000000) :
    Calls Try.prog 25 #[.pointer (some ⟨g, 0, none⟩)] w (WkTo B w g { X with since := now } now (sentX X)) := by
  have hP := h.put (i := 16) (u := .int .u64 (now : Int)) (Y := { X with since := now }) (fun vb vc sv => by simp only [wkL, cliL, List.cons_append, List.nil_append, pz0, pz1, pz2]) rfl rfl
  have HP := Lib.hid hP
  obtain ⟨hBg, vb, vc, sv, h2, _, _, _⟩ := h
  have c14 : w.cell? ⟨g, 14, none⟩ = some (.int .i64 (X.at_ : Int)) := (h2.cell 14).trans rfl
  have c16 : w.cell? ⟨g, 16, none⟩ = some (.int .u64 (X.since : Int)) := (h2.cell 16).trans rfl
  have c17 : w.cell? ⟨g, 17, none⟩ = some (.int .u64 (now : Int)) := (h2.cell 17).trans rfl
  have f16 := h2.free 16
  have HG := Lib.hid hg
  have HN := Lib.hid hn
  obtain ⟨g1, g2, g3⟩ := hg
  have d0 : decide ((X.at_ : Int) < 0) = false := decide_eq_false (by omega)
  have d1 : decide ((X.bs.length : Int) ≤ (X.at_ : Int)) = false := decide_eq_false (by omega)
  have d2 : decide (X.bs.length ≤ X.at_) = false := decide_eq_false (by omega)
  have HGL := Lib.hid h2.lt
  obtain ⟨A0, c0, e0, _⟩ := ‹SlI _ w vb X.bs›
  subst e0
  have c3 : w.cell? ⟨g, 3, none⟩ = some (.slice A0 X.bs.length c0) := (h2.cell 3).trans rfl
  clear h2 hP hn g1 g2 g3
  go_enter Try.func25, Try.ntmps25
  go_wp2_with fail
  refine PF.pf_begin (by kernel_rfl) ?_
  refine PF.pf_take0 0 (by kernel_rfl) rfl (fun _ _ _ _ _ h => h) (by kernel_rfl) (fun u => by go_simp; try rfl) ?_
  try simp only [Act.put, pz0, pz1, pz2]
  refine PF.pf_take0 1 (by kernel_rfl) rfl (fun _ _ _ _ _ h => h) (by kernel_rfl) (fun u => by go_simp; try rfl) ?_
  try simp only [Act.put, pz0, pz1, pz2]
  refine PF.pf_take0 2 (by kernel_rfl) rfl (fun _ _ _ _ _ h => h) (by kernel_rfl) (fun u => by go_simp; try rfl) ?_
  try simp only [Act.put, pz0, pz1, pz2]
  refine PF.pf_take0 3 (by kernel_rfl) rfl (fun _ _ _ _ _ h => h) (by kernel_rfl) (fun u => by go_simp; try rfl) ?_
  try simp only [Act.put, pz0, pz1, pz2]
  refine PF.pf_take1 4 (PF.Same (g) _) (by kernel_rfl) rfl (fun _ _ _ _ _ h => h) (by kernel_rfl) (PF.Same.refl _ _) (fun u hu => by have hcu := hu.cell; go_simp; try rfl) ?_
  try simp only [Act.put, pz0, pz1, pz2]
  refine PF.pf_take0 5 (by kernel_rfl) rfl (fun _ _ _ _ _ h => h) (by kernel_rfl) (fun u => by go_simp; try rfl) ?_
  try simp only [Act.put, pz0, pz1, pz2]
  refine PF.pf_take0 6 (by kernel_rfl) rfl (fun _ _ _ _ _ h => h) (by kernel_rfl) (fun u => by go_simp; try rfl) ?_
  try simp only [Act.put, pz0, pz1, pz2]
  refine PF.pf_take0 7 (by kernel_rfl) rfl (fun _ _ _ _ _ h => h) (by kernel_rfl) (fun u => by go_simp; try rfl) ?_
  try simp only [Act.put, pz0, pz1, pz2]
  refine PF.pf_take0 8 (by kernel_rfl) rfl (fun _ _ _ _ _ h => h) (by kernel_rfl) (fun u => by go_simp; try rfl) ?_
  try simp only [Act.put, pz0, pz1, pz2]
  refine PF.pf_take0 9 (by kernel_rfl) rfl (fun _ _ _ _ _ h => h) (by kernel_rfl) (fun u => by go_simp; try rfl) ?_
  try simp only [Act.put, pz0, pz1, pz2]
  refine PF.pf_take0 10 (by kernel_rfl) rfl (fun _ _ _ _ _ h => h) (by kernel_rfl) (fun u => by go_simp; try rfl) ?_
  try simp only [Act.put, pz0, pz1, pz2]
  refine PF.pf_take1 11 (PF.Same (g) _) (by kernel_rfl) rfl (fun _ _ _ _ _ h => h) (by kernel_rfl) (PF.Same.refl _ _) (fun u hu => by have hcu := hu.cell; go_simp; try rfl) ?_
  try simp only [Act.put, pz0, pz1, pz2]
  refine PF.pf_take0 12 (by kernel_rfl) rfl (fun _ _ _ _ _ h => h) (by kernel_rfl) (fun u => by go_simp; try rfl) ?_
  try simp only [Act.put, pz0, pz1, pz2]
  refine PF.pf_take0 13 (by kernel_rfl) rfl (fun _ _ _ _ _ h => h) (by kernel_rfl) (fun u => by go_simp; try rfl) ?_
  try simp only [Act.put, pz0, pz1, pz2]
  refine PF.pf_take0 14 (by kernel_rfl) rfl (fun _ _ _ _ _ h => h) (by kernel_rfl) (fun u => by go_simp; try rfl) ?_
  try simp only [Act.put, pz0, pz1, pz2]
  refine PF.pf_take0 15 (by kernel_rfl) rfl (fun _ _ _ _ _ h => h) (by kernel_rfl) (fun u => by go_simp; try rfl) ?_
  try simp only [Act.put, pz0, pz1, pz2]
  refine PF.pf_take1 16 (PF.Same (g) _) (by kernel_rfl) rfl (fun _ _ _ _ _ h => h) (by kernel_rfl) (PF.Same.refl _ _) (fun u hu => by have hcu := hu.cell; go_simp; try rfl) ?_
  try simp only [Act.put, pz0, pz1, pz2]
  refine PF.pf_take0 17 (by kernel_rfl) rfl (fun _ _ _ _ _ h => h) (by kernel_rfl) (fun u => by go_simp; try rfl) ?_
  try simp only [Act.put, pz0, pz1, pz2]
  refine PF.pf_take0 18 (by kernel_rfl) rfl (fun _ _ _ _ _ h => h) (by kernel_rfl) (fun u => by go_simp; try rfl) ?_
  try simp only [Act.put, pz0, pz1, pz2]
  refine PF.pf_take0 19 (by kernel_rfl) rfl (fun _ _ _ _ _ h => h) (by kernel_rfl) (fun u => by go_simp; try rfl) ?_
  try simp only [Act.put, pz0, pz1, pz2]
  refine PF.pf_done (by kernel_rfl) ?_
  clear d0 d1 d2
  go_wp2_with fail
  clear c14 c16 c17 c3 f16
  have HM0 : Hid (Mod (fun b => b = g) w (w.setCell ⟨g, 16, none⟩ (.int .u64 (now : Int))).drew) := (HP.out.2).trans ((Mod.refl _ _).drew)
  have HP : Hid (Wk B (w.setCell ⟨g, 16, none⟩ (.int .u64 (now : Int))).drew g { X with since := now } now none) := HP.out.1
  obtain ⟨W, hW⟩ : ∃ W, W = (w.setCell ⟨g, 16, none⟩ (.int .u64 (now : Int))).drew := ⟨_, rfl⟩
  rw [← hW] at HP HM0 ⊢
  have HWs : Hid (g < W.heap.size ∧ W.heap.size = w.heap.size) := by
    rw [hW]
    exact ⟨by simpa using HGL.out, by simp⟩
  clear hW
  obtain ⟨_, vb, vc, sv, h2, hvb, hvc, hsv⟩ := HP.out
  obtain rfl : sv = .slice none 0 0 := hsv
  have HB2 := Lib.hid h2
  have HVB := Lib.hid hvb
  have HVC := Lib.hid hvc
  obtain ⟨A, c, rfl, hra, _, _, hak⟩ := id hvb
  obtain ⟨b, o, rfl, hbl, hrc⟩ := Reads.flat hra (by show 0 < X.bs.length; have := HG.out.1; omega) (by decide)
  have hcb := hrc X.at_ (iv (X.bs.getD X.at_ 0)) (by rw [List.getElem?_map, List.getElem?_eq_getElem HG.out.1, List.getD_eq_getElem?_getD, List.getElem?_eq_getElem HG.out.1]; rfl)
  unfold iv at hcb
  have c18 : W.cell? ⟨g, 18, none⟩ = some (.slice none 0 0) := (h2.cell 18).trans rfl
  have c3 : W.cell? ⟨g, 3, none⟩ = some (.slice (some ⟨b, o, none⟩) X.bs.length c) := (h2.cell 3).trans rfl
  have c14 : W.cell? ⟨g, 14, none⟩ = some (.int .i64 (X.at_ : Int)) := (h2.cell 14).trans rfl
  have hal : X.at_ < X.bs.length := HG.out.1
  have HBL := Lib.hid hbl
  clear h2 hvb hvc hra hak hrc hbl
  have HTO : ∃ to, X.bs.getD X.at_ 0 = to := ⟨_, rfl⟩
  obtain ⟨to, HTO⟩ := HTO
  rw [HTO] at hcb
  have HTO := Lib.hid HTO
  refine PF.pf_begin (by kernel_rfl) ?_
  refine PF.pf_take0 0 (by kernel_rfl) rfl (fun _ _ _ _ _ h => h) (by kernel_rfl) (fun u => by go_simp; try rfl) ?_
  try simp only [Act.put, pz0, pz1, pz2]
  refine PF.pf_take0 1 (by kernel_rfl) rfl (fun _ _ _ _ _ h => h) (by kernel_rfl) (fun u => by go_simp; try rfl) ?_
  try simp only [Act.put, pz0, pz1, pz2]
  refine PF.pf_take0 2 (by kernel_rfl) rfl (fun _ _ _ _ _ h => h) (by kernel_rfl) (fun u => by go_simp; try rfl) ?_
  try simp only [Act.put, pz0, pz1, pz2]
  refine PF.pf_take0 3 (by kernel_rfl) rfl (fun _ _ _ _ _ h => h) (by kernel_rfl) (fun u => by go_simp; try rfl) ?_
  try simp only [Act.put, pz0, pz1, pz2]
  refine PF.pf_take1 4 (PF.Same (g) _) (by kernel_rfl) rfl (fun _ _ _ _ _ h => h) (by kernel_rfl) (PF.Same.refl _ _) (fun u hu => by have hcu := hu.cell; go_simp; try rfl) ?_
  try simp only [Act.put, pz0, pz1, pz2]
  refine PF.pf_take0 5 (by kernel_rfl) rfl (fun _ _ _ _ _ h => h) (by kernel_rfl) (fun u => by go_simp; try rfl) ?_
  try simp only [Act.put, pz0, pz1, pz2]
  refine PF.pf_take0 6 (by kernel_rfl) rfl (fun _ _ _ _ _ h => h) (by kernel_rfl) (fun u => by go_simp; try rfl) ?_
  try simp only [Act.put, pz0, pz1, pz2]
  refine PF.pf_take0 7 (by kernel_rfl) rfl (fun _ _ _ _ _ h => h) (by kernel_rfl) (fun u => by go_simp; try rfl) ?_
  try simp only [Act.put, pz0, pz1, pz2]
  refine PF.pf_take0 8 (by kernel_rfl) rfl (fun _ _ _ _ _ h => h) (by kernel_rfl) (fun u => by go_simp; try rfl) ?_
  try simp only [Act.put, pz0, pz1, pz2]
  refine PF.pf_take1 9 (PF.Same (g) _) (by kernel_rfl) rfl (fun _ _ _ _ _ h => h) (by kernel_rfl) (PF.Same.refl _ _) (fun u hu => by have hcu := hu.cell; go_simp; try rfl) ?_
  try simp only [Act.put, pz0, pz1, pz2]
  refine PF.pf_take0 10 (by kernel_rfl) rfl (fun _ _ _ _ _ h => h) (by kernel_rfl) (fun u => by go_simp; try rfl) ?_
  try simp only [Act.put, pz0, pz1, pz2]
  refine PF.pf_take0 11 (by kernel_rfl) rfl (fun _ _ _ _ _ h => h) (by kernel_rfl) (fun u => by go_simp; try rfl) ?_
  try simp only [Act.put, pz0, pz1, pz2]
  refine PF.pf_take0 12 (by kernel_rfl) rfl (fun _ _ _ _ _ h => h) (by kernel_rfl) (fun u => by go_simp; try rfl) ?_
  try simp only [Act.put, pz0, pz1, pz2]
  refine PF.pf_take0 13 (by kernel_rfl) rfl (fun _ _ _ _ _ h => h) (by kernel_rfl) (fun u => by go_simp; try rfl) ?_
  try simp only [Act.put, pz0, pz1, pz2]
  refine PF.pf_take1 14 (PF.Same (g) _) (by kernel_rfl) rfl (fun _ _ _ _ _ h => h) (by kernel_rfl) (PF.Same.refl _ _) (fun u hu => by have hcu := hu.cell; go_simp; try rfl) ?_
  try simp only [Act.put, pz0, pz1, pz2]
  refine PF.pf_take0 15 (by kernel_rfl) rfl (fun _ _ _ _ _ h => h) (by kernel_rfl) (fun u => by go_simp; try rfl) ?_
  try simp only [Act.put, pz0, pz1, pz2]
  refine PF.pf_take1 16 (PF.Same (b) _) (by kernel_rfl) rfl (fun _ _ _ _ _ h => h) (by kernel_rfl) (PF.Same.refl _ _) (fun u hu => by have hcu := hu.cell; go_simp; try rfl) ?_
  try simp only [Act.put, pz0, pz1, pz2]
  refine PF.pf_take0 17 (by kernel_rfl) rfl (fun _ _ _ _ _ h => h) (by kernel_rfl) (fun u => by go_simp; try rfl) ?_
  try simp only [Act.put, pz0, pz1, pz2]
  refine PF.pf_take0 18 (by kernel_rfl) rfl (fun _ _ _ _ _ h => h) (by kernel_rfl) (fun u => by go_simp; try rfl) ?_
  try simp only [Act.put, pz0, pz1, pz2]
  refine PF.pf_take0 19 (by kernel_rfl) rfl (fun _ _ _ _ _ h => h) (by kernel_rfl) (fun u => by go_simp; try rfl) ?_
  try simp only [Act.put, pz0, pz1, pz2]
  refine PF.pf_take0 20 (by kernel_rfl) rfl (fun _ _ _ _ _ h => h) (by kernel_rfl) (fun u => by go_simp; try rfl) ?_
  try simp only [Act.put, pz0, pz1, pz2]
  refine PF.pf_take1 21 (fun u => Blk u g 66 (wkL { X with since := now } (.slice (some ⟨b, o, none⟩) X.bs.length c) vc now (.slice none 0 0)).toArray) (by kernel_rfl) rfl (fun _ _ _ _ _ h => h) (by kernel_rfl) (HB2.out) (fun u hu => by (exact exec_load_rg rfl rfl (show u.rangeAt g 5 (calL X.call vc) from hu.range 5 9) Try.underlying27 rfl (info_call9 rfl))) ?_
  try simp only [Act.put, pz0, pz1, pz2]
  refine PF.pf_exec 22 (by kernel_rfl) rfl (by kernel_rfl) (fun K hK => ?_)
  go_simp
  refine (own_any (C := X.call) (HVC.out.below ((Below.refl _ _).drew)) HN.out).mono ?_
  rintro e w6 ⟨⟨vc', rfl, hvc6⟩, hb6⟩
  have HT6 : Hid (Below W.heap.size W w6) := ((Below.refl W.heap.size W).drew).trans hb6
  have hsg : w6.heap[g]? = W.drew.heap[g]? := hb6.block g HWs.out.1
  have hsb : w6.heap[b]? = W.drew.heap[b]? := hb6.block b HBL.out
  have hsg7 : ∀ o, (w6.alloc o).heap[g]? = W.drew.heap[g]? := fun o => ((below_new w6 o).block g (Nat.lt_of_lt_of_le HWs.out.1 HT6.out.size)).trans hsg
  have HVC6 := Lib.hid hvc6
  have hoc := hvc6.one
  clear hvc6 hb6
  refine hK _ _ (by repeat (first | exact PF.owes_nil | refine PF.owes_left ?_ | refine PF.owes_no (by decide +kernel) ?_ | refine PF.owes_yes (by first | exact hsg | exact hsb) ?_)) ?_
  clear hK K
  try simp only [Act.put, pz0, pz1, pz2]
  refine PF.pf_take0 23 (by kernel_rfl) rfl (fun _ _ _ _ _ h => h) (by kernel_rfl) (fun u => by exact exec_build2 (x := .int .i64 to) (y := .agg (calL X.call vc').toArray) (v := .agg (Value.int .i64 to :: calL X.call vc').toArray) rfl rfl rfl (build_sent to X.call vc' _)) ?_
  try simp only [Act.put, pz0, pz1, pz2]
  refine PF.pf_exec 24 (by kernel_rfl) rfl (by kernel_rfl) (fun K hK => ?_)
  go_simp
  rw [sent_cells]
  change K _ (w6.alloc (.cells (Value.int .i64 to :: calL X.call vc').toArray 48))
  refine hK _ _ (by repeat (first | exact PF.owes_nil | refine PF.owes_left ?_ | refine PF.owes_no (by decide +kernel) ?_ | refine PF.owes_yes (by exact hsg7 _) ?_)) ?_
  clear hK K
  try simp only [Act.put, pz0, pz1, pz2]
  refine PF.pf_exec 25 (by kernel_rfl) rfl (by kernel_rfl) (fun K hK => ?_)
  refine app_wp sent_ty rfl (World.ownsRow_nil _ w6.heap.size _ _) rfl (Reads.blockN w6 48 (Value.int .i64 to :: calL X.call vc') 10 rfl) rfl (by intro u hu; rcases List.mem_cons.1 hu with rfl | hu; exact rfl; exact calL_oneL hoc u hu) (by decide) (by simp) ?_
  intro v8 w8 ho8 hg8 hv8
  obtain ⟨g8, c8, rfl, hg8b, q1, q2⟩ := own_ptr ho8 (by decide)
  have hb68 : Below w6.heap.size w6 w8 := (below_new w6 _).grown hg8 (by simp) (fun k hk => by simp [Value.ownBlock] at hk)
  have HT8 : Hid (Below W.heap.size W w8) := HT6.out.trans (hb68.mono HT6.out.size)
  have HB8 := Lib.hid (HB2.out.below HT8.out HWs.out.1)
  have HR8 := Lib.hid (Reads.of_own ho8)
  have HVC8 := Lib.hid (HVC6.out.below hb68)
  have HQ8 : Hid (w6.heap.size ≤ g8 ∧ 1 ≤ c8 ∧ c8 ≤ 9223372036854775807) := ⟨hg8b, q1, by simpa [maxLen] using q2⟩
  have c18 : w8.cell? ⟨g, 18, none⟩ = some (.slice none 0 0) := (HB8.out.cell 18).trans rfl
  have f18 := HB8.out.free 18
  clear ho8 hg8 hv8 hg8b q1 q2 hb68
  refine hK _ _ (by repeat (first | exact PF.owes_nil | refine PF.owes_left ?_ | refine PF.owes_no (by decide +kernel) ?_ | refine PF.owes_yes (by first | rfl | assumption | go_simp) ?_)) ?_
  clear hK K
  try simp only [Act.put, pz0, pz1, pz2]
  refine PF.pf_take0 26 (by kernel_rfl) rfl (fun _ _ _ _ _ h => h) (by kernel_rfl) (fun u => by go_simp; try rfl) ?_
  try simp only [Act.put, pz0, pz1, pz2]
  refine PF.pf_take0 27 (by kernel_rfl) rfl (fun _ _ _ _ _ h => h) (by kernel_rfl) (fun u => by go_simp; try rfl) ?_
  try simp only [Act.put, pz0, pz1, pz2]
  refine PF.pf_exec 28 (by kernel_rfl) rfl (by kernel_rfl) (fun K hK => ?_)
  go_simp
  refine hK _ _ (by repeat (first | exact PF.owes_nil | refine PF.owes_left ?_ | refine PF.owes_no (by decide +kernel) ?_ | refine PF.owes_yes (by first | rfl | assumption | go_simp) ?_)) ?_
  clear hK K
  try simp only [Act.put, pz0, pz1, pz2]
  refine PF.pf_done (by kernel_rfl) ?_
  go_wp2_with fail
  go_end0
  have hB9 : Blk (w8.setCell ⟨g, 18, none⟩ (.slice (some ⟨g8, 0, none⟩) 1 c8)) g 66 (wkL { X with since := now } (.slice (some ⟨b, o, none⟩) X.bs.length c) vc now (.slice (some ⟨g8, 0, none⟩) 1 c8)).toArray := by
    have h := HB8.out.put 18 (.slice (some ⟨g8, 0, none⟩) 1 c8)
    simp only [wkL, cliL, List.cons_append, List.nil_append, pz0, pz1, pz2] at h ⊢
    exact h
  have hm9 : Mod (fun b => b = g) w8 (w8.setCell ⟨g, 18, none⟩ (.slice (some ⟨g8, 0, none⟩) 1 c8)) := Mod.set (S := fun b => b = g) (Mod.refl _ _) (p := ⟨g, 18, none⟩) (fun _ => rfl) _
  have hlt := HWs.out.1
  have hsz : W.heap.size ≤ w6.heap.size := HT6.out.size
  have hq := HQ8.out
  refine ⟨rfl, ⟨hBg, _, vc, _, hB9, (HVB.out.below HT8.out).mod hm9 fun b h => h.2, (HVC.out.below HT8.out).mod hm9 fun b h => h.2, ?_⟩, (HM0.out.trans (Mod.below (S := fun b => b = g) HT8.out (Nat.le_refl _))).trans hm9⟩
  unfold sentX
  rw [HTO.out]
  refine ⟨g8, c8, vc', rfl, hq.2.1, hq.2.2, reads_mod (by simpa using HR8.out) hm9 fun _ ad ea => (by injection ea with ea; rw [← ea]; show ¬ g8 = g; omega), (HVC8.out.weak (K' := fun b => B ≤ b ∧ b ≠ g) fun b _ h => ?_).mod hm9 fun b h => h.2, ⟨by omega, by omega⟩⟩
  have h : W.heap.size ≤ b := h
  exact ⟨by omega, by omega⟩
end Go.Proofs.Ytpbaofabflgpkaa
