/- Joined texts: WireX3, WireX4, WireX5, WireX6, WireX7. -/
import Derived.Test.YtdckdjkkaangmaaDoorWireX2
import Derived.Test.YtdckdjkkaangmaaDoorJF
/- The document's row of a packet. -/
namespace Go.Proofs.YtdckdjkkaangmaaDoor
set_option linter.unusedVariables false
set_option linter.unusedSimpArgs false
set_option maxRecDepth 100000
open Go.RowKit

/-- A field as the row has it. -/
def fldU (n : Nat → Int) (f : Fd) : Value := match f.1 with | true => .int .u64 (n f.2) | false => .int .u64 (IntKind.u64.wrap (n f.2))
def fldI (n : Nat → Int) (f : Fd) : Value := .int .i64 (n f.2)
/-- The rows that the document makes. -/
def DRow (us vs : List Value) (tx kp : Value) (e : Ending) (w' : World) : Prop :=
  ∃ ga gb, e = .returned (.tuple #[.slice (some ⟨ga, 0, none⟩) us.length us.length, .slice (some ⟨gb, 0, none⟩) vs.length vs.length, tx, kp]) ∧ Reads w' 1 (some ⟨ga, 0, none⟩) us.length us ∧ Reads w' 1 (some ⟨gb, 0, none⟩) vs.length vs
theorem Reads.block' (w : World) (t t2 : TypeId) (o : Array Value) (us : List Value) : Reads ((w.alloc (.cells o t2)).alloc (.cells us.toArray t)) 1 (some ⟨w.heap.size + 1, 0, none⟩) us.length us := by
  have h := Reads.block (w.alloc (.cells o t2)) t us
  rw [alloc_size] at h
  exact h
theorem DRow.one {us vs : List Value} {tx kp : Value} (w : World) (t t2 : TypeId) : DRow us vs tx kp (.returned (.tuple #[.slice (some ⟨w.heap.size, 0, none⟩) us.length us.length, .slice (some ⟨w.heap.size + 1, 0, none⟩) vs.length vs.length, tx, kp])) (((w.alloc (.cells us.toArray t)).alloc (.cells vs.toArray t2)).drew) :=
  ⟨_, _, rfl, ((Reads.block w t us).alloc _).drew, (Reads.block' w t2 t us.toArray vs).drew⟩
theorem DRow.two {us vs : List Value} {tx kp : Value} (w : World) (t t2 : TypeId) : DRow us vs tx kp (.returned (.tuple #[.slice (some ⟨w.heap.size + 1, 0, none⟩) us.length us.length, .slice (some ⟨w.heap.size, 0, none⟩) vs.length vs.length, tx, kp])) (((w.alloc (.cells vs.toArray t2)).alloc (.cells us.toArray t)).drew) :=
  ⟨_, _, rfl, (Reads.block' w t t2 vs.toArray us).drew, ((Reads.block w t2 vs).alloc _).drew⟩
theorem results_tmp4 {fn : Func} {t u v x : Tmp} (h : fn.results = #[.tmp t, .tmp u, .tmp v, .tmp x]) (tmps : Array Value) (P : Program) (w : World) :
    (results fn tmps).run P w = .ok (.tuple #[tmps.getD t undef, tmps.getD u undef, tmps.getD v undef, tmps.getD x undef]) w := by
  simp [results, h]
theorem rng_get {cs : Array Value} {o n j : Nat} (hj : j < n) : (rng cs o n).toArray[j]? = cs[o + j]? := by
  unfold rng
  rw [List.getElem?_toArray, List.getElem?_take, if_pos hj, List.getElem?_drop]
  simp
theorem zero_ask (w : World) : (zeroValue 28).run Tryd.prog w = .ok (.agg #[.int .i64 0, .int .i64 0, .int .u64 0, .int .i64 0, .int .u64 0, .slice none 0 0]) w := (zero_of_info (n := 6) (by kernel_rfl)).1 w
set_option maxRecDepth 100000 in
set_option maxHeartbeats 16000000 in
theorem drow_ask {w : World} {cs : Array Value} {P : Pk} (hP : PkV w cs P) (hk : P.n 0 = 1) {A : Option Addr} {c : Nat} (htx : cs[6]? = some (.slice A (P.t 6).length c)) :
    Calls Tryd.prog 47 #[.agg cs] w fun e w' => DRow ((schema 1).map (fldU P.n)) (((schema 1).filter fun f => !f.1).map (fldI P.n)) (.slice A (P.t 6).length c) (.slice none 0 0) e w' ∧ Below w.heap.size w w' := by
  have hB1 : Blk (w.alloc (.cells cs 44)) w.heap.size 44 cs := Blk.new _ _ _
  have hb1 := below_new w (.cells cs 44)
  have hs1 : (w.alloc (.cells cs 44)).heap.size = w.heap.size + 1 := by simp
  have HA1 := Lib.hid hB1
  have HB1 := Lib.hid hb1
  have HS1 := Lib.hid hs1
  have HP := Lib.hid hP
  have HTX := Lib.hid htx
  have HZ := Lib.hid (rng_len hP.size (o := 1) (n := 6) (by omega))
  have HI : Hid ((Tryd.prog.info? 28).map (·.size) = some (rng cs 1 6).length) := (by show _ = _; rw [HZ.out]; kernel_rfl)
  have HO : Hid (∀ v ∈ (rng cs 1 6).toArray.toList, v.oneCell' = true) := fun v hv => hP.one v (List.mem_of_mem_drop (List.mem_of_mem_take (show v ∈ (cs.toList.drop 1).take 6 from hv)))
  have HR : Hid ((w.alloc (.cells cs 44)).rangeAt w.heap.size 1 (rng cs 1 6)) := hB1.range 1 6
  have z0 := (hB1.cell 0).trans hP.kind.1
  rw [hk] at z0
  clear hB1 hb1 hs1 hP hk htx
  go_enter Tryd.func47, Tryd.ntmps47
  go_wp2_with (refine wpList_load_rg rfl (ty := 28) rfl rfl HR.out Tryd.underlying28 rfl HI.out ?_; refine Hid.out ?_)
  refine Lib.hid ?_
  clear z0
  go_wp2_with (refine wpList_alloc_blk rfl rfl zero_ask ?_; rintro g w2 hg hB2 hb2; refine Hid.out ?_)
  refine Lib.hid ?_
  go_wp2_with (refine wpList_store_blk rfl rfl rfl rfl hB2 (by show 6 = (rng cs 1 6).toArray.size; rw [List.size_toArray, HZ.out]) (by rw [List.size_toArray]; exact HI.out) HO.out ?_; rintro w3 hB3 hm3; refine Hid.out ?_)
  refine Lib.hid ?_
  have hg3 := hB3.lt
  have HB3 : Hid (Below w.heap.size w w3) := (HB1.out.trans (hb2.mono HB1.out.size)).trans (hm3.to_below (by have := hb2.size; have := HS1.out; omega) fun b hb e => by have := HS1.out; omega)
  have q0 := (hB3.cell 0).trans ((rng_get (by omega)).trans (HP.out.ints 1 (by decide)).1)
  have q1 := (hB3.cell 1).trans ((rng_get (by omega)).trans (HP.out.ints 2 (by decide)).1)
  have q2 := (hB3.cell 2).trans ((rng_get (by omega)).trans (HP.out.nums 3 (by decide)).1)
  have q3 := (hB3.cell 3).trans ((rng_get (by omega)).trans (HP.out.ints 4 (by decide)).1)
  have q4 := (hB3.cell 4).trans ((rng_get (by omega)).trans (HP.out.nums 5 (by decide)).1)
  have q5 := (hB3.cell 5).trans ((rng_get (by omega)).trans HTX.out)
  have HUS : Hid ((schema 1).map (fldU P.n) = [.int .u64 (IntKind.u64.wrap (P.n 1)), .int .u64 (IntKind.u64.wrap (P.n 2)), .int .u64 (P.n 3), .int .u64 (IntKind.u64.wrap (P.n 4)), .int .u64 (P.n 5)]) := rfl
  have HVS : Hid (((schema 1).filter fun f => !f.1).map (fldI P.n) = [.int .i64 (P.n 1), .int .i64 (P.n 2), .int .i64 (P.n 4)]) := rfl
  have HBE : Hid (∀ o o', Below w.heap.size w ((w3.alloc o).alloc o').drew) := fun o o' => ((HB3.out.alloc HB3.out.size _).alloc (by rw [alloc_size]; have := HB3.out.size; omega) _).drew
  clear hB2 hb2 hg hm3 hB3
  go_wp2_with fail
  refine PF.pf_begin (by kernel_rfl) ?_
  refine PF.pf_take0 0 (by kernel_rfl) rfl (fun _ _ _ _ _ h => h) (by kernel_rfl) (fun u => by go_simp; try rfl) ?_
  try simp only [Act.put, pz0, pz1, pz2]
  refine PF.pf_take1 1 (PF.Same (g) _) (by kernel_rfl) rfl (fun _ _ _ _ _ h => h) (by kernel_rfl) (PF.Same.refl _ _) (fun u hu => by have hcu := hu.cell; go_simp; try rfl) ?_
  try simp only [Act.put, pz0, pz1, pz2]
  refine PF.pf_take0 2 (by kernel_rfl) rfl (fun _ _ _ _ _ h => h) (by kernel_rfl) (fun u => by go_simp; try rfl) ?_
  try simp only [Act.put, pz0, pz1, pz2]
  refine PF.pf_take0 3 (by kernel_rfl) rfl (fun _ _ _ _ _ h => h) (by kernel_rfl) (fun u => by go_simp; try rfl) ?_
  try simp only [Act.put, pz0, pz1, pz2]
  refine PF.pf_take1 4 (PF.Same (g) _) (by kernel_rfl) rfl (fun _ _ _ _ _ h => h) (by kernel_rfl) (PF.Same.refl _ _) (fun u hu => by have hcu := hu.cell; go_simp; try rfl) ?_
  try simp only [Act.put, pz0, pz1, pz2]
  refine PF.pf_take0 5 (by kernel_rfl) rfl (fun _ _ _ _ _ h => h) (by kernel_rfl) (fun u => by go_simp; try rfl) ?_
  try simp only [Act.put, pz0, pz1, pz2]
  refine PF.pf_take0 6 (by kernel_rfl) rfl (fun _ _ _ _ _ h => h) (by kernel_rfl) (fun u => by go_simp; try rfl) ?_
  try simp only [Act.put, pz0, pz1, pz2]
  refine PF.pf_take0 7 (by kernel_rfl) rfl (fun _ _ _ _ _ h => h) (by kernel_rfl) (fun u => by go_simp; try rfl) ?_
  try simp only [Act.put, pz0, pz1, pz2]
  refine PF.pf_take1 8 (PF.Same (g) _) (by kernel_rfl) rfl (fun _ _ _ _ _ h => h) (by kernel_rfl) (PF.Same.refl _ _) (fun u hu => by have hcu := hu.cell; go_simp; try rfl) ?_
  try simp only [Act.put, pz0, pz1, pz2]
  refine PF.pf_take0 9 (by kernel_rfl) rfl (fun _ _ _ _ _ h => h) (by kernel_rfl) (fun u => by go_simp; try rfl) ?_
  try simp only [Act.put, pz0, pz1, pz2]
  refine PF.pf_take0 10 (by kernel_rfl) rfl (fun _ _ _ _ _ h => h) (by kernel_rfl) (fun u => by go_simp; try rfl) ?_
  try simp only [Act.put, pz0, pz1, pz2]
  refine PF.pf_take1 11 (PF.Same (g) _) (by kernel_rfl) rfl (fun _ _ _ _ _ h => h) (by kernel_rfl) (PF.Same.refl _ _) (fun u hu => by have hcu := hu.cell; go_simp; try rfl) ?_
  try simp only [Act.put, pz0, pz1, pz2]
  refine PF.pf_take0 12 (by kernel_rfl) rfl (fun _ _ _ _ _ h => h) (by kernel_rfl) (fun u => by go_simp; try rfl) ?_
  try simp only [Act.put, pz0, pz1, pz2]
  refine PF.pf_take0 13 (by kernel_rfl) rfl (fun _ _ _ _ _ h => h) (by kernel_rfl) (fun u => by go_simp; try rfl) ?_
  try simp only [Act.put, pz0, pz1, pz2]
  refine PF.pf_take0 14 (by kernel_rfl) rfl (fun _ _ _ _ _ h => h) (by kernel_rfl) (fun u => by go_simp; try rfl) ?_
  try simp only [Act.put, pz0, pz1, pz2]
  refine PF.pf_take1 15 (PF.Same (g) _) (by kernel_rfl) rfl (fun _ _ _ _ _ h => h) (by kernel_rfl) (PF.Same.refl _ _) (fun u hu => by have hcu := hu.cell; go_simp; try rfl) ?_
  try simp only [Act.put, pz0, pz1, pz2]
  refine PF.pf_take0 17 (by kernel_rfl) rfl (fun _ _ _ _ _ h => h) (by kernel_rfl) (fun u => by go_simp; try rfl) ?_
  try simp only [Act.put, pz0, pz1, pz2]
  refine PF.pf_take1 18 (PF.Same (g) _) (by kernel_rfl) rfl (fun _ _ _ _ _ h => h) (by kernel_rfl) (PF.Same.refl _ _) (fun u hu => by have hcu := hu.cell; go_simp; try rfl) ?_
  try simp only [Act.put, pz0, pz1, pz2]
  refine PF.pf_take0 19 (by kernel_rfl) rfl (fun _ _ _ _ _ h => h) (by kernel_rfl) (fun u => by go_simp; try rfl) ?_
  try simp only [Act.put, pz0, pz1, pz2]
  refine PF.pf_take1 20 (PF.Same (g) _) (by kernel_rfl) rfl (fun _ _ _ _ _ h => h) (by kernel_rfl) (PF.Same.refl _ _) (fun u hu => by have hcu := hu.cell; go_simp; try rfl) ?_
  try simp only [Act.put, pz0, pz1, pz2]
  refine PF.pf_take0 21 (by kernel_rfl) rfl (fun _ _ _ _ _ h => h) (by kernel_rfl) (fun u => by go_simp; try rfl) ?_
  try simp only [Act.put, pz0, pz1, pz2]
  refine PF.pf_take0 22 (by kernel_rfl) rfl (fun _ _ _ _ _ h => h) (by kernel_rfl) (fun u => by go_simp; try rfl) ?_
  try simp only [Act.put, pz0, pz1, pz2]
  refine PF.pf_take1 23 (PF.Same (g) _) (by kernel_rfl) rfl (fun _ _ _ _ _ h => h) (by kernel_rfl) (PF.Same.refl _ _) (fun u hu => by have hcu := hu.cell; go_simp; try rfl) ?_
  try simp only [Act.put, pz0, pz1, pz2]
  refine PF.pf_take0 25 (by kernel_rfl) rfl (fun _ _ _ _ _ h => h) (by kernel_rfl) (fun u => by go_simp; try rfl) ?_
  try simp only [Act.put, pz0, pz1, pz2]
  refine PF.pf_take1 26 (PF.Same (g) _) (by kernel_rfl) rfl (fun _ _ _ _ _ h => h) (by kernel_rfl) (PF.Same.refl _ _) (fun u hu => by have hcu := hu.cell; go_simp; try rfl) ?_
  try simp only [Act.put, pz0, pz1, pz2]
  refine PF.pf_fork [16, 24] (by kernel_rfl) rfl (PF.fork_cons ?_ (PF.fork_cons ?_ PF.fork_nil))
  -- number 16 first
  · refine PF.step_one rfl (by kernel_rfl) (fun K hK => ?_)
    go_simp
    refine hK _ _ (by repeat (first | exact PF.owes_nil | refine PF.owes_left ?_ | refine PF.owes_no (by decide +kernel) ?_ | refine PF.owes_yes (by first | exact (below_new w3 _).block g hg3 | exact ((below_new w3 _).alloc (by simp) _).block g hg3) ?_)) ?_
    clear hK K
    try simp only [Act.put, pz0, pz1, pz2]
    refine PF.pf_take0 27 (by kernel_rfl) rfl (fun _ _ _ _ _ h => h) (by kernel_rfl) (fun u => by go_simp; try rfl) ?_
    try simp only [Act.put, pz0, pz1, pz2]
    refine PF.pf_exec 24 (by kernel_rfl) rfl (by kernel_rfl) (fun K hK => ?_)
    go_simp
    refine hK _ _ (by repeat (first | exact PF.owes_nil | refine PF.owes_left ?_ | refine PF.owes_no (by decide +kernel) ?_ | refine PF.owes_yes (by first | exact (below_new w3 _).block g hg3 | exact ((below_new w3 _).alloc (by simp) _).block g hg3) ?_)) ?_
    clear hK K
    try simp only [Act.put, pz0, pz1, pz2]
    refine PF.pf_take0 28 (by kernel_rfl) rfl (fun _ _ _ _ _ h => h) (by kernel_rfl) (fun u => by go_simp; try rfl) ?_
    try simp only [Act.put, pz0, pz1, pz2]
    refine PF.pf_take0 29 (by kernel_rfl) rfl (fun _ _ _ _ _ h => h) (by kernel_rfl) (fun u => by go_simp; try rfl) ?_
    try simp only [Act.put, pz0, pz1, pz2]
    refine PF.pf_take0 30 (by kernel_rfl) rfl (fun _ _ _ _ _ h => h) (by kernel_rfl) (fun u => by go_simp; try rfl) ?_
    try simp only [Act.put, pz0, pz1, pz2]
    refine PF.pf_done (by kernel_rfl) ?_
    go_wp2_with fail
    (try simp only [Exit.inBlock, Exit.then])
    refine bodyPost_ret (results_tmp4 rfl _ _ _) rfl ?_
    rw [HUS.out, HVS.out]
    first | exact ⟨DRow.one w3 _ _, HBE.out _ _⟩ | exact ⟨DRow.two w3 _ _, HBE.out _ _⟩
  -- number 24 first
  · refine PF.step_one rfl (by kernel_rfl) (fun K hK => ?_)
    go_simp
    refine hK _ _ (by repeat (first | exact PF.owes_nil | refine PF.owes_left ?_ | refine PF.owes_no (by decide +kernel) ?_ | refine PF.owes_yes (by first | exact (below_new w3 _).block g hg3 | exact ((below_new w3 _).alloc (by simp) _).block g hg3) ?_)) ?_
    clear hK K
    try simp only [Act.put, pz0, pz1, pz2]
    refine PF.pf_exec 16 (by kernel_rfl) rfl (by kernel_rfl) (fun K hK => ?_)
    go_simp
    refine hK _ _ (by repeat (first | exact PF.owes_nil | refine PF.owes_left ?_ | refine PF.owes_no (by decide +kernel) ?_ | refine PF.owes_yes (by first | exact (below_new w3 _).block g hg3 | exact ((below_new w3 _).alloc (by simp) _).block g hg3) ?_)) ?_
    clear hK K
    try simp only [Act.put, pz0, pz1, pz2]
    refine PF.pf_take0 27 (by kernel_rfl) rfl (fun _ _ _ _ _ h => h) (by kernel_rfl) (fun u => by go_simp; try rfl) ?_
    try simp only [Act.put, pz0, pz1, pz2]
    refine PF.pf_take0 28 (by kernel_rfl) rfl (fun _ _ _ _ _ h => h) (by kernel_rfl) (fun u => by go_simp; try rfl) ?_
    try simp only [Act.put, pz0, pz1, pz2]
    refine PF.pf_take0 29 (by kernel_rfl) rfl (fun _ _ _ _ _ h => h) (by kernel_rfl) (fun u => by go_simp; try rfl) ?_
    try simp only [Act.put, pz0, pz1, pz2]
    refine PF.pf_take0 30 (by kernel_rfl) rfl (fun _ _ _ _ _ h => h) (by kernel_rfl) (fun u => by go_simp; try rfl) ?_
    try simp only [Act.put, pz0, pz1, pz2]
    refine PF.pf_done (by kernel_rfl) ?_
    go_wp2_with fail
    (try simp only [Exit.inBlock, Exit.then])
    refine bodyPost_ret (results_tmp4 rfl _ _ _) rfl ?_
    rw [HUS.out, HVS.out]
    first | exact ⟨DRow.one w3 _ _, HBE.out _ _⟩ | exact ⟨DRow.two w3 _ _, HBE.out _ _⟩
theorem zero_resp (w : World) : (zeroValue 37).run Tryd.prog w = .ok (.agg #[.int .i64 0, .int .u64 0, .int .i64 0, .int .i64 0, .int .u64 0, .int .u64 0, .int .u64 0, .int .u64 0, .slice none 0 0]) w := (zero_of_info (n := 9) (by kernel_rfl)).1 w
set_option maxRecDepth 100000 in
set_option maxHeartbeats 16000000 in
theorem drow_resp {w : World} {cs : Array Value} {P : Pk} (hP : PkV w cs P) (hk : P.n 0 = 4) {A : Option Addr} {c : Nat} (htx : cs[37]? = some (.slice A (P.t 37).length c)) :
    Calls Tryd.prog 47 #[.agg cs] w fun e w' => DRow ((schema 4).map (fldU P.n)) (((schema 4).filter fun f => !f.1).map (fldI P.n)) (.slice A (P.t 37).length c) (.slice none 0 0) e w' ∧ Below w.heap.size w w' := by
  have hB1 : Blk (w.alloc (.cells cs 44)) w.heap.size 44 cs := Blk.new _ _ _
  have hb1 := below_new w (.cells cs 44)
  have hs1 : (w.alloc (.cells cs 44)).heap.size = w.heap.size + 1 := by simp
  have HA1 := Lib.hid hB1
  have HB1 := Lib.hid hb1
  have HS1 := Lib.hid hs1
  have HP := Lib.hid hP
  have HTX := Lib.hid htx
  have HZ := Lib.hid (rng_len hP.size (o := 29) (n := 9) (by omega))
  have HI : Hid ((Tryd.prog.info? 37).map (·.size) = some (rng cs 29 9).length) := (by show _ = _; rw [HZ.out]; kernel_rfl)
  have HO : Hid (∀ v ∈ (rng cs 29 9).toArray.toList, v.oneCell' = true) := fun v hv => hP.one v (List.mem_of_mem_drop (List.mem_of_mem_take (show v ∈ (cs.toList.drop 29).take 9 from hv)))
  have HR : Hid ((w.alloc (.cells cs 44)).rangeAt w.heap.size 29 (rng cs 29 9)) := hB1.range 29 9
  have z0 := (hB1.cell 0).trans hP.kind.1
  rw [hk] at z0
  clear hB1 hb1 hs1 hP hk htx
  go_enter Tryd.func47, Tryd.ntmps47
  go_wp2_with (refine wpList_load_rg rfl (ty := 37) rfl rfl HR.out Tryd.underlying37 rfl HI.out ?_; refine Hid.out ?_)
  refine Lib.hid ?_
  clear z0
  go_wp2_with (refine wpList_alloc_blk rfl rfl zero_resp ?_; rintro g w2 hg hB2 hb2; refine Hid.out ?_)
  refine Lib.hid ?_
  go_wp2_with (refine wpList_store_blk rfl rfl rfl rfl hB2 (by show 9 = (rng cs 29 9).toArray.size; rw [List.size_toArray, HZ.out]) (by rw [List.size_toArray]; exact HI.out) HO.out ?_; rintro w3 hB3 hm3; refine Hid.out ?_)
  refine Lib.hid ?_
  have hg3 := hB3.lt
  have HB3 : Hid (Below w.heap.size w w3) := (HB1.out.trans (hb2.mono HB1.out.size)).trans (hm3.to_below (by have := hb2.size; have := HS1.out; omega) fun b hb e => by have := HS1.out; omega)
  have q0 := (hB3.cell 0).trans ((rng_get (by omega)).trans (HP.out.ints 29 (by decide)).1)
  have q1 := (hB3.cell 1).trans ((rng_get (by omega)).trans (HP.out.nums 30 (by decide)).1)
  have q2 := (hB3.cell 2).trans ((rng_get (by omega)).trans (HP.out.ints 31 (by decide)).1)
  have q3 := (hB3.cell 3).trans ((rng_get (by omega)).trans (HP.out.ints 32 (by decide)).1)
  have q4 := (hB3.cell 4).trans ((rng_get (by omega)).trans (HP.out.nums 33 (by decide)).1)
  have q5 := (hB3.cell 5).trans ((rng_get (by omega)).trans (HP.out.nums 34 (by decide)).1)
  have q6 := (hB3.cell 6).trans ((rng_get (by omega)).trans (HP.out.nums 35 (by decide)).1)
  have q7 := (hB3.cell 7).trans ((rng_get (by omega)).trans (HP.out.nums 36 (by decide)).1)
  have q8 := (hB3.cell 8).trans ((rng_get (by omega)).trans HTX.out)
  have HUS : Hid ((schema 4).map (fldU P.n) = [.int .u64 (IntKind.u64.wrap (P.n 29)), .int .u64 (P.n 30), .int .u64 (IntKind.u64.wrap (P.n 31)), .int .u64 (IntKind.u64.wrap (P.n 32)), .int .u64 (P.n 33), .int .u64 (P.n 34), .int .u64 (P.n 35), .int .u64 (P.n 36)]) := rfl
  have HVS : Hid (((schema 4).filter fun f => !f.1).map (fldI P.n) = [.int .i64 (P.n 29), .int .i64 (P.n 31), .int .i64 (P.n 32)]) := rfl
  have HBE : Hid (∀ o o', Below w.heap.size w ((w3.alloc o).alloc o').drew) := fun o o' => ((HB3.out.alloc HB3.out.size _).alloc (by rw [alloc_size]; have := HB3.out.size; omega) _).drew
  clear hB2 hb2 hg hm3 hB3
  go_wp2_with fail
  refine PF.pf_begin (by kernel_rfl) ?_
  refine PF.pf_take0 0 (by kernel_rfl) rfl (fun _ _ _ _ _ h => h) (by kernel_rfl) (fun u => by go_simp; try rfl) ?_
  try simp only [Act.put, pz0, pz1, pz2]
  refine PF.pf_take0 1 (by kernel_rfl) rfl (fun _ _ _ _ _ h => h) (by kernel_rfl) (fun u => by go_simp; try rfl) ?_
  try simp only [Act.put, pz0, pz1, pz2]
  refine PF.pf_take1 2 (PF.Same (g) _) (by kernel_rfl) rfl (fun _ _ _ _ _ h => h) (by kernel_rfl) (PF.Same.refl _ _) (fun u hu => by have hcu := hu.cell; go_simp; try rfl) ?_
  try simp only [Act.put, pz0, pz1, pz2]
  refine PF.pf_take0 3 (by kernel_rfl) rfl (fun _ _ _ _ _ h => h) (by kernel_rfl) (fun u => by go_simp; try rfl) ?_
  try simp only [Act.put, pz0, pz1, pz2]
  refine PF.pf_take0 4 (by kernel_rfl) rfl (fun _ _ _ _ _ h => h) (by kernel_rfl) (fun u => by go_simp; try rfl) ?_
  try simp only [Act.put, pz0, pz1, pz2]
  refine PF.pf_take0 5 (by kernel_rfl) rfl (fun _ _ _ _ _ h => h) (by kernel_rfl) (fun u => by go_simp; try rfl) ?_
  try simp only [Act.put, pz0, pz1, pz2]
  refine PF.pf_take1 6 (PF.Same (g) _) (by kernel_rfl) rfl (fun _ _ _ _ _ h => h) (by kernel_rfl) (PF.Same.refl _ _) (fun u hu => by have hcu := hu.cell; go_simp; try rfl) ?_
  try simp only [Act.put, pz0, pz1, pz2]
  refine PF.pf_take0 7 (by kernel_rfl) rfl (fun _ _ _ _ _ h => h) (by kernel_rfl) (fun u => by go_simp; try rfl) ?_
  try simp only [Act.put, pz0, pz1, pz2]
  refine PF.pf_take1 8 (PF.Same (g) _) (by kernel_rfl) rfl (fun _ _ _ _ _ h => h) (by kernel_rfl) (PF.Same.refl _ _) (fun u hu => by have hcu := hu.cell; go_simp; try rfl) ?_
  try simp only [Act.put, pz0, pz1, pz2]
  refine PF.pf_take0 9 (by kernel_rfl) rfl (fun _ _ _ _ _ h => h) (by kernel_rfl) (fun u => by go_simp; try rfl) ?_
  try simp only [Act.put, pz0, pz1, pz2]
  refine PF.pf_take0 10 (by kernel_rfl) rfl (fun _ _ _ _ _ h => h) (by kernel_rfl) (fun u => by go_simp; try rfl) ?_
  try simp only [Act.put, pz0, pz1, pz2]
  refine PF.pf_take1 11 (PF.Same (g) _) (by kernel_rfl) rfl (fun _ _ _ _ _ h => h) (by kernel_rfl) (PF.Same.refl _ _) (fun u hu => by have hcu := hu.cell; go_simp; try rfl) ?_
  try simp only [Act.put, pz0, pz1, pz2]
  refine PF.pf_take0 12 (by kernel_rfl) rfl (fun _ _ _ _ _ h => h) (by kernel_rfl) (fun u => by go_simp; try rfl) ?_
  try simp only [Act.put, pz0, pz1, pz2]
  refine PF.pf_take0 13 (by kernel_rfl) rfl (fun _ _ _ _ _ h => h) (by kernel_rfl) (fun u => by go_simp; try rfl) ?_
  try simp only [Act.put, pz0, pz1, pz2]
  refine PF.pf_take1 14 (PF.Same (g) _) (by kernel_rfl) rfl (fun _ _ _ _ _ h => h) (by kernel_rfl) (PF.Same.refl _ _) (fun u hu => by have hcu := hu.cell; go_simp; try rfl) ?_
  try simp only [Act.put, pz0, pz1, pz2]
  refine PF.pf_take0 15 (by kernel_rfl) rfl (fun _ _ _ _ _ h => h) (by kernel_rfl) (fun u => by go_simp; try rfl) ?_
  try simp only [Act.put, pz0, pz1, pz2]
  refine PF.pf_take1 16 (PF.Same (g) _) (by kernel_rfl) rfl (fun _ _ _ _ _ h => h) (by kernel_rfl) (PF.Same.refl _ _) (fun u hu => by have hcu := hu.cell; go_simp; try rfl) ?_
  try simp only [Act.put, pz0, pz1, pz2]
  refine PF.pf_take0 17 (by kernel_rfl) rfl (fun _ _ _ _ _ h => h) (by kernel_rfl) (fun u => by go_simp; try rfl) ?_
  try simp only [Act.put, pz0, pz1, pz2]
  refine PF.pf_take1 18 (PF.Same (g) _) (by kernel_rfl) rfl (fun _ _ _ _ _ h => h) (by kernel_rfl) (PF.Same.refl _ _) (fun u hu => by have hcu := hu.cell; go_simp; try rfl) ?_
  try simp only [Act.put, pz0, pz1, pz2]
  refine PF.pf_take0 19 (by kernel_rfl) rfl (fun _ _ _ _ _ h => h) (by kernel_rfl) (fun u => by go_simp; try rfl) ?_
  try simp only [Act.put, pz0, pz1, pz2]
  refine PF.pf_take1 20 (PF.Same (g) _) (by kernel_rfl) rfl (fun _ _ _ _ _ h => h) (by kernel_rfl) (PF.Same.refl _ _) (fun u hu => by have hcu := hu.cell; go_simp; try rfl) ?_
  try simp only [Act.put, pz0, pz1, pz2]
  refine PF.pf_take0 22 (by kernel_rfl) rfl (fun _ _ _ _ _ h => h) (by kernel_rfl) (fun u => by go_simp; try rfl) ?_
  try simp only [Act.put, pz0, pz1, pz2]
  refine PF.pf_take0 23 (by kernel_rfl) rfl (fun _ _ _ _ _ h => h) (by kernel_rfl) (fun u => by go_simp; try rfl) ?_
  try simp only [Act.put, pz0, pz1, pz2]
  refine PF.pf_take1 24 (PF.Same (g) _) (by kernel_rfl) rfl (fun _ _ _ _ _ h => h) (by kernel_rfl) (PF.Same.refl _ _) (fun u hu => by have hcu := hu.cell; go_simp; try rfl) ?_
  try simp only [Act.put, pz0, pz1, pz2]
  refine PF.pf_take0 25 (by kernel_rfl) rfl (fun _ _ _ _ _ h => h) (by kernel_rfl) (fun u => by go_simp; try rfl) ?_
  try simp only [Act.put, pz0, pz1, pz2]
  refine PF.pf_take1 26 (PF.Same (g) _) (by kernel_rfl) rfl (fun _ _ _ _ _ h => h) (by kernel_rfl) (PF.Same.refl _ _) (fun u hu => by have hcu := hu.cell; go_simp; try rfl) ?_
  try simp only [Act.put, pz0, pz1, pz2]
  refine PF.pf_take0 27 (by kernel_rfl) rfl (fun _ _ _ _ _ h => h) (by kernel_rfl) (fun u => by go_simp; try rfl) ?_
  try simp only [Act.put, pz0, pz1, pz2]
  refine PF.pf_take1 28 (PF.Same (g) _) (by kernel_rfl) rfl (fun _ _ _ _ _ h => h) (by kernel_rfl) (PF.Same.refl _ _) (fun u hu => by have hcu := hu.cell; go_simp; try rfl) ?_
  try simp only [Act.put, pz0, pz1, pz2]
  refine PF.pf_take0 30 (by kernel_rfl) rfl (fun _ _ _ _ _ h => h) (by kernel_rfl) (fun u => by go_simp; try rfl) ?_
  try simp only [Act.put, pz0, pz1, pz2]
  refine PF.pf_take1 31 (PF.Same (g) _) (by kernel_rfl) rfl (fun _ _ _ _ _ h => h) (by kernel_rfl) (PF.Same.refl _ _) (fun u hu => by have hcu := hu.cell; go_simp; try rfl) ?_
  try simp only [Act.put, pz0, pz1, pz2]
  refine PF.pf_fork [21, 29] (by kernel_rfl) rfl (PF.fork_cons ?_ (PF.fork_cons ?_ PF.fork_nil))
  -- number 21 first
  · refine PF.step_one rfl (by kernel_rfl) (fun K hK => ?_)
    go_simp
    refine hK _ _ (by repeat (first | exact PF.owes_nil | refine PF.owes_left ?_ | refine PF.owes_no (by decide +kernel) ?_ | refine PF.owes_yes (by first | exact (below_new w3 _).block g hg3 | exact ((below_new w3 _).alloc (by simp) _).block g hg3) ?_)) ?_
    clear hK K
    try simp only [Act.put, pz0, pz1, pz2]
    refine PF.pf_take0 32 (by kernel_rfl) rfl (fun _ _ _ _ _ h => h) (by kernel_rfl) (fun u => by go_simp; try rfl) ?_
    try simp only [Act.put, pz0, pz1, pz2]
    refine PF.pf_exec 29 (by kernel_rfl) rfl (by kernel_rfl) (fun K hK => ?_)
    go_simp
    refine hK _ _ (by repeat (first | exact PF.owes_nil | refine PF.owes_left ?_ | refine PF.owes_no (by decide +kernel) ?_ | refine PF.owes_yes (by first | exact (below_new w3 _).block g hg3 | exact ((below_new w3 _).alloc (by simp) _).block g hg3) ?_)) ?_
    clear hK K
    try simp only [Act.put, pz0, pz1, pz2]
    refine PF.pf_take0 33 (by kernel_rfl) rfl (fun _ _ _ _ _ h => h) (by kernel_rfl) (fun u => by go_simp; try rfl) ?_
    try simp only [Act.put, pz0, pz1, pz2]
    refine PF.pf_take0 34 (by kernel_rfl) rfl (fun _ _ _ _ _ h => h) (by kernel_rfl) (fun u => by go_simp; try rfl) ?_
    try simp only [Act.put, pz0, pz1, pz2]
    refine PF.pf_take0 35 (by kernel_rfl) rfl (fun _ _ _ _ _ h => h) (by kernel_rfl) (fun u => by go_simp; try rfl) ?_
    try simp only [Act.put, pz0, pz1, pz2]
    refine PF.pf_done (by kernel_rfl) ?_
    go_wp2_with fail
    (try simp only [Exit.inBlock, Exit.then])
    refine bodyPost_ret (results_tmp4 rfl _ _ _) rfl ?_
    rw [HUS.out, HVS.out]
    first | exact ⟨DRow.one w3 _ _, HBE.out _ _⟩ | exact ⟨DRow.two w3 _ _, HBE.out _ _⟩
  -- number 29 first
  · refine PF.step_one rfl (by kernel_rfl) (fun K hK => ?_)
    go_simp
    refine hK _ _ (by repeat (first | exact PF.owes_nil | refine PF.owes_left ?_ | refine PF.owes_no (by decide +kernel) ?_ | refine PF.owes_yes (by first | exact (below_new w3 _).block g hg3 | exact ((below_new w3 _).alloc (by simp) _).block g hg3) ?_)) ?_
    clear hK K
    try simp only [Act.put, pz0, pz1, pz2]
    refine PF.pf_exec 21 (by kernel_rfl) rfl (by kernel_rfl) (fun K hK => ?_)
    go_simp
    refine hK _ _ (by repeat (first | exact PF.owes_nil | refine PF.owes_left ?_ | refine PF.owes_no (by decide +kernel) ?_ | refine PF.owes_yes (by first | exact (below_new w3 _).block g hg3 | exact ((below_new w3 _).alloc (by simp) _).block g hg3) ?_)) ?_
    clear hK K
    try simp only [Act.put, pz0, pz1, pz2]
    refine PF.pf_take0 32 (by kernel_rfl) rfl (fun _ _ _ _ _ h => h) (by kernel_rfl) (fun u => by go_simp; try rfl) ?_
    try simp only [Act.put, pz0, pz1, pz2]
    refine PF.pf_take0 33 (by kernel_rfl) rfl (fun _ _ _ _ _ h => h) (by kernel_rfl) (fun u => by go_simp; try rfl) ?_
    try simp only [Act.put, pz0, pz1, pz2]
    refine PF.pf_take0 34 (by kernel_rfl) rfl (fun _ _ _ _ _ h => h) (by kernel_rfl) (fun u => by go_simp; try rfl) ?_
    try simp only [Act.put, pz0, pz1, pz2]
    refine PF.pf_take0 35 (by kernel_rfl) rfl (fun _ _ _ _ _ h => h) (by kernel_rfl) (fun u => by go_simp; try rfl) ?_
    try simp only [Act.put, pz0, pz1, pz2]
    refine PF.pf_done (by kernel_rfl) ?_
    go_wp2_with fail
    (try simp only [Exit.inBlock, Exit.then])
    refine bodyPost_ret (results_tmp4 rfl _ _ _) rfl ?_
    rw [HUS.out, HVS.out]
    first | exact ⟨DRow.one w3 _ _, HBE.out _ _⟩ | exact ⟨DRow.two w3 _ _, HBE.out _ _⟩
end Go.Proofs.YtdckdjkkaangmaaDoor

/- The document's row of a packet: says. -/
namespace Go.Proofs.YtdckdjkkaangmaaDoor
set_option linter.unusedVariables false
set_option linter.unusedSimpArgs false
set_option maxRecDepth 100000
open Go.RowKit

theorem zero_says (w : World) : (zeroValue 30).run Tryd.prog w = .ok (.agg #[.int .i64 0, .int .i64 0, .int .u64 0, .int .i64 0, .int .u64 0, .int .u64 0, .int .i64 0, .int .u64 0, .int .u64 0, .int .i64 0, .int .u64 0, .slice none 0 0]) w := (zero_of_info (n := 12) (by kernel_rfl)).1 w
set_option maxRecDepth 100000 in
set_option maxHeartbeats 16000000 in
theorem drow_says {w : World} {cs : Array Value} {P : Pk} (hP : PkV w cs P) (hk : P.n 0 = 2) {A : Option Addr} {c : Nat} (htx : cs[18]? = some (.slice A (P.t 18).length c)) :
    Calls Tryd.prog 47 #[.agg cs] w fun e w' => DRow ((schema 2).map (fldU P.n)) (((schema 2).filter fun f => !f.1).map (fldI P.n)) (.slice A (P.t 18).length c) (.slice none 0 0) e w' ∧ Below w.heap.size w w' := by
  have hB1 : Blk (w.alloc (.cells cs 44)) w.heap.size 44 cs := Blk.new _ _ _
  have hb1 := below_new w (.cells cs 44)
  have hs1 : (w.alloc (.cells cs 44)).heap.size = w.heap.size + 1 := by simp
  have HA1 := Lib.hid hB1
  have HB1 := Lib.hid hb1
  have HS1 := Lib.hid hs1
  have HP := Lib.hid hP
  have HTX := Lib.hid htx
  have HZ := Lib.hid (rng_len hP.size (o := 7) (n := 12) (by omega))
  have HI : Hid ((Tryd.prog.info? 30).map (·.size) = some (rng cs 7 12).length) := (by show _ = _; rw [HZ.out]; kernel_rfl)
  have HO : Hid (∀ v ∈ (rng cs 7 12).toArray.toList, v.oneCell' = true) := fun v hv => hP.one v (List.mem_of_mem_drop (List.mem_of_mem_take (show v ∈ (cs.toList.drop 7).take 12 from hv)))
  have HR : Hid ((w.alloc (.cells cs 44)).rangeAt w.heap.size 7 (rng cs 7 12)) := hB1.range 7 12
  have z0 := (hB1.cell 0).trans hP.kind.1
  rw [hk] at z0
  clear hB1 hb1 hs1 hP hk htx
  go_enter Tryd.func47, Tryd.ntmps47
  go_wp2_with (refine wpList_load_rg rfl (ty := 30) rfl rfl HR.out Tryd.underlying30 rfl HI.out ?_; refine Hid.out ?_)
  refine Lib.hid ?_
  clear z0
  go_wp2_with (refine wpList_alloc_blk rfl rfl zero_says ?_; rintro g w2 hg hB2 hb2; refine Hid.out ?_)
  refine Lib.hid ?_
  go_wp2_with (refine wpList_store_blk rfl rfl rfl rfl hB2 (by show 12 = (rng cs 7 12).toArray.size; rw [List.size_toArray, HZ.out]) (by rw [List.size_toArray]; exact HI.out) HO.out ?_; rintro w3 hB3 hm3; refine Hid.out ?_)
  refine Lib.hid ?_
  have hg3 := hB3.lt
  have HB3 : Hid (Below w.heap.size w w3) := (HB1.out.trans (hb2.mono HB1.out.size)).trans (hm3.to_below (by have := hb2.size; have := HS1.out; omega) fun b hb e => by have := HS1.out; omega)
  have q0 := (hB3.cell 0).trans ((rng_get (by omega)).trans (HP.out.ints 7 (by decide)).1)
  have q1 := (hB3.cell 1).trans ((rng_get (by omega)).trans (HP.out.ints 8 (by decide)).1)
  have q2 := (hB3.cell 2).trans ((rng_get (by omega)).trans (HP.out.nums 9 (by decide)).1)
  have q3 := (hB3.cell 3).trans ((rng_get (by omega)).trans (HP.out.ints 10 (by decide)).1)
  have q4 := (hB3.cell 4).trans ((rng_get (by omega)).trans (HP.out.nums 11 (by decide)).1)
  have q5 := (hB3.cell 5).trans ((rng_get (by omega)).trans (HP.out.nums 12 (by decide)).1)
  have q6 := (hB3.cell 6).trans ((rng_get (by omega)).trans (HP.out.ints 13 (by decide)).1)
  have q7 := (hB3.cell 7).trans ((rng_get (by omega)).trans (HP.out.nums 14 (by decide)).1)
  have q8 := (hB3.cell 8).trans ((rng_get (by omega)).trans (HP.out.nums 15 (by decide)).1)
  have q9 := (hB3.cell 9).trans ((rng_get (by omega)).trans (HP.out.ints 16 (by decide)).1)
  have q10 := (hB3.cell 10).trans ((rng_get (by omega)).trans (HP.out.nums 17 (by decide)).1)
  have q11 := (hB3.cell 11).trans ((rng_get (by omega)).trans HTX.out)
  have HUS : Hid ((schema 2).map (fldU P.n) = [.int .u64 (IntKind.u64.wrap (P.n 7)), .int .u64 (IntKind.u64.wrap (P.n 8)), .int .u64 (P.n 9), .int .u64 (IntKind.u64.wrap (P.n 10)), .int .u64 (P.n 11), .int .u64 (P.n 12), .int .u64 (IntKind.u64.wrap (P.n 13)), .int .u64 (P.n 14), .int .u64 (P.n 15), .int .u64 (IntKind.u64.wrap (P.n 16)), .int .u64 (P.n 17)]) := rfl
  have HVS : Hid (((schema 2).filter fun f => !f.1).map (fldI P.n) = [.int .i64 (P.n 7), .int .i64 (P.n 8), .int .i64 (P.n 10), .int .i64 (P.n 13), .int .i64 (P.n 16)]) := rfl
  have HBE : Hid (∀ o o', Below w.heap.size w ((w3.alloc o).alloc o').drew) := fun o o' => ((HB3.out.alloc HB3.out.size _).alloc (by rw [alloc_size]; have := HB3.out.size; omega) _).drew
  clear hB2 hb2 hg hm3 hB3
  go_wp2_with fail
  refine PF.pf_begin (by kernel_rfl) ?_
  refine PF.pf_take0 0 (by kernel_rfl) rfl (fun _ _ _ _ _ h => h) (by kernel_rfl) (fun u => by go_simp; try rfl) ?_
  try simp only [Act.put, pz0, pz1, pz2]
  refine PF.pf_take1 1 (PF.Same (g) _) (by kernel_rfl) rfl (fun _ _ _ _ _ h => h) (by kernel_rfl) (PF.Same.refl _ _) (fun u hu => by have hcu := hu.cell; go_simp; try rfl) ?_
  try simp only [Act.put, pz0, pz1, pz2]
  refine PF.pf_take0 2 (by kernel_rfl) rfl (fun _ _ _ _ _ h => h) (by kernel_rfl) (fun u => by go_simp; try rfl) ?_
  try simp only [Act.put, pz0, pz1, pz2]
  refine PF.pf_take0 3 (by kernel_rfl) rfl (fun _ _ _ _ _ h => h) (by kernel_rfl) (fun u => by go_simp; try rfl) ?_
  try simp only [Act.put, pz0, pz1, pz2]
  refine PF.pf_take1 4 (PF.Same (g) _) (by kernel_rfl) rfl (fun _ _ _ _ _ h => h) (by kernel_rfl) (PF.Same.refl _ _) (fun u hu => by have hcu := hu.cell; go_simp; try rfl) ?_
  try simp only [Act.put, pz0, pz1, pz2]
  refine PF.pf_take0 5 (by kernel_rfl) rfl (fun _ _ _ _ _ h => h) (by kernel_rfl) (fun u => by go_simp; try rfl) ?_
  try simp only [Act.put, pz0, pz1, pz2]
  refine PF.pf_take0 6 (by kernel_rfl) rfl (fun _ _ _ _ _ h => h) (by kernel_rfl) (fun u => by go_simp; try rfl) ?_
  try simp only [Act.put, pz0, pz1, pz2]
  refine PF.pf_take0 7 (by kernel_rfl) rfl (fun _ _ _ _ _ h => h) (by kernel_rfl) (fun u => by go_simp; try rfl) ?_
  try simp only [Act.put, pz0, pz1, pz2]
  refine PF.pf_take1 8 (PF.Same (g) _) (by kernel_rfl) rfl (fun _ _ _ _ _ h => h) (by kernel_rfl) (PF.Same.refl _ _) (fun u hu => by have hcu := hu.cell; go_simp; try rfl) ?_
  try simp only [Act.put, pz0, pz1, pz2]
  refine PF.pf_take0 9 (by kernel_rfl) rfl (fun _ _ _ _ _ h => h) (by kernel_rfl) (fun u => by go_simp; try rfl) ?_
  try simp only [Act.put, pz0, pz1, pz2]
  refine PF.pf_take0 10 (by kernel_rfl) rfl (fun _ _ _ _ _ h => h) (by kernel_rfl) (fun u => by go_simp; try rfl) ?_
  try simp only [Act.put, pz0, pz1, pz2]
  refine PF.pf_take1 11 (PF.Same (g) _) (by kernel_rfl) rfl (fun _ _ _ _ _ h => h) (by kernel_rfl) (PF.Same.refl _ _) (fun u hu => by have hcu := hu.cell; go_simp; try rfl) ?_
  try simp only [Act.put, pz0, pz1, pz2]
  refine PF.pf_take0 12 (by kernel_rfl) rfl (fun _ _ _ _ _ h => h) (by kernel_rfl) (fun u => by go_simp; try rfl) ?_
  try simp only [Act.put, pz0, pz1, pz2]
  refine PF.pf_take0 13 (by kernel_rfl) rfl (fun _ _ _ _ _ h => h) (by kernel_rfl) (fun u => by go_simp; try rfl) ?_
  try simp only [Act.put, pz0, pz1, pz2]
  refine PF.pf_take0 14 (by kernel_rfl) rfl (fun _ _ _ _ _ h => h) (by kernel_rfl) (fun u => by go_simp; try rfl) ?_
  try simp only [Act.put, pz0, pz1, pz2]
  refine PF.pf_take1 15 (PF.Same (g) _) (by kernel_rfl) rfl (fun _ _ _ _ _ h => h) (by kernel_rfl) (PF.Same.refl _ _) (fun u hu => by have hcu := hu.cell; go_simp; try rfl) ?_
  try simp only [Act.put, pz0, pz1, pz2]
  refine PF.pf_take0 16 (by kernel_rfl) rfl (fun _ _ _ _ _ h => h) (by kernel_rfl) (fun u => by go_simp; try rfl) ?_
  try simp only [Act.put, pz0, pz1, pz2]
  refine PF.pf_take0 17 (by kernel_rfl) rfl (fun _ _ _ _ _ h => h) (by kernel_rfl) (fun u => by go_simp; try rfl) ?_
  try simp only [Act.put, pz0, pz1, pz2]
  refine PF.pf_take1 18 (PF.Same (g) _) (by kernel_rfl) rfl (fun _ _ _ _ _ h => h) (by kernel_rfl) (PF.Same.refl _ _) (fun u hu => by have hcu := hu.cell; go_simp; try rfl) ?_
  try simp only [Act.put, pz0, pz1, pz2]
  refine PF.pf_take0 19 (by kernel_rfl) rfl (fun _ _ _ _ _ h => h) (by kernel_rfl) (fun u => by go_simp; try rfl) ?_
  try simp only [Act.put, pz0, pz1, pz2]
  refine PF.pf_take0 20 (by kernel_rfl) rfl (fun _ _ _ _ _ h => h) (by kernel_rfl) (fun u => by go_simp; try rfl) ?_
  try simp only [Act.put, pz0, pz1, pz2]
  refine PF.pf_take1 21 (PF.Same (g) _) (by kernel_rfl) rfl (fun _ _ _ _ _ h => h) (by kernel_rfl) (PF.Same.refl _ _) (fun u hu => by have hcu := hu.cell; go_simp; try rfl) ?_
  try simp only [Act.put, pz0, pz1, pz2]
  refine PF.pf_take0 22 (by kernel_rfl) rfl (fun _ _ _ _ _ h => h) (by kernel_rfl) (fun u => by go_simp; try rfl) ?_
  try simp only [Act.put, pz0, pz1, pz2]
  refine PF.pf_take0 23 (by kernel_rfl) rfl (fun _ _ _ _ _ h => h) (by kernel_rfl) (fun u => by go_simp; try rfl) ?_
  try simp only [Act.put, pz0, pz1, pz2]
  refine PF.pf_take0 24 (by kernel_rfl) rfl (fun _ _ _ _ _ h => h) (by kernel_rfl) (fun u => by go_simp; try rfl) ?_
  try simp only [Act.put, pz0, pz1, pz2]
  refine PF.pf_take1 25 (PF.Same (g) _) (by kernel_rfl) rfl (fun _ _ _ _ _ h => h) (by kernel_rfl) (PF.Same.refl _ _) (fun u hu => by have hcu := hu.cell; go_simp; try rfl) ?_
  try simp only [Act.put, pz0, pz1, pz2]
  refine PF.pf_take0 26 (by kernel_rfl) rfl (fun _ _ _ _ _ h => h) (by kernel_rfl) (fun u => by go_simp; try rfl) ?_
  try simp only [Act.put, pz0, pz1, pz2]
  refine PF.pf_take0 27 (by kernel_rfl) rfl (fun _ _ _ _ _ h => h) (by kernel_rfl) (fun u => by go_simp; try rfl) ?_
  try simp only [Act.put, pz0, pz1, pz2]
  refine PF.pf_take1 28 (PF.Same (g) _) (by kernel_rfl) rfl (fun _ _ _ _ _ h => h) (by kernel_rfl) (PF.Same.refl _ _) (fun u hu => by have hcu := hu.cell; go_simp; try rfl) ?_
  try simp only [Act.put, pz0, pz1, pz2]
  refine PF.pf_take0 29 (by kernel_rfl) rfl (fun _ _ _ _ _ h => h) (by kernel_rfl) (fun u => by go_simp; try rfl) ?_
  try simp only [Act.put, pz0, pz1, pz2]
  refine PF.pf_take0 30 (by kernel_rfl) rfl (fun _ _ _ _ _ h => h) (by kernel_rfl) (fun u => by go_simp; try rfl) ?_
  try simp only [Act.put, pz0, pz1, pz2]
  refine PF.pf_take1 31 (PF.Same (g) _) (by kernel_rfl) rfl (fun _ _ _ _ _ h => h) (by kernel_rfl) (PF.Same.refl _ _) (fun u hu => by have hcu := hu.cell; go_simp; try rfl) ?_
  try simp only [Act.put, pz0, pz1, pz2]
  refine PF.pf_take0 32 (by kernel_rfl) rfl (fun _ _ _ _ _ h => h) (by kernel_rfl) (fun u => by go_simp; try rfl) ?_
  try simp only [Act.put, pz0, pz1, pz2]
  refine PF.pf_take0 33 (by kernel_rfl) rfl (fun _ _ _ _ _ h => h) (by kernel_rfl) (fun u => by go_simp; try rfl) ?_
  try simp only [Act.put, pz0, pz1, pz2]
  refine PF.pf_take0 34 (by kernel_rfl) rfl (fun _ _ _ _ _ h => h) (by kernel_rfl) (fun u => by go_simp; try rfl) ?_
  try simp only [Act.put, pz0, pz1, pz2]
  refine PF.pf_take1 35 (PF.Same (g) _) (by kernel_rfl) rfl (fun _ _ _ _ _ h => h) (by kernel_rfl) (PF.Same.refl _ _) (fun u hu => by have hcu := hu.cell; go_simp; try rfl) ?_
  try simp only [Act.put, pz0, pz1, pz2]
  refine PF.pf_take0 37 (by kernel_rfl) rfl (fun _ _ _ _ _ h => h) (by kernel_rfl) (fun u => by go_simp; try rfl) ?_
  try simp only [Act.put, pz0, pz1, pz2]
  refine PF.pf_take1 38 (PF.Same (g) _) (by kernel_rfl) rfl (fun _ _ _ _ _ h => h) (by kernel_rfl) (PF.Same.refl _ _) (fun u hu => by have hcu := hu.cell; go_simp; try rfl) ?_
  try simp only [Act.put, pz0, pz1, pz2]
  refine PF.pf_take0 39 (by kernel_rfl) rfl (fun _ _ _ _ _ h => h) (by kernel_rfl) (fun u => by go_simp; try rfl) ?_
  try simp only [Act.put, pz0, pz1, pz2]
  refine PF.pf_take1 40 (PF.Same (g) _) (by kernel_rfl) rfl (fun _ _ _ _ _ h => h) (by kernel_rfl) (PF.Same.refl _ _) (fun u hu => by have hcu := hu.cell; go_simp; try rfl) ?_
  try simp only [Act.put, pz0, pz1, pz2]
  refine PF.pf_take0 41 (by kernel_rfl) rfl (fun _ _ _ _ _ h => h) (by kernel_rfl) (fun u => by go_simp; try rfl) ?_
  try simp only [Act.put, pz0, pz1, pz2]
  refine PF.pf_take0 42 (by kernel_rfl) rfl (fun _ _ _ _ _ h => h) (by kernel_rfl) (fun u => by go_simp; try rfl) ?_
  try simp only [Act.put, pz0, pz1, pz2]
  refine PF.pf_take1 43 (PF.Same (g) _) (by kernel_rfl) rfl (fun _ _ _ _ _ h => h) (by kernel_rfl) (PF.Same.refl _ _) (fun u hu => by have hcu := hu.cell; go_simp; try rfl) ?_
  try simp only [Act.put, pz0, pz1, pz2]
  refine PF.pf_take0 44 (by kernel_rfl) rfl (fun _ _ _ _ _ h => h) (by kernel_rfl) (fun u => by go_simp; try rfl) ?_
  try simp only [Act.put, pz0, pz1, pz2]
  refine PF.pf_take0 45 (by kernel_rfl) rfl (fun _ _ _ _ _ h => h) (by kernel_rfl) (fun u => by go_simp; try rfl) ?_
  try simp only [Act.put, pz0, pz1, pz2]
  refine PF.pf_take1 46 (PF.Same (g) _) (by kernel_rfl) rfl (fun _ _ _ _ _ h => h) (by kernel_rfl) (PF.Same.refl _ _) (fun u hu => by have hcu := hu.cell; go_simp; try rfl) ?_
  try simp only [Act.put, pz0, pz1, pz2]
  refine PF.pf_take0 47 (by kernel_rfl) rfl (fun _ _ _ _ _ h => h) (by kernel_rfl) (fun u => by go_simp; try rfl) ?_
  try simp only [Act.put, pz0, pz1, pz2]
  refine PF.pf_take0 48 (by kernel_rfl) rfl (fun _ _ _ _ _ h => h) (by kernel_rfl) (fun u => by go_simp; try rfl) ?_
  try simp only [Act.put, pz0, pz1, pz2]
  refine PF.pf_take1 49 (PF.Same (g) _) (by kernel_rfl) rfl (fun _ _ _ _ _ h => h) (by kernel_rfl) (PF.Same.refl _ _) (fun u hu => by have hcu := hu.cell; go_simp; try rfl) ?_
  try simp only [Act.put, pz0, pz1, pz2]
  refine PF.pf_take0 51 (by kernel_rfl) rfl (fun _ _ _ _ _ h => h) (by kernel_rfl) (fun u => by go_simp; try rfl) ?_
  try simp only [Act.put, pz0, pz1, pz2]
  refine PF.pf_take1 52 (PF.Same (g) _) (by kernel_rfl) rfl (fun _ _ _ _ _ h => h) (by kernel_rfl) (PF.Same.refl _ _) (fun u hu => by have hcu := hu.cell; go_simp; try rfl) ?_
  try simp only [Act.put, pz0, pz1, pz2]
  refine PF.pf_fork [36, 50] (by kernel_rfl) rfl (PF.fork_cons ?_ (PF.fork_cons ?_ PF.fork_nil))
  -- number 36 first
  · refine PF.step_one rfl (by kernel_rfl) (fun K hK => ?_)
    go_simp
    refine hK _ _ (by repeat (first | exact PF.owes_nil | refine PF.owes_left ?_ | refine PF.owes_no (by decide +kernel) ?_ | refine PF.owes_yes (by first | exact (below_new w3 _).block g hg3 | exact ((below_new w3 _).alloc (by simp) _).block g hg3) ?_)) ?_
    clear hK K
    try simp only [Act.put, pz0, pz1, pz2]
    refine PF.pf_take0 53 (by kernel_rfl) rfl (fun _ _ _ _ _ h => h) (by kernel_rfl) (fun u => by go_simp; try rfl) ?_
    try simp only [Act.put, pz0, pz1, pz2]
    refine PF.pf_exec 50 (by kernel_rfl) rfl (by kernel_rfl) (fun K hK => ?_)
    go_simp
    refine hK _ _ (by repeat (first | exact PF.owes_nil | refine PF.owes_left ?_ | refine PF.owes_no (by decide +kernel) ?_ | refine PF.owes_yes (by first | exact (below_new w3 _).block g hg3 | exact ((below_new w3 _).alloc (by simp) _).block g hg3) ?_)) ?_
    clear hK K
    try simp only [Act.put, pz0, pz1, pz2]
    refine PF.pf_take0 54 (by kernel_rfl) rfl (fun _ _ _ _ _ h => h) (by kernel_rfl) (fun u => by go_simp; try rfl) ?_
    try simp only [Act.put, pz0, pz1, pz2]
    refine PF.pf_take0 55 (by kernel_rfl) rfl (fun _ _ _ _ _ h => h) (by kernel_rfl) (fun u => by go_simp; try rfl) ?_
    try simp only [Act.put, pz0, pz1, pz2]
    refine PF.pf_take0 56 (by kernel_rfl) rfl (fun _ _ _ _ _ h => h) (by kernel_rfl) (fun u => by go_simp; try rfl) ?_
    try simp only [Act.put, pz0, pz1, pz2]
    refine PF.pf_done (by kernel_rfl) ?_
    go_wp2_with fail
    (try simp only [Exit.inBlock, Exit.then])
    refine bodyPost_ret (results_tmp4 rfl _ _ _) rfl ?_
    rw [HUS.out, HVS.out]
    first | exact ⟨DRow.one w3 _ _, HBE.out _ _⟩ | exact ⟨DRow.two w3 _ _, HBE.out _ _⟩
  -- number 50 first
  · refine PF.step_one rfl (by kernel_rfl) (fun K hK => ?_)
    go_simp
    refine hK _ _ (by repeat (first | exact PF.owes_nil | refine PF.owes_left ?_ | refine PF.owes_no (by decide +kernel) ?_ | refine PF.owes_yes (by first | exact (below_new w3 _).block g hg3 | exact ((below_new w3 _).alloc (by simp) _).block g hg3) ?_)) ?_
    clear hK K
    try simp only [Act.put, pz0, pz1, pz2]
    refine PF.pf_exec 36 (by kernel_rfl) rfl (by kernel_rfl) (fun K hK => ?_)
    go_simp
    refine hK _ _ (by repeat (first | exact PF.owes_nil | refine PF.owes_left ?_ | refine PF.owes_no (by decide +kernel) ?_ | refine PF.owes_yes (by first | exact (below_new w3 _).block g hg3 | exact ((below_new w3 _).alloc (by simp) _).block g hg3) ?_)) ?_
    clear hK K
    try simp only [Act.put, pz0, pz1, pz2]
    refine PF.pf_take0 53 (by kernel_rfl) rfl (fun _ _ _ _ _ h => h) (by kernel_rfl) (fun u => by go_simp; try rfl) ?_
    try simp only [Act.put, pz0, pz1, pz2]
    refine PF.pf_take0 54 (by kernel_rfl) rfl (fun _ _ _ _ _ h => h) (by kernel_rfl) (fun u => by go_simp; try rfl) ?_
    try simp only [Act.put, pz0, pz1, pz2]
    refine PF.pf_take0 55 (by kernel_rfl) rfl (fun _ _ _ _ _ h => h) (by kernel_rfl) (fun u => by go_simp; try rfl) ?_
    try simp only [Act.put, pz0, pz1, pz2]
    refine PF.pf_take0 56 (by kernel_rfl) rfl (fun _ _ _ _ _ h => h) (by kernel_rfl) (fun u => by go_simp; try rfl) ?_
    try simp only [Act.put, pz0, pz1, pz2]
    refine PF.pf_done (by kernel_rfl) ?_
    go_wp2_with fail
    (try simp only [Exit.inBlock, Exit.then])
    refine bodyPost_ret (results_tmp4 rfl _ _ _) rfl ?_
    rw [HUS.out, HVS.out]
    first | exact ⟨DRow.one w3 _ _, HBE.out _ _⟩ | exact ⟨DRow.two w3 _ _, HBE.out _ _⟩
end Go.Proofs.YtdckdjkkaangmaaDoor

/- The document's row of a packet: req. -/
namespace Go.Proofs.YtdckdjkkaangmaaDoor
set_option linter.unusedVariables false
set_option linter.unusedSimpArgs false
set_option maxRecDepth 100000
open Go.RowKit

theorem zero_reqX (w : World) : (zeroValue 35).run Tryd.prog w = .ok (.agg #[.int .i64 0, .int .u64 0, .int .i64 0, .int .u64 0, .int .u64 0, .int .u64 0, .int .u64 0, .int .i64 0, .slice none 0 0, .slice none 0 0]) w := (zero_of_info (n := 10) (by kernel_rfl)).1 w
set_option maxRecDepth 100000 in
set_option maxHeartbeats 16000000 in
theorem drow_req {w : World} {cs : Array Value} {P : Pk} (hP : PkV w cs P) (hk : P.n 0 = 3) {A : Option Addr} {c : Nat} (htx : cs[27]? = some (.slice A (P.t 27).length c)) {A2 : Option Addr} {c2 : Nat} (hk2 : cs[28]? = some (.slice A2 P.k.length c2)) :
    Calls Tryd.prog 47 #[.agg cs] w fun e w' => DRow ((schema 3).map (fldU P.n)) (((schema 3).filter fun f => !f.1).map (fldI P.n)) (.slice A (P.t 27).length c) (.slice A2 P.k.length c2) e w' ∧ Below w.heap.size w w' := by
  have hB1 : Blk (w.alloc (.cells cs 44)) w.heap.size 44 cs := Blk.new _ _ _
  have hb1 := below_new w (.cells cs 44)
  have hs1 : (w.alloc (.cells cs 44)).heap.size = w.heap.size + 1 := by simp
  have HA1 := Lib.hid hB1
  have HB1 := Lib.hid hb1
  have HS1 := Lib.hid hs1
  have HP := Lib.hid hP
  have HTX := Lib.hid htx
  have HKP := Lib.hid hk2
  have HZ := Lib.hid (rng_len hP.size (o := 19) (n := 10) (by omega))
  have HI : Hid ((Tryd.prog.info? 35).map (·.size) = some (rng cs 19 10).length) := (by show _ = _; rw [HZ.out]; kernel_rfl)
  have HO : Hid (∀ v ∈ (rng cs 19 10).toArray.toList, v.oneCell' = true) := fun v hv => hP.one v (List.mem_of_mem_drop (List.mem_of_mem_take (show v ∈ (cs.toList.drop 19).take 10 from hv)))
  have HR : Hid ((w.alloc (.cells cs 44)).rangeAt w.heap.size 19 (rng cs 19 10)) := hB1.range 19 10
  have z0 := (hB1.cell 0).trans hP.kind.1
  rw [hk] at z0
  clear hB1 hb1 hs1 hP hk htx hk2
  go_enter Tryd.func47, Tryd.ntmps47
  go_wp2_with (refine wpList_load_rg rfl (ty := 35) rfl rfl HR.out Tryd.underlying35 rfl HI.out ?_; refine Hid.out ?_)
  refine Lib.hid ?_
  clear z0
  go_wp2_with (refine wpList_alloc_blk rfl rfl zero_reqX ?_; rintro g w2 hg hB2 hb2; refine Hid.out ?_)
  refine Lib.hid ?_
  go_wp2_with (refine wpList_store_blk rfl rfl rfl rfl hB2 (by show 10 = (rng cs 19 10).toArray.size; rw [List.size_toArray, HZ.out]) (by rw [List.size_toArray]; exact HI.out) HO.out ?_; rintro w3 hB3 hm3; refine Hid.out ?_)
  refine Lib.hid ?_
  have hg3 := hB3.lt
  have HB3 : Hid (Below w.heap.size w w3) := (HB1.out.trans (hb2.mono HB1.out.size)).trans (hm3.to_below (by have := hb2.size; have := HS1.out; omega) fun b hb e => by have := HS1.out; omega)
  have q0 := (hB3.cell 0).trans ((rng_get (by omega)).trans (HP.out.ints 19 (by decide)).1)
  have q1 := (hB3.cell 1).trans ((rng_get (by omega)).trans (HP.out.nums 20 (by decide)).1)
  have q2 := (hB3.cell 2).trans ((rng_get (by omega)).trans (HP.out.ints 21 (by decide)).1)
  have q3 := (hB3.cell 3).trans ((rng_get (by omega)).trans (HP.out.nums 22 (by decide)).1)
  have q4 := (hB3.cell 4).trans ((rng_get (by omega)).trans (HP.out.nums 23 (by decide)).1)
  have q5 := (hB3.cell 5).trans ((rng_get (by omega)).trans (HP.out.nums 24 (by decide)).1)
  have q6 := (hB3.cell 6).trans ((rng_get (by omega)).trans (HP.out.nums 25 (by decide)).1)
  have q7 := (hB3.cell 7).trans ((rng_get (by omega)).trans (HP.out.ints 26 (by decide)).1)
  have q8 := (hB3.cell 8).trans ((rng_get (by omega)).trans HTX.out)
  have q9 := (hB3.cell 9).trans ((rng_get (by omega)).trans HKP.out)
  have HUS : Hid ((schema 3).map (fldU P.n) = [.int .u64 (IntKind.u64.wrap (P.n 19)), .int .u64 (P.n 20), .int .u64 (IntKind.u64.wrap (P.n 21)), .int .u64 (P.n 22), .int .u64 (P.n 23), .int .u64 (P.n 24), .int .u64 (P.n 25), .int .u64 (IntKind.u64.wrap (P.n 26))]) := rfl
  have HVS : Hid (((schema 3).filter fun f => !f.1).map (fldI P.n) = [.int .i64 (P.n 19), .int .i64 (P.n 21), .int .i64 (P.n 26)]) := rfl
  have HBE : Hid (∀ o o', Below w.heap.size w ((w3.alloc o).alloc o').drew) := fun o o' => ((HB3.out.alloc HB3.out.size _).alloc (by rw [alloc_size]; have := HB3.out.size; omega) _).drew
  clear hB2 hb2 hg hm3 hB3
  go_wp2_with fail
  refine PF.pf_begin (by kernel_rfl) ?_
  refine PF.pf_take0 0 (by kernel_rfl) rfl (fun _ _ _ _ _ h => h) (by kernel_rfl) (fun u => by go_simp; try rfl) ?_
  try simp only [Act.put, pz0, pz1, pz2]
  refine PF.pf_take0 1 (by kernel_rfl) rfl (fun _ _ _ _ _ h => h) (by kernel_rfl) (fun u => by go_simp; try rfl) ?_
  try simp only [Act.put, pz0, pz1, pz2]
  refine PF.pf_take1 2 (PF.Same (g) _) (by kernel_rfl) rfl (fun _ _ _ _ _ h => h) (by kernel_rfl) (PF.Same.refl _ _) (fun u hu => by have hcu := hu.cell; go_simp; try rfl) ?_
  try simp only [Act.put, pz0, pz1, pz2]
  refine PF.pf_take0 3 (by kernel_rfl) rfl (fun _ _ _ _ _ h => h) (by kernel_rfl) (fun u => by go_simp; try rfl) ?_
  try simp only [Act.put, pz0, pz1, pz2]
  refine PF.pf_take0 4 (by kernel_rfl) rfl (fun _ _ _ _ _ h => h) (by kernel_rfl) (fun u => by go_simp; try rfl) ?_
  try simp only [Act.put, pz0, pz1, pz2]
  refine PF.pf_take0 5 (by kernel_rfl) rfl (fun _ _ _ _ _ h => h) (by kernel_rfl) (fun u => by go_simp; try rfl) ?_
  try simp only [Act.put, pz0, pz1, pz2]
  refine PF.pf_take1 6 (PF.Same (g) _) (by kernel_rfl) rfl (fun _ _ _ _ _ h => h) (by kernel_rfl) (PF.Same.refl _ _) (fun u hu => by have hcu := hu.cell; go_simp; try rfl) ?_
  try simp only [Act.put, pz0, pz1, pz2]
  refine PF.pf_take0 7 (by kernel_rfl) rfl (fun _ _ _ _ _ h => h) (by kernel_rfl) (fun u => by go_simp; try rfl) ?_
  try simp only [Act.put, pz0, pz1, pz2]
  refine PF.pf_take1 8 (PF.Same (g) _) (by kernel_rfl) rfl (fun _ _ _ _ _ h => h) (by kernel_rfl) (PF.Same.refl _ _) (fun u hu => by have hcu := hu.cell; go_simp; try rfl) ?_
  try simp only [Act.put, pz0, pz1, pz2]
  refine PF.pf_take0 9 (by kernel_rfl) rfl (fun _ _ _ _ _ h => h) (by kernel_rfl) (fun u => by go_simp; try rfl) ?_
  try simp only [Act.put, pz0, pz1, pz2]
  refine PF.pf_take0 10 (by kernel_rfl) rfl (fun _ _ _ _ _ h => h) (by kernel_rfl) (fun u => by go_simp; try rfl) ?_
  try simp only [Act.put, pz0, pz1, pz2]
  refine PF.pf_take1 11 (PF.Same (g) _) (by kernel_rfl) rfl (fun _ _ _ _ _ h => h) (by kernel_rfl) (PF.Same.refl _ _) (fun u hu => by have hcu := hu.cell; go_simp; try rfl) ?_
  try simp only [Act.put, pz0, pz1, pz2]
  refine PF.pf_take0 12 (by kernel_rfl) rfl (fun _ _ _ _ _ h => h) (by kernel_rfl) (fun u => by go_simp; try rfl) ?_
  try simp only [Act.put, pz0, pz1, pz2]
  refine PF.pf_take1 13 (PF.Same (g) _) (by kernel_rfl) rfl (fun _ _ _ _ _ h => h) (by kernel_rfl) (PF.Same.refl _ _) (fun u hu => by have hcu := hu.cell; go_simp; try rfl) ?_
  try simp only [Act.put, pz0, pz1, pz2]
  refine PF.pf_take0 14 (by kernel_rfl) rfl (fun _ _ _ _ _ h => h) (by kernel_rfl) (fun u => by go_simp; try rfl) ?_
  try simp only [Act.put, pz0, pz1, pz2]
  refine PF.pf_take1 15 (PF.Same (g) _) (by kernel_rfl) rfl (fun _ _ _ _ _ h => h) (by kernel_rfl) (PF.Same.refl _ _) (fun u hu => by have hcu := hu.cell; go_simp; try rfl) ?_
  try simp only [Act.put, pz0, pz1, pz2]
  refine PF.pf_take0 16 (by kernel_rfl) rfl (fun _ _ _ _ _ h => h) (by kernel_rfl) (fun u => by go_simp; try rfl) ?_
  try simp only [Act.put, pz0, pz1, pz2]
  refine PF.pf_take1 17 (PF.Same (g) _) (by kernel_rfl) rfl (fun _ _ _ _ _ h => h) (by kernel_rfl) (PF.Same.refl _ _) (fun u hu => by have hcu := hu.cell; go_simp; try rfl) ?_
  try simp only [Act.put, pz0, pz1, pz2]
  refine PF.pf_take0 18 (by kernel_rfl) rfl (fun _ _ _ _ _ h => h) (by kernel_rfl) (fun u => by go_simp; try rfl) ?_
  try simp only [Act.put, pz0, pz1, pz2]
  refine PF.pf_take1 19 (PF.Same (g) _) (by kernel_rfl) rfl (fun _ _ _ _ _ h => h) (by kernel_rfl) (PF.Same.refl _ _) (fun u hu => by have hcu := hu.cell; go_simp; try rfl) ?_
  try simp only [Act.put, pz0, pz1, pz2]
  refine PF.pf_take0 20 (by kernel_rfl) rfl (fun _ _ _ _ _ h => h) (by kernel_rfl) (fun u => by go_simp; try rfl) ?_
  try simp only [Act.put, pz0, pz1, pz2]
  refine PF.pf_take0 22 (by kernel_rfl) rfl (fun _ _ _ _ _ h => h) (by kernel_rfl) (fun u => by go_simp; try rfl) ?_
  try simp only [Act.put, pz0, pz1, pz2]
  refine PF.pf_take0 23 (by kernel_rfl) rfl (fun _ _ _ _ _ h => h) (by kernel_rfl) (fun u => by go_simp; try rfl) ?_
  try simp only [Act.put, pz0, pz1, pz2]
  refine PF.pf_take1 24 (PF.Same (g) _) (by kernel_rfl) rfl (fun _ _ _ _ _ h => h) (by kernel_rfl) (PF.Same.refl _ _) (fun u hu => by have hcu := hu.cell; go_simp; try rfl) ?_
  try simp only [Act.put, pz0, pz1, pz2]
  refine PF.pf_take0 25 (by kernel_rfl) rfl (fun _ _ _ _ _ h => h) (by kernel_rfl) (fun u => by go_simp; try rfl) ?_
  try simp only [Act.put, pz0, pz1, pz2]
  refine PF.pf_take1 26 (PF.Same (g) _) (by kernel_rfl) rfl (fun _ _ _ _ _ h => h) (by kernel_rfl) (PF.Same.refl _ _) (fun u hu => by have hcu := hu.cell; go_simp; try rfl) ?_
  try simp only [Act.put, pz0, pz1, pz2]
  refine PF.pf_take0 27 (by kernel_rfl) rfl (fun _ _ _ _ _ h => h) (by kernel_rfl) (fun u => by go_simp; try rfl) ?_
  try simp only [Act.put, pz0, pz1, pz2]
  refine PF.pf_take1 28 (PF.Same (g) _) (by kernel_rfl) rfl (fun _ _ _ _ _ h => h) (by kernel_rfl) (PF.Same.refl _ _) (fun u hu => by have hcu := hu.cell; go_simp; try rfl) ?_
  try simp only [Act.put, pz0, pz1, pz2]
  refine PF.pf_take0 30 (by kernel_rfl) rfl (fun _ _ _ _ _ h => h) (by kernel_rfl) (fun u => by go_simp; try rfl) ?_
  try simp only [Act.put, pz0, pz1, pz2]
  refine PF.pf_take1 31 (PF.Same (g) _) (by kernel_rfl) rfl (fun _ _ _ _ _ h => h) (by kernel_rfl) (PF.Same.refl _ _) (fun u hu => by have hcu := hu.cell; go_simp; try rfl) ?_
  try simp only [Act.put, pz0, pz1, pz2]
  refine PF.pf_take0 32 (by kernel_rfl) rfl (fun _ _ _ _ _ h => h) (by kernel_rfl) (fun u => by go_simp; try rfl) ?_
  try simp only [Act.put, pz0, pz1, pz2]
  refine PF.pf_take1 33 (PF.Same (g) _) (by kernel_rfl) rfl (fun _ _ _ _ _ h => h) (by kernel_rfl) (PF.Same.refl _ _) (fun u hu => by have hcu := hu.cell; go_simp; try rfl) ?_
  try simp only [Act.put, pz0, pz1, pz2]
  refine PF.pf_fork [21, 29] (by kernel_rfl) rfl (PF.fork_cons ?_ (PF.fork_cons ?_ PF.fork_nil))
  -- number 21 first
  · refine PF.step_one rfl (by kernel_rfl) (fun K hK => ?_)
    go_simp
    refine hK _ _ (by repeat (first | exact PF.owes_nil | refine PF.owes_left ?_ | refine PF.owes_no (by decide +kernel) ?_ | refine PF.owes_yes (by first | exact (below_new w3 _).block g hg3 | exact ((below_new w3 _).alloc (by simp) _).block g hg3) ?_)) ?_
    clear hK K
    try simp only [Act.put, pz0, pz1, pz2]
    refine PF.pf_take0 34 (by kernel_rfl) rfl (fun _ _ _ _ _ h => h) (by kernel_rfl) (fun u => by go_simp; try rfl) ?_
    try simp only [Act.put, pz0, pz1, pz2]
    refine PF.pf_exec 29 (by kernel_rfl) rfl (by kernel_rfl) (fun K hK => ?_)
    go_simp
    refine hK _ _ (by repeat (first | exact PF.owes_nil | refine PF.owes_left ?_ | refine PF.owes_no (by decide +kernel) ?_ | refine PF.owes_yes (by first | exact (below_new w3 _).block g hg3 | exact ((below_new w3 _).alloc (by simp) _).block g hg3) ?_)) ?_
    clear hK K
    try simp only [Act.put, pz0, pz1, pz2]
    refine PF.pf_take0 35 (by kernel_rfl) rfl (fun _ _ _ _ _ h => h) (by kernel_rfl) (fun u => by go_simp; try rfl) ?_
    try simp only [Act.put, pz0, pz1, pz2]
    refine PF.pf_take0 36 (by kernel_rfl) rfl (fun _ _ _ _ _ h => h) (by kernel_rfl) (fun u => by go_simp; try rfl) ?_
    try simp only [Act.put, pz0, pz1, pz2]
    refine PF.pf_take0 37 (by kernel_rfl) rfl (fun _ _ _ _ _ h => h) (by kernel_rfl) (fun u => by go_simp; try rfl) ?_
    try simp only [Act.put, pz0, pz1, pz2]
    refine PF.pf_done (by kernel_rfl) ?_
    go_wp2_with fail
    (try simp only [Exit.inBlock, Exit.then])
    refine bodyPost_ret (results_tmp4 rfl _ _ _) rfl ?_
    rw [HUS.out, HVS.out]
    first | exact ⟨DRow.one w3 _ _, HBE.out _ _⟩ | exact ⟨DRow.two w3 _ _, HBE.out _ _⟩
  -- number 29 first
  · refine PF.step_one rfl (by kernel_rfl) (fun K hK => ?_)
    go_simp
    refine hK _ _ (by repeat (first | exact PF.owes_nil | refine PF.owes_left ?_ | refine PF.owes_no (by decide +kernel) ?_ | refine PF.owes_yes (by first | exact (below_new w3 _).block g hg3 | exact ((below_new w3 _).alloc (by simp) _).block g hg3) ?_)) ?_
    clear hK K
    try simp only [Act.put, pz0, pz1, pz2]
    refine PF.pf_exec 21 (by kernel_rfl) rfl (by kernel_rfl) (fun K hK => ?_)
    go_simp
    refine hK _ _ (by repeat (first | exact PF.owes_nil | refine PF.owes_left ?_ | refine PF.owes_no (by decide +kernel) ?_ | refine PF.owes_yes (by first | exact (below_new w3 _).block g hg3 | exact ((below_new w3 _).alloc (by simp) _).block g hg3) ?_)) ?_
    clear hK K
    try simp only [Act.put, pz0, pz1, pz2]
    refine PF.pf_take0 34 (by kernel_rfl) rfl (fun _ _ _ _ _ h => h) (by kernel_rfl) (fun u => by go_simp; try rfl) ?_
    try simp only [Act.put, pz0, pz1, pz2]
    refine PF.pf_take0 35 (by kernel_rfl) rfl (fun _ _ _ _ _ h => h) (by kernel_rfl) (fun u => by go_simp; try rfl) ?_
    try simp only [Act.put, pz0, pz1, pz2]
    refine PF.pf_take0 36 (by kernel_rfl) rfl (fun _ _ _ _ _ h => h) (by kernel_rfl) (fun u => by go_simp; try rfl) ?_
    try simp only [Act.put, pz0, pz1, pz2]
    refine PF.pf_take0 37 (by kernel_rfl) rfl (fun _ _ _ _ _ h => h) (by kernel_rfl) (fun u => by go_simp; try rfl) ?_
    try simp only [Act.put, pz0, pz1, pz2]
    refine PF.pf_done (by kernel_rfl) ?_
    go_wp2_with fail
    (try simp only [Exit.inBlock, Exit.then])
    refine bodyPost_ret (results_tmp4 rfl _ _ _) rfl ?_
    rw [HUS.out, HVS.out]
    first | exact ⟨DRow.one w3 _ _, HBE.out _ _⟩ | exact ⟨DRow.two w3 _ _, HBE.out _ _⟩
end Go.Proofs.YtdckdjkkaangmaaDoor

/- The document's row of a packet: call, reply. -/
namespace Go.Proofs.YtdckdjkkaangmaaDoor
set_option linter.unusedVariables false
set_option linter.unusedSimpArgs false
set_option maxRecDepth 100000
open Go.RowKit

theorem zero_call (w : World) : (zeroValue 39).run Tryd.prog w = .ok (.agg #[.int .i64 0, .int .u64 0, .int .u64 0, .int .i64 0, .int .i64 0, .int .i64 0, .int .u64 0, .int .u64 0, .slice none 0 0]) w := (zero_of_info (n := 9) (by kernel_rfl)).1 w
set_option maxRecDepth 100000 in
set_option maxHeartbeats 16000000 in
theorem drow_call {w : World} {cs : Array Value} {P : Pk} (hP : PkV w cs P) (hk : P.n 0 = 5) {A : Option Addr} {c : Nat} (htx : cs[46]? = some (.slice A (P.t 46).length c)) :
    Calls Tryd.prog 47 #[.agg cs] w fun e w' => DRow ((schema 5).map (fldU P.n)) (((schema 5).filter fun f => !f.1).map (fldI P.n)) (.slice A (P.t 46).length c) (.slice none 0 0) e w' ∧ Below w.heap.size w w' := by
  have hB1 : Blk (w.alloc (.cells cs 44)) w.heap.size 44 cs := Blk.new _ _ _
  have hb1 := below_new w (.cells cs 44)
  have hs1 : (w.alloc (.cells cs 44)).heap.size = w.heap.size + 1 := by simp
  have HA1 := Lib.hid hB1
  have HB1 := Lib.hid hb1
  have HS1 := Lib.hid hs1
  have HP := Lib.hid hP
  have HTX := Lib.hid htx
  have HZ := Lib.hid (rng_len hP.size (o := 38) (n := 9) (by omega))
  have HI : Hid ((Tryd.prog.info? 39).map (·.size) = some (rng cs 38 9).length) := (by show _ = _; rw [HZ.out]; kernel_rfl)
  have HO : Hid (∀ v ∈ (rng cs 38 9).toArray.toList, v.oneCell' = true) := fun v hv => hP.one v (List.mem_of_mem_drop (List.mem_of_mem_take (show v ∈ (cs.toList.drop 38).take 9 from hv)))
  have HR : Hid ((w.alloc (.cells cs 44)).rangeAt w.heap.size 38 (rng cs 38 9)) := hB1.range 38 9
  have z0 := (hB1.cell 0).trans hP.kind.1
  rw [hk] at z0
  clear hB1 hb1 hs1 hP hk htx
  go_enter Tryd.func47, Tryd.ntmps47
  go_wp2_with (refine wpList_load_rg rfl (ty := 39) rfl rfl HR.out Tryd.underlying39 rfl HI.out ?_; refine Hid.out ?_)
  refine Lib.hid ?_
  clear z0
  go_wp2_with (refine wpList_alloc_blk rfl rfl zero_call ?_; rintro g w2 hg hB2 hb2; refine Hid.out ?_)
  refine Lib.hid ?_
  go_wp2_with (refine wpList_store_blk rfl rfl rfl rfl hB2 (by show 9 = (rng cs 38 9).toArray.size; rw [List.size_toArray, HZ.out]) (by rw [List.size_toArray]; exact HI.out) HO.out ?_; rintro w3 hB3 hm3; refine Hid.out ?_)
  refine Lib.hid ?_
  have hg3 := hB3.lt
  have HB3 : Hid (Below w.heap.size w w3) := (HB1.out.trans (hb2.mono HB1.out.size)).trans (hm3.to_below (by have := hb2.size; have := HS1.out; omega) fun b hb e => by have := HS1.out; omega)
  have q0 := (hB3.cell 0).trans ((rng_get (by omega)).trans (HP.out.ints 38 (by decide)).1)
  have q1 := (hB3.cell 1).trans ((rng_get (by omega)).trans (HP.out.nums 39 (by decide)).1)
  have q2 := (hB3.cell 2).trans ((rng_get (by omega)).trans (HP.out.nums 40 (by decide)).1)
  have q3 := (hB3.cell 3).trans ((rng_get (by omega)).trans (HP.out.ints 41 (by decide)).1)
  have q4 := (hB3.cell 4).trans ((rng_get (by omega)).trans (HP.out.ints 42 (by decide)).1)
  have q5 := (hB3.cell 5).trans ((rng_get (by omega)).trans (HP.out.ints 43 (by decide)).1)
  have q6 := (hB3.cell 6).trans ((rng_get (by omega)).trans (HP.out.nums 44 (by decide)).1)
  have q7 := (hB3.cell 7).trans ((rng_get (by omega)).trans (HP.out.nums 45 (by decide)).1)
  have q8 := (hB3.cell 8).trans ((rng_get (by omega)).trans HTX.out)
  have HUS : Hid ((schema 5).map (fldU P.n) = [.int .u64 (IntKind.u64.wrap (P.n 38)), .int .u64 (P.n 39), .int .u64 (P.n 40), .int .u64 (IntKind.u64.wrap (P.n 41)), .int .u64 (IntKind.u64.wrap (P.n 42)), .int .u64 (IntKind.u64.wrap (P.n 43)), .int .u64 (P.n 44), .int .u64 (P.n 45)]) := rfl
  have HVS : Hid (((schema 5).filter fun f => !f.1).map (fldI P.n) = [.int .i64 (P.n 38), .int .i64 (P.n 41), .int .i64 (P.n 42), .int .i64 (P.n 43)]) := rfl
  have HBE : Hid (∀ o o', Below w.heap.size w ((w3.alloc o).alloc o').drew) := fun o o' => ((HB3.out.alloc HB3.out.size _).alloc (by rw [alloc_size]; have := HB3.out.size; omega) _).drew
  clear hB2 hb2 hg hm3 hB3
  go_wp2_with fail
  refine PF.pf_begin (by kernel_rfl) ?_
  refine PF.pf_take0 0 (by kernel_rfl) rfl (fun _ _ _ _ _ h => h) (by kernel_rfl) (fun u => by go_simp; try rfl) ?_
  try simp only [Act.put, pz0, pz1, pz2]
  refine PF.pf_take1 1 (PF.Same (g) _) (by kernel_rfl) rfl (fun _ _ _ _ _ h => h) (by kernel_rfl) (PF.Same.refl _ _) (fun u hu => by have hcu := hu.cell; go_simp; try rfl) ?_
  try simp only [Act.put, pz0, pz1, pz2]
  refine PF.pf_take0 2 (by kernel_rfl) rfl (fun _ _ _ _ _ h => h) (by kernel_rfl) (fun u => by go_simp; try rfl) ?_
  try simp only [Act.put, pz0, pz1, pz2]
  refine PF.pf_take0 3 (by kernel_rfl) rfl (fun _ _ _ _ _ h => h) (by kernel_rfl) (fun u => by go_simp; try rfl) ?_
  try simp only [Act.put, pz0, pz1, pz2]
  refine PF.pf_take1 4 (PF.Same (g) _) (by kernel_rfl) rfl (fun _ _ _ _ _ h => h) (by kernel_rfl) (PF.Same.refl _ _) (fun u hu => by have hcu := hu.cell; go_simp; try rfl) ?_
  try simp only [Act.put, pz0, pz1, pz2]
  refine PF.pf_take0 5 (by kernel_rfl) rfl (fun _ _ _ _ _ h => h) (by kernel_rfl) (fun u => by go_simp; try rfl) ?_
  try simp only [Act.put, pz0, pz1, pz2]
  refine PF.pf_take1 6 (PF.Same (g) _) (by kernel_rfl) rfl (fun _ _ _ _ _ h => h) (by kernel_rfl) (PF.Same.refl _ _) (fun u hu => by have hcu := hu.cell; go_simp; try rfl) ?_
  try simp only [Act.put, pz0, pz1, pz2]
  refine PF.pf_take0 7 (by kernel_rfl) rfl (fun _ _ _ _ _ h => h) (by kernel_rfl) (fun u => by go_simp; try rfl) ?_
  try simp only [Act.put, pz0, pz1, pz2]
  refine PF.pf_take1 8 (PF.Same (g) _) (by kernel_rfl) rfl (fun _ _ _ _ _ h => h) (by kernel_rfl) (PF.Same.refl _ _) (fun u hu => by have hcu := hu.cell; go_simp; try rfl) ?_
  try simp only [Act.put, pz0, pz1, pz2]
  refine PF.pf_take0 9 (by kernel_rfl) rfl (fun _ _ _ _ _ h => h) (by kernel_rfl) (fun u => by go_simp; try rfl) ?_
  try simp only [Act.put, pz0, pz1, pz2]
  refine PF.pf_take0 10 (by kernel_rfl) rfl (fun _ _ _ _ _ h => h) (by kernel_rfl) (fun u => by go_simp; try rfl) ?_
  try simp only [Act.put, pz0, pz1, pz2]
  refine PF.pf_take1 11 (PF.Same (g) _) (by kernel_rfl) rfl (fun _ _ _ _ _ h => h) (by kernel_rfl) (PF.Same.refl _ _) (fun u hu => by have hcu := hu.cell; go_simp; try rfl) ?_
  try simp only [Act.put, pz0, pz1, pz2]
  refine PF.pf_take0 12 (by kernel_rfl) rfl (fun _ _ _ _ _ h => h) (by kernel_rfl) (fun u => by go_simp; try rfl) ?_
  try simp only [Act.put, pz0, pz1, pz2]
  refine PF.pf_take0 13 (by kernel_rfl) rfl (fun _ _ _ _ _ h => h) (by kernel_rfl) (fun u => by go_simp; try rfl) ?_
  try simp only [Act.put, pz0, pz1, pz2]
  refine PF.pf_take1 14 (PF.Same (g) _) (by kernel_rfl) rfl (fun _ _ _ _ _ h => h) (by kernel_rfl) (PF.Same.refl _ _) (fun u hu => by have hcu := hu.cell; go_simp; try rfl) ?_
  try simp only [Act.put, pz0, pz1, pz2]
  refine PF.pf_take0 15 (by kernel_rfl) rfl (fun _ _ _ _ _ h => h) (by kernel_rfl) (fun u => by go_simp; try rfl) ?_
  try simp only [Act.put, pz0, pz1, pz2]
  refine PF.pf_take0 16 (by kernel_rfl) rfl (fun _ _ _ _ _ h => h) (by kernel_rfl) (fun u => by go_simp; try rfl) ?_
  try simp only [Act.put, pz0, pz1, pz2]
  refine PF.pf_take1 17 (PF.Same (g) _) (by kernel_rfl) rfl (fun _ _ _ _ _ h => h) (by kernel_rfl) (PF.Same.refl _ _) (fun u hu => by have hcu := hu.cell; go_simp; try rfl) ?_
  try simp only [Act.put, pz0, pz1, pz2]
  refine PF.pf_take0 18 (by kernel_rfl) rfl (fun _ _ _ _ _ h => h) (by kernel_rfl) (fun u => by go_simp; try rfl) ?_
  try simp only [Act.put, pz0, pz1, pz2]
  refine PF.pf_take1 19 (PF.Same (g) _) (by kernel_rfl) rfl (fun _ _ _ _ _ h => h) (by kernel_rfl) (PF.Same.refl _ _) (fun u hu => by have hcu := hu.cell; go_simp; try rfl) ?_
  try simp only [Act.put, pz0, pz1, pz2]
  refine PF.pf_take0 21 (by kernel_rfl) rfl (fun _ _ _ _ _ h => h) (by kernel_rfl) (fun u => by go_simp; try rfl) ?_
  try simp only [Act.put, pz0, pz1, pz2]
  refine PF.pf_take1 22 (PF.Same (g) _) (by kernel_rfl) rfl (fun _ _ _ _ _ h => h) (by kernel_rfl) (PF.Same.refl _ _) (fun u hu => by have hcu := hu.cell; go_simp; try rfl) ?_
  try simp only [Act.put, pz0, pz1, pz2]
  refine PF.pf_take0 23 (by kernel_rfl) rfl (fun _ _ _ _ _ h => h) (by kernel_rfl) (fun u => by go_simp; try rfl) ?_
  try simp only [Act.put, pz0, pz1, pz2]
  refine PF.pf_take1 24 (PF.Same (g) _) (by kernel_rfl) rfl (fun _ _ _ _ _ h => h) (by kernel_rfl) (PF.Same.refl _ _) (fun u hu => by have hcu := hu.cell; go_simp; try rfl) ?_
  try simp only [Act.put, pz0, pz1, pz2]
  refine PF.pf_take0 25 (by kernel_rfl) rfl (fun _ _ _ _ _ h => h) (by kernel_rfl) (fun u => by go_simp; try rfl) ?_
  try simp only [Act.put, pz0, pz1, pz2]
  refine PF.pf_take1 26 (PF.Same (g) _) (by kernel_rfl) rfl (fun _ _ _ _ _ h => h) (by kernel_rfl) (PF.Same.refl _ _) (fun u hu => by have hcu := hu.cell; go_simp; try rfl) ?_
  try simp only [Act.put, pz0, pz1, pz2]
  refine PF.pf_take0 27 (by kernel_rfl) rfl (fun _ _ _ _ _ h => h) (by kernel_rfl) (fun u => by go_simp; try rfl) ?_
  try simp only [Act.put, pz0, pz1, pz2]
  refine PF.pf_take1 28 (PF.Same (g) _) (by kernel_rfl) rfl (fun _ _ _ _ _ h => h) (by kernel_rfl) (PF.Same.refl _ _) (fun u hu => by have hcu := hu.cell; go_simp; try rfl) ?_
  try simp only [Act.put, pz0, pz1, pz2]
  refine PF.pf_take0 30 (by kernel_rfl) rfl (fun _ _ _ _ _ h => h) (by kernel_rfl) (fun u => by go_simp; try rfl) ?_
  try simp only [Act.put, pz0, pz1, pz2]
  refine PF.pf_take1 31 (PF.Same (g) _) (by kernel_rfl) rfl (fun _ _ _ _ _ h => h) (by kernel_rfl) (PF.Same.refl _ _) (fun u hu => by have hcu := hu.cell; go_simp; try rfl) ?_
  try simp only [Act.put, pz0, pz1, pz2]
  refine PF.pf_fork [20, 29] (by kernel_rfl) rfl (PF.fork_cons ?_ (PF.fork_cons ?_ PF.fork_nil))
  -- number 20 first
  · refine PF.step_one rfl (by kernel_rfl) (fun K hK => ?_)
    go_simp
    refine hK _ _ (by repeat (first | exact PF.owes_nil | refine PF.owes_left ?_ | refine PF.owes_no (by decide +kernel) ?_ | refine PF.owes_yes (by first | exact (below_new w3 _).block g hg3 | exact ((below_new w3 _).alloc (by simp) _).block g hg3) ?_)) ?_
    clear hK K
    try simp only [Act.put, pz0, pz1, pz2]
    refine PF.pf_take0 32 (by kernel_rfl) rfl (fun _ _ _ _ _ h => h) (by kernel_rfl) (fun u => by go_simp; try rfl) ?_
    try simp only [Act.put, pz0, pz1, pz2]
    refine PF.pf_exec 29 (by kernel_rfl) rfl (by kernel_rfl) (fun K hK => ?_)
    go_simp
    refine hK _ _ (by repeat (first | exact PF.owes_nil | refine PF.owes_left ?_ | refine PF.owes_no (by decide +kernel) ?_ | refine PF.owes_yes (by first | exact (below_new w3 _).block g hg3 | exact ((below_new w3 _).alloc (by simp) _).block g hg3) ?_)) ?_
    clear hK K
    try simp only [Act.put, pz0, pz1, pz2]
    refine PF.pf_take0 33 (by kernel_rfl) rfl (fun _ _ _ _ _ h => h) (by kernel_rfl) (fun u => by go_simp; try rfl) ?_
    try simp only [Act.put, pz0, pz1, pz2]
    refine PF.pf_take0 34 (by kernel_rfl) rfl (fun _ _ _ _ _ h => h) (by kernel_rfl) (fun u => by go_simp; try rfl) ?_
    try simp only [Act.put, pz0, pz1, pz2]
    refine PF.pf_take0 35 (by kernel_rfl) rfl (fun _ _ _ _ _ h => h) (by kernel_rfl) (fun u => by go_simp; try rfl) ?_
    try simp only [Act.put, pz0, pz1, pz2]
    refine PF.pf_done (by kernel_rfl) ?_
    go_wp2_with fail
    (try simp only [Exit.inBlock, Exit.then])
    refine bodyPost_ret (results_tmp4 rfl _ _ _) rfl ?_
    rw [HUS.out, HVS.out]
    first | exact ⟨DRow.one w3 _ _, HBE.out _ _⟩ | exact ⟨DRow.two w3 _ _, HBE.out _ _⟩
  -- number 29 first
  · refine PF.step_one rfl (by kernel_rfl) (fun K hK => ?_)
    go_simp
    refine hK _ _ (by repeat (first | exact PF.owes_nil | refine PF.owes_left ?_ | refine PF.owes_no (by decide +kernel) ?_ | refine PF.owes_yes (by first | exact (below_new w3 _).block g hg3 | exact ((below_new w3 _).alloc (by simp) _).block g hg3) ?_)) ?_
    clear hK K
    try simp only [Act.put, pz0, pz1, pz2]
    refine PF.pf_exec 20 (by kernel_rfl) rfl (by kernel_rfl) (fun K hK => ?_)
    go_simp
    refine hK _ _ (by repeat (first | exact PF.owes_nil | refine PF.owes_left ?_ | refine PF.owes_no (by decide +kernel) ?_ | refine PF.owes_yes (by first | exact (below_new w3 _).block g hg3 | exact ((below_new w3 _).alloc (by simp) _).block g hg3) ?_)) ?_
    clear hK K
    try simp only [Act.put, pz0, pz1, pz2]
    refine PF.pf_take0 32 (by kernel_rfl) rfl (fun _ _ _ _ _ h => h) (by kernel_rfl) (fun u => by go_simp; try rfl) ?_
    try simp only [Act.put, pz0, pz1, pz2]
    refine PF.pf_take0 33 (by kernel_rfl) rfl (fun _ _ _ _ _ h => h) (by kernel_rfl) (fun u => by go_simp; try rfl) ?_
    try simp only [Act.put, pz0, pz1, pz2]
    refine PF.pf_take0 34 (by kernel_rfl) rfl (fun _ _ _ _ _ h => h) (by kernel_rfl) (fun u => by go_simp; try rfl) ?_
    try simp only [Act.put, pz0, pz1, pz2]
    refine PF.pf_take0 35 (by kernel_rfl) rfl (fun _ _ _ _ _ h => h) (by kernel_rfl) (fun u => by go_simp; try rfl) ?_
    try simp only [Act.put, pz0, pz1, pz2]
    refine PF.pf_done (by kernel_rfl) ?_
    go_wp2_with fail
    (try simp only [Exit.inBlock, Exit.then])
    refine bodyPost_ret (results_tmp4 rfl _ _ _) rfl ?_
    rw [HUS.out, HVS.out]
    first | exact ⟨DRow.one w3 _ _, HBE.out _ _⟩ | exact ⟨DRow.two w3 _ _, HBE.out _ _⟩
theorem zero_reply (w : World) : (zeroValue 42).run Tryd.prog w = .ok (.agg #[.int .i64 0, .int .u64 0, .int .u64 0, .int .i64 0, .int .u64 0, .int .i64 0, .int .i64 0, .int .u64 0, .slice none 0 0]) w := (zero_of_info (n := 9) (by kernel_rfl)).1 w
set_option maxRecDepth 100000 in
set_option maxHeartbeats 16000000 in
theorem drow_reply {w : World} {cs : Array Value} {P : Pk} (hP : PkV w cs P) (hk : P.n 0 = 6) {A : Option Addr} {c : Nat} (htx : cs[55]? = some (.slice A (P.t 55).length c)) :
    Calls Tryd.prog 47 #[.agg cs] w fun e w' => DRow ((schema 6).map (fldU P.n)) (((schema 6).filter fun f => !f.1).map (fldI P.n)) (.slice A (P.t 55).length c) (.slice none 0 0) e w' ∧ Below w.heap.size w w' := by
  have hB1 : Blk (w.alloc (.cells cs 44)) w.heap.size 44 cs := Blk.new _ _ _
  have hb1 := below_new w (.cells cs 44)
  have hs1 : (w.alloc (.cells cs 44)).heap.size = w.heap.size + 1 := by simp
  have HA1 := Lib.hid hB1
  have HB1 := Lib.hid hb1
  have HS1 := Lib.hid hs1
  have HP := Lib.hid hP
  have HTX := Lib.hid htx
  have HZ := Lib.hid (rng_len hP.size (o := 47) (n := 9) (by omega))
  have HI : Hid ((Tryd.prog.info? 42).map (·.size) = some (rng cs 47 9).length) := (by show _ = _; rw [HZ.out]; kernel_rfl)
  have HO : Hid (∀ v ∈ (rng cs 47 9).toArray.toList, v.oneCell' = true) := fun v hv => hP.one v (List.mem_of_mem_drop (List.mem_of_mem_take (show v ∈ (cs.toList.drop 47).take 9 from hv)))
  have HR : Hid ((w.alloc (.cells cs 44)).rangeAt w.heap.size 47 (rng cs 47 9)) := hB1.range 47 9
  have z0 := (hB1.cell 0).trans hP.kind.1
  rw [hk] at z0
  clear hB1 hb1 hs1 hP hk htx
  go_enter Tryd.func47, Tryd.ntmps47
  go_wp2_with (refine wpList_load_rg rfl (ty := 42) rfl rfl HR.out Tryd.underlying42 rfl HI.out ?_; refine Hid.out ?_)
  refine Lib.hid ?_
  clear z0
  go_wp2_with (refine wpList_alloc_blk rfl rfl zero_reply ?_; rintro g w2 hg hB2 hb2; refine Hid.out ?_)
  refine Lib.hid ?_
  go_wp2_with (refine wpList_store_blk rfl rfl rfl rfl hB2 (by show 9 = (rng cs 47 9).toArray.size; rw [List.size_toArray, HZ.out]) (by rw [List.size_toArray]; exact HI.out) HO.out ?_; rintro w3 hB3 hm3; refine Hid.out ?_)
  refine Lib.hid ?_
  have hg3 := hB3.lt
  have HB3 : Hid (Below w.heap.size w w3) := (HB1.out.trans (hb2.mono HB1.out.size)).trans (hm3.to_below (by have := hb2.size; have := HS1.out; omega) fun b hb e => by have := HS1.out; omega)
  have q0 := (hB3.cell 0).trans ((rng_get (by omega)).trans (HP.out.ints 47 (by decide)).1)
  have q1 := (hB3.cell 1).trans ((rng_get (by omega)).trans (HP.out.nums 48 (by decide)).1)
  have q2 := (hB3.cell 2).trans ((rng_get (by omega)).trans (HP.out.nums 49 (by decide)).1)
  have q3 := (hB3.cell 3).trans ((rng_get (by omega)).trans (HP.out.ints 50 (by decide)).1)
  have q4 := (hB3.cell 4).trans ((rng_get (by omega)).trans (HP.out.nums 51 (by decide)).1)
  have q5 := (hB3.cell 5).trans ((rng_get (by omega)).trans (HP.out.ints 52 (by decide)).1)
  have q6 := (hB3.cell 6).trans ((rng_get (by omega)).trans (HP.out.ints 53 (by decide)).1)
  have q7 := (hB3.cell 7).trans ((rng_get (by omega)).trans (HP.out.nums 54 (by decide)).1)
  have q8 := (hB3.cell 8).trans ((rng_get (by omega)).trans HTX.out)
  have HUS : Hid ((schema 6).map (fldU P.n) = [.int .u64 (IntKind.u64.wrap (P.n 47)), .int .u64 (P.n 48), .int .u64 (P.n 49), .int .u64 (IntKind.u64.wrap (P.n 50)), .int .u64 (P.n 51), .int .u64 (IntKind.u64.wrap (P.n 52)), .int .u64 (IntKind.u64.wrap (P.n 53)), .int .u64 (P.n 54)]) := rfl
  have HVS : Hid (((schema 6).filter fun f => !f.1).map (fldI P.n) = [.int .i64 (P.n 47), .int .i64 (P.n 50), .int .i64 (P.n 52), .int .i64 (P.n 53)]) := rfl
  have HBE : Hid (∀ o o', Below w.heap.size w ((w3.alloc o).alloc o').drew) := fun o o' => ((HB3.out.alloc HB3.out.size _).alloc (by rw [alloc_size]; have := HB3.out.size; omega) _).drew
  clear hB2 hb2 hg hm3 hB3
  go_wp2_with fail
  refine PF.pf_begin (by kernel_rfl) ?_
  refine PF.pf_take0 0 (by kernel_rfl) rfl (fun _ _ _ _ _ h => h) (by kernel_rfl) (fun u => by go_simp; try rfl) ?_
  try simp only [Act.put, pz0, pz1, pz2]
  refine PF.pf_take1 1 (PF.Same (g) _) (by kernel_rfl) rfl (fun _ _ _ _ _ h => h) (by kernel_rfl) (PF.Same.refl _ _) (fun u hu => by have hcu := hu.cell; go_simp; try rfl) ?_
  try simp only [Act.put, pz0, pz1, pz2]
  refine PF.pf_take0 2 (by kernel_rfl) rfl (fun _ _ _ _ _ h => h) (by kernel_rfl) (fun u => by go_simp; try rfl) ?_
  try simp only [Act.put, pz0, pz1, pz2]
  refine PF.pf_take0 3 (by kernel_rfl) rfl (fun _ _ _ _ _ h => h) (by kernel_rfl) (fun u => by go_simp; try rfl) ?_
  try simp only [Act.put, pz0, pz1, pz2]
  refine PF.pf_take1 4 (PF.Same (g) _) (by kernel_rfl) rfl (fun _ _ _ _ _ h => h) (by kernel_rfl) (PF.Same.refl _ _) (fun u hu => by have hcu := hu.cell; go_simp; try rfl) ?_
  try simp only [Act.put, pz0, pz1, pz2]
  refine PF.pf_take0 5 (by kernel_rfl) rfl (fun _ _ _ _ _ h => h) (by kernel_rfl) (fun u => by go_simp; try rfl) ?_
  try simp only [Act.put, pz0, pz1, pz2]
  refine PF.pf_take1 6 (PF.Same (g) _) (by kernel_rfl) rfl (fun _ _ _ _ _ h => h) (by kernel_rfl) (PF.Same.refl _ _) (fun u hu => by have hcu := hu.cell; go_simp; try rfl) ?_
  try simp only [Act.put, pz0, pz1, pz2]
  refine PF.pf_take0 7 (by kernel_rfl) rfl (fun _ _ _ _ _ h => h) (by kernel_rfl) (fun u => by go_simp; try rfl) ?_
  try simp only [Act.put, pz0, pz1, pz2]
  refine PF.pf_take1 8 (PF.Same (g) _) (by kernel_rfl) rfl (fun _ _ _ _ _ h => h) (by kernel_rfl) (PF.Same.refl _ _) (fun u hu => by have hcu := hu.cell; go_simp; try rfl) ?_
  try simp only [Act.put, pz0, pz1, pz2]
  refine PF.pf_take0 9 (by kernel_rfl) rfl (fun _ _ _ _ _ h => h) (by kernel_rfl) (fun u => by go_simp; try rfl) ?_
  try simp only [Act.put, pz0, pz1, pz2]
  refine PF.pf_take0 10 (by kernel_rfl) rfl (fun _ _ _ _ _ h => h) (by kernel_rfl) (fun u => by go_simp; try rfl) ?_
  try simp only [Act.put, pz0, pz1, pz2]
  refine PF.pf_take1 11 (PF.Same (g) _) (by kernel_rfl) rfl (fun _ _ _ _ _ h => h) (by kernel_rfl) (PF.Same.refl _ _) (fun u hu => by have hcu := hu.cell; go_simp; try rfl) ?_
  try simp only [Act.put, pz0, pz1, pz2]
  refine PF.pf_take0 12 (by kernel_rfl) rfl (fun _ _ _ _ _ h => h) (by kernel_rfl) (fun u => by go_simp; try rfl) ?_
  try simp only [Act.put, pz0, pz1, pz2]
  refine PF.pf_take1 13 (PF.Same (g) _) (by kernel_rfl) rfl (fun _ _ _ _ _ h => h) (by kernel_rfl) (PF.Same.refl _ _) (fun u hu => by have hcu := hu.cell; go_simp; try rfl) ?_
  try simp only [Act.put, pz0, pz1, pz2]
  refine PF.pf_take0 14 (by kernel_rfl) rfl (fun _ _ _ _ _ h => h) (by kernel_rfl) (fun u => by go_simp; try rfl) ?_
  try simp only [Act.put, pz0, pz1, pz2]
  refine PF.pf_take0 15 (by kernel_rfl) rfl (fun _ _ _ _ _ h => h) (by kernel_rfl) (fun u => by go_simp; try rfl) ?_
  try simp only [Act.put, pz0, pz1, pz2]
  refine PF.pf_take1 16 (PF.Same (g) _) (by kernel_rfl) rfl (fun _ _ _ _ _ h => h) (by kernel_rfl) (PF.Same.refl _ _) (fun u hu => by have hcu := hu.cell; go_simp; try rfl) ?_
  try simp only [Act.put, pz0, pz1, pz2]
  refine PF.pf_take0 17 (by kernel_rfl) rfl (fun _ _ _ _ _ h => h) (by kernel_rfl) (fun u => by go_simp; try rfl) ?_
  try simp only [Act.put, pz0, pz1, pz2]
  refine PF.pf_take0 18 (by kernel_rfl) rfl (fun _ _ _ _ _ h => h) (by kernel_rfl) (fun u => by go_simp; try rfl) ?_
  try simp only [Act.put, pz0, pz1, pz2]
  refine PF.pf_take1 19 (PF.Same (g) _) (by kernel_rfl) rfl (fun _ _ _ _ _ h => h) (by kernel_rfl) (PF.Same.refl _ _) (fun u hu => by have hcu := hu.cell; go_simp; try rfl) ?_
  try simp only [Act.put, pz0, pz1, pz2]
  refine PF.pf_take0 21 (by kernel_rfl) rfl (fun _ _ _ _ _ h => h) (by kernel_rfl) (fun u => by go_simp; try rfl) ?_
  try simp only [Act.put, pz0, pz1, pz2]
  refine PF.pf_take1 22 (PF.Same (g) _) (by kernel_rfl) rfl (fun _ _ _ _ _ h => h) (by kernel_rfl) (PF.Same.refl _ _) (fun u hu => by have hcu := hu.cell; go_simp; try rfl) ?_
  try simp only [Act.put, pz0, pz1, pz2]
  refine PF.pf_take0 23 (by kernel_rfl) rfl (fun _ _ _ _ _ h => h) (by kernel_rfl) (fun u => by go_simp; try rfl) ?_
  try simp only [Act.put, pz0, pz1, pz2]
  refine PF.pf_take1 24 (PF.Same (g) _) (by kernel_rfl) rfl (fun _ _ _ _ _ h => h) (by kernel_rfl) (PF.Same.refl _ _) (fun u hu => by have hcu := hu.cell; go_simp; try rfl) ?_
  try simp only [Act.put, pz0, pz1, pz2]
  refine PF.pf_take0 25 (by kernel_rfl) rfl (fun _ _ _ _ _ h => h) (by kernel_rfl) (fun u => by go_simp; try rfl) ?_
  try simp only [Act.put, pz0, pz1, pz2]
  refine PF.pf_take1 26 (PF.Same (g) _) (by kernel_rfl) rfl (fun _ _ _ _ _ h => h) (by kernel_rfl) (PF.Same.refl _ _) (fun u hu => by have hcu := hu.cell; go_simp; try rfl) ?_
  try simp only [Act.put, pz0, pz1, pz2]
  refine PF.pf_take0 27 (by kernel_rfl) rfl (fun _ _ _ _ _ h => h) (by kernel_rfl) (fun u => by go_simp; try rfl) ?_
  try simp only [Act.put, pz0, pz1, pz2]
  refine PF.pf_take1 28 (PF.Same (g) _) (by kernel_rfl) rfl (fun _ _ _ _ _ h => h) (by kernel_rfl) (PF.Same.refl _ _) (fun u hu => by have hcu := hu.cell; go_simp; try rfl) ?_
  try simp only [Act.put, pz0, pz1, pz2]
  refine PF.pf_take0 30 (by kernel_rfl) rfl (fun _ _ _ _ _ h => h) (by kernel_rfl) (fun u => by go_simp; try rfl) ?_
  try simp only [Act.put, pz0, pz1, pz2]
  refine PF.pf_take1 31 (PF.Same (g) _) (by kernel_rfl) rfl (fun _ _ _ _ _ h => h) (by kernel_rfl) (PF.Same.refl _ _) (fun u hu => by have hcu := hu.cell; go_simp; try rfl) ?_
  try simp only [Act.put, pz0, pz1, pz2]
  refine PF.pf_fork [20, 29] (by kernel_rfl) rfl (PF.fork_cons ?_ (PF.fork_cons ?_ PF.fork_nil))
  -- number 20 first
  · refine PF.step_one rfl (by kernel_rfl) (fun K hK => ?_)
    go_simp
    refine hK _ _ (by repeat (first | exact PF.owes_nil | refine PF.owes_left ?_ | refine PF.owes_no (by decide +kernel) ?_ | refine PF.owes_yes (by first | exact (below_new w3 _).block g hg3 | exact ((below_new w3 _).alloc (by simp) _).block g hg3) ?_)) ?_
    clear hK K
    try simp only [Act.put, pz0, pz1, pz2]
    refine PF.pf_take0 32 (by kernel_rfl) rfl (fun _ _ _ _ _ h => h) (by kernel_rfl) (fun u => by go_simp; try rfl) ?_
    try simp only [Act.put, pz0, pz1, pz2]
    refine PF.pf_exec 29 (by kernel_rfl) rfl (by kernel_rfl) (fun K hK => ?_)
    go_simp
    refine hK _ _ (by repeat (first | exact PF.owes_nil | refine PF.owes_left ?_ | refine PF.owes_no (by decide +kernel) ?_ | refine PF.owes_yes (by first | exact (below_new w3 _).block g hg3 | exact ((below_new w3 _).alloc (by simp) _).block g hg3) ?_)) ?_
    clear hK K
    try simp only [Act.put, pz0, pz1, pz2]
    refine PF.pf_take0 33 (by kernel_rfl) rfl (fun _ _ _ _ _ h => h) (by kernel_rfl) (fun u => by go_simp; try rfl) ?_
    try simp only [Act.put, pz0, pz1, pz2]
    refine PF.pf_take0 34 (by kernel_rfl) rfl (fun _ _ _ _ _ h => h) (by kernel_rfl) (fun u => by go_simp; try rfl) ?_
    try simp only [Act.put, pz0, pz1, pz2]
    refine PF.pf_take0 35 (by kernel_rfl) rfl (fun _ _ _ _ _ h => h) (by kernel_rfl) (fun u => by go_simp; try rfl) ?_
    try simp only [Act.put, pz0, pz1, pz2]
    refine PF.pf_done (by kernel_rfl) ?_
    go_wp2_with fail
    (try simp only [Exit.inBlock, Exit.then])
    refine bodyPost_ret (results_tmp4 rfl _ _ _) rfl ?_
    rw [HUS.out, HVS.out]
    first | exact ⟨DRow.one w3 _ _, HBE.out _ _⟩ | exact ⟨DRow.two w3 _ _, HBE.out _ _⟩
  -- number 29 first
  · refine PF.step_one rfl (by kernel_rfl) (fun K hK => ?_)
    go_simp
    refine hK _ _ (by repeat (first | exact PF.owes_nil | refine PF.owes_left ?_ | refine PF.owes_no (by decide +kernel) ?_ | refine PF.owes_yes (by first | exact (below_new w3 _).block g hg3 | exact ((below_new w3 _).alloc (by simp) _).block g hg3) ?_)) ?_
    clear hK K
    try simp only [Act.put, pz0, pz1, pz2]
    refine PF.pf_exec 20 (by kernel_rfl) rfl (by kernel_rfl) (fun K hK => ?_)
    go_simp
    refine hK _ _ (by repeat (first | exact PF.owes_nil | refine PF.owes_left ?_ | refine PF.owes_no (by decide +kernel) ?_ | refine PF.owes_yes (by first | exact (below_new w3 _).block g hg3 | exact ((below_new w3 _).alloc (by simp) _).block g hg3) ?_)) ?_
    clear hK K
    try simp only [Act.put, pz0, pz1, pz2]
    refine PF.pf_take0 32 (by kernel_rfl) rfl (fun _ _ _ _ _ h => h) (by kernel_rfl) (fun u => by go_simp; try rfl) ?_
    try simp only [Act.put, pz0, pz1, pz2]
    refine PF.pf_take0 33 (by kernel_rfl) rfl (fun _ _ _ _ _ h => h) (by kernel_rfl) (fun u => by go_simp; try rfl) ?_
    try simp only [Act.put, pz0, pz1, pz2]
    refine PF.pf_take0 34 (by kernel_rfl) rfl (fun _ _ _ _ _ h => h) (by kernel_rfl) (fun u => by go_simp; try rfl) ?_
    try simp only [Act.put, pz0, pz1, pz2]
    refine PF.pf_take0 35 (by kernel_rfl) rfl (fun _ _ _ _ _ h => h) (by kernel_rfl) (fun u => by go_simp; try rfl) ?_
    try simp only [Act.put, pz0, pz1, pz2]
    refine PF.pf_done (by kernel_rfl) ?_
    go_wp2_with fail
    (try simp only [Exit.inBlock, Exit.then])
    refine bodyPost_ret (results_tmp4 rfl _ _ _) rfl ?_
    rw [HUS.out, HVS.out]
    first | exact ⟨DRow.one w3 _ _, HBE.out _ _⟩ | exact ⟨DRow.two w3 _ _, HBE.out _ _⟩
end Go.Proofs.YtdckdjkkaangmaaDoor

/- The document's row of any packet. -/
namespace Go.Proofs.YtdckdjkkaangmaaDoor
set_option linter.unusedVariables false
set_option linter.unusedSimpArgs false
set_option maxRecDepth 100000
open Go.RowKit

/-- The list that is written. -/
def kK (P : Pk) : List Nat := if P.n 0 = 3 then P.k else []
def DRowP (P : Pk) (e : Ending) (w' : World) : Prop :=
  ∃ A c A2 c2, Bytes w' A (P.t (txtO (P.n 0))) ∧ Keeps w' A2 (kK P) ∧ DRow ((schema (P.n 0)).map (fldU P.n)) (((schema (P.n 0)).filter fun f => !f.1).map (fldI P.n)) (.slice A (P.t (txtO (P.n 0))).length c) (.slice A2 (kK P).length c2) e w'
theorem drow_any {w : World} {cs : Array Value} {P : Pk} (hP : PkV w cs P) (h1 : 1 ≤ P.n 0) (h6 : P.n 0 ≤ 6) : Calls Tryd.prog 47 #[.agg cs] w fun e w' => DRowP P e w' ∧ Below w.heap.size w w' := by
  have no : ∀ k : Int, P.n 0 = k → k ≠ 3 → kK P = [] := fun k e h => by unfold kK; rw [if_neg (by omega)]
  by_cases hk : P.n 0 = 1
  · obtain ⟨A, c, e1, e2, _⟩ := hP.txts 6 (by decide)
    refine (drow_ask hP hk e1).mono fun e w' ⟨hd, hb⟩ => ⟨?_, hb⟩
    have hkk := no 1 hk (by decide)
    unfold DRowP
    rw [hkk, hk]
    exact ⟨A, c, none, 0, e2.below hb, Reads.nil_ _ _ _, hd⟩
  by_cases hk : P.n 0 = 2
  · obtain ⟨A, c, e1, e2, _⟩ := hP.txts 18 (by decide)
    refine (drow_says hP hk e1).mono fun e w' ⟨hd, hb⟩ => ⟨?_, hb⟩
    have hkk := no 2 hk (by decide)
    unfold DRowP
    rw [hkk, hk]
    exact ⟨A, c, none, 0, e2.below hb, Reads.nil_ _ _ _, hd⟩
  by_cases hk : P.n 0 = 3
  · obtain ⟨A, c, e1, e2, _⟩ := hP.txts 27 (by decide)
    obtain ⟨A2, c2, f1, f2, _⟩ := hP.keep
    refine (drow_req hP hk e1 f1).mono fun e w' ⟨hd, hb⟩ => ⟨?_, hb⟩
    have hkk : kK P = P.k := by unfold kK; rw [if_pos hk]
    unfold DRowP
    rw [hkk, hk]
    exact ⟨A, c, A2, c2, e2.below hb, Reads.below f2 hb, hd⟩
  by_cases hk : P.n 0 = 4
  · obtain ⟨A, c, e1, e2, _⟩ := hP.txts 37 (by decide)
    refine (drow_resp hP hk e1).mono fun e w' ⟨hd, hb⟩ => ⟨?_, hb⟩
    have hkk := no 4 hk (by decide)
    unfold DRowP
    rw [hkk, hk]
    exact ⟨A, c, none, 0, e2.below hb, Reads.nil_ _ _ _, hd⟩
  by_cases hk : P.n 0 = 5
  · obtain ⟨A, c, e1, e2, _⟩ := hP.txts 46 (by decide)
    refine (drow_call hP hk e1).mono fun e w' ⟨hd, hb⟩ => ⟨?_, hb⟩
    have hkk := no 5 hk (by decide)
    unfold DRowP
    rw [hkk, hk]
    exact ⟨A, c, none, 0, e2.below hb, Reads.nil_ _ _ _, hd⟩
  have hk : P.n 0 = 6 := by omega
  obtain ⟨A, c, e1, e2, _⟩ := hP.txts 55 (by decide)
  refine (drow_reply hP hk e1).mono fun e w' ⟨hd, hb⟩ => ⟨?_, hb⟩
  have hkk := no 6 hk (by decide)
  unfold DRowP
  rw [hkk, hk]
  exact ⟨A, c, none, 0, e2.below hb, Reads.nil_ _ _ _, hd⟩
end Go.Proofs.YtdckdjkkaangmaaDoor
