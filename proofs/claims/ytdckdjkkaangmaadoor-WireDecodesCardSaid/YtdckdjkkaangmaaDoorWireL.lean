/- The writing walker over the fields. -/
import Derived.Test.YtdckdjkkaangmaaDoorWireK
namespace Go.Proofs.YtdckdjkkaangmaaDoor
set_option linter.unusedVariables false
set_option linter.unusedSimpArgs false
set_option maxRecDepth 100000
open Go.RowKit

theorem wr_ints (xb : Nat) (w : World) : (method 286 128 (.pointer (some ⟨xb, 0, none⟩)) "scrivener/wire.ints").run Tryd.prog w = .ok (115, .pointer (some ⟨xb, 0, none⟩)) w := by kernel_rfl
theorem wr_nums (xb : Nat) (w : World) : (method 286 128 (.pointer (some ⟨xb, 0, none⟩)) "scrivener/wire.nums").run Tryd.prog w = .ok (117, .pointer (some ⟨xb, 0, none⟩)) w := by kernel_rfl
theorem wr_text (xb : Nat) (w : World) : (method 286 128 (.pointer (some ⟨xb, 0, none⟩)) "scrivener/wire.text").run Tryd.prog w = .ok (118, .pointer (some ⟨xb, 0, none⟩)) w := by kernel_rfl
theorem wr_list (xb : Nat) (w : World) : (method 286 128 (.pointer (some ⟨xb, 0, none⟩)) "scrivener/wire.list").run Tryd.prog w = .ok (116, .pointer (some ⟨xb, 0, none⟩)) w := by kernel_rfl
section
variable {w W : World} {K : Nat → Prop} {xb wb pb : Nat} {T : TypeId} {cs : Array Value} {S : WS}
theorem WTo.var {e : Ending} {w' : World} {S' : WS} (h : WSt w K xb wb pb T cs S) (hb : Below w.heap.size w W) (ht : WTo W (fun b => K b ∨ From w.heap.size W b) xb wb pb T cs S' e w') : WTo w K xb wb pb T cs S' e w' :=
  ⟨ht.1, ht.2.1.less (fun b => .inl) h.kp, (Mod.below hb (Nat.le_refl _)).trans (ht.2.2.mono fun b _ hn hk => hn (.inl hk))⟩
theorem wints_var (h : WSt w K xb wb pb T cs S) (os : List Nat) (hn : os.length ≤ 1000000) (ho : ∀ o ∈ os, IsInt cs o) (hb : Below w.heap.size w W) (hlt : w.heap.size < W.heap.size) (hA : Reads W 1 (some ⟨w.heap.size, 0, none⟩) os.length (os.map (pc pb))) (hl : S.1.length ≤ 1000000000) :
    Calls Tryd.prog 115 #[.pointer (some ⟨xb, 0, none⟩), .slice (some ⟨w.heap.size, 0, none⟩) os.length os.length] W (WTo w K xb wb pb T cs (os.foldl (gInt cs) S)) :=
  (wints_any (h.below hb) os _ _ hA hn (fun ad e => by injection e with e; subst e; exact .inr ⟨Nat.le_refl _, hlt⟩) ho hl).mono fun e w' ht => ht.var h hb
theorem wnums_var (h : WSt w K xb wb pb T cs S) (os : List Nat) (hn : os.length ≤ 1000000) (ho : ∀ o ∈ os, IsNum cs o) (hb : Below w.heap.size w W) (hlt : w.heap.size < W.heap.size) (hA : Reads W 1 (some ⟨w.heap.size, 0, none⟩) os.length (os.map (pc pb))) (hl : S.1.length ≤ 1000000000) :
    Calls Tryd.prog 117 #[.pointer (some ⟨xb, 0, none⟩), .slice (some ⟨w.heap.size, 0, none⟩) os.length os.length] W (WTo w K xb wb pb T cs (os.foldl (gNum cs) S)) :=
  (wnums_any (h.below hb) os _ _ hA hn (fun ad e => by injection e with e; subst e; exact .inr ⟨Nat.le_refl _, hlt⟩) ho hl).mono fun e w' ht => ht.var h hb
end
theorem gNum_len {cs : Array Value} {o : Nat} (h : IsNum cs o) (S : WS) : (gNum cs S o).1.length ≤ S.1.length + 10 := by
  obtain ⟨n, h1, h2, h3⟩ := h
  have := short_len' (cellN cs o).toNat (by unfold cellN; rw [h1]; simp only; omega)
  simp only [gNum, List.length_append]
  omega
theorem gInt_len {cs : Array Value} {o : Nat} (h : IsInt cs o) (S : WS) : (gInt cs S o).1.length ≤ S.1.length + 10 := by
  obtain ⟨n, h1, h2, h3⟩ := h
  have := short_len' (max (cellN cs o) 0).toNat (by unfold cellN; rw [h1]; simp only; omega)
  simp only [gInt, List.length_append]
  omega
theorem gNums_len {cs : Array Value} {os : List Nat} (h : ∀ o ∈ os, IsNum cs o) (S : WS) : (os.foldl (gNum cs) S).1.length ≤ S.1.length + 10 * os.length := by
  induction os generalizing S with
  | nil => simp
  | cons o os ih =>
    have h1 := ih (fun o ho => h o (List.mem_cons_of_mem _ ho)) (gNum cs S o)
    have h2 := gNum_len (h o List.mem_cons_self) S
    rw [List.foldl_cons, List.length_cons]
    omega
theorem gInts_len {cs : Array Value} {os : List Nat} (h : ∀ o ∈ os, IsInt cs o) (S : WS) : (os.foldl (gInt cs) S).1.length ≤ S.1.length + 10 * os.length := by
  induction os generalizing S with
  | nil => simp
  | cons o os ih =>
    have h1 := ih (fun o ho => h o (List.mem_cons_of_mem _ ho)) (gInt cs S o)
    have h2 := gInt_len (h o List.mem_cons_self) S
    rw [List.foldl_cons, List.length_cons]
    omega
def gPl (cs : Array Value) (S : WS) (o : Nat) : WS := gNum cs (gInt cs S o) (o + 1)
def gBal (cs : Array Value) (S : WS) (o : Nat) : WS := gNum cs (gInt cs (gNum cs S o) (o + 1)) (o + 2)
def IsBal (cs : Array Value) (o : Nat) : Prop := IsNum cs o ∧ IsInt cs (o + 1) ∧ IsNum cs (o + 2)
def IsPl (cs : Array Value) (o : Nat) : Prop := IsInt cs o ∧ IsNum cs (o + 1)
theorem gPl_len {cs : Array Value} {o : Nat} (h : IsPl cs o) (S : WS) : (gPl cs S o).1.length ≤ S.1.length + 20 := by
  have h1 := gInt_len h.1 S
  have h2 := gNum_len h.2 (gInt cs S o)
  unfold gPl
  omega
theorem gBal_len {cs : Array Value} {o : Nat} (h : IsBal cs o) (S : WS) : (gBal cs S o).1.length ≤ S.1.length + 30 := by
  have h1 := gNum_len h.1 S
  have h2 := gInt_len h.2.1 (gNum cs S o)
  have h3 := gNum_len h.2.2 (gInt cs (gNum cs S o) (o + 1))
  unfold gBal
  omega
theorem gBals_len {cs : Array Value} {os : List Nat} (h : ∀ o ∈ os, IsBal cs o) (S : WS) : (os.foldl (gBal cs) S).1.length ≤ S.1.length + 30 * os.length := by
  induction os generalizing S with
  | nil => simp
  | cons o os ih =>
    have h1 := ih (fun o ho => h o (List.mem_cons_of_mem _ ho)) (gBal cs S o)
    have h2 := gBal_len (h o List.mem_cons_self) S
    rw [List.foldl_cons, List.length_cons]
    omega
set_option maxHeartbeats 4000000 in
theorem wplace_any {w0 : World} {K : Nat → Prop} {xb wb pb : Nat} {T : TypeId} {cs : Array Value} {S0 : WS} (h : WSt w0 K xb wb pb T cs S0) (j : Nat) (hj : IsPl cs j) (hl : S0.1.length ≤ 900000000) :
    Calls Tryd.prog 60 #[.iface 128 (.pointer (some ⟨xb, 0, none⟩)), pc pb j] w0 (WTo w0 K xb wb pb T cs (gPl cs S0 j)) := by
  have hm1 := wr_ints xb
  have hm2 := wr_nums xb
  have HS0 := Lib.hid h
  have HT0 := Lib.hid hj.1
  have HT1 := Lib.hid hj.2
  have HL0 : Hid (S0.1.length ≤ S0.1.length + 0) := Nat.le_refl _
  have HM0 : Hid (Mod (fun b => ¬ K b) w0 w0) := Mod.refl _ _
  unfold pc
  clear h hj
  go_enter Tryd.func60, Tryd.ntmps60
  go_wp2_with fail
  apply share (S := fun w' => WSt w' K xb wb pb T cs (gInt cs S0 j) ∧ Mod (fun b => ¬ K b) w0 w')
  case walk =>
    have hc := wints_var HS0.out [j] (by simp) (fun o' ho' => by simp at ho'; subst ho'; exact HT0.out) (below_var w0 _) (by show _ < (w0.alloc _).heap.size; simp) (ptrs_row [j] 109) (Nat.le_trans HL0.out (by omega))
    simp only [List.map_cons, List.map_nil, List.length_cons, List.length_nil, List.foldl_cons, List.foldl_nil, pc, Nat.zero_add, Nat.reduceAdd] at hc
    refine PF.pf_begin (by kernel_rfl) ?_
    refine PF.pf_take0 0 (by kernel_rfl) rfl (fun _ _ _ _ _ h => h) (by kernel_rfl) (fun u => by go_simp; try rfl) ?_
    try simp only [Act.put, pz0, pz1, pz2]
    refine PF.pf_take0 1 (by kernel_rfl) rfl (fun _ _ _ _ _ h => h) (by kernel_rfl) (fun u => by go_simp; try rfl) ?_
    try simp only [Act.put, pz0, pz1, pz2]
    refine PF.pf_take0 2 (by kernel_rfl) rfl (fun _ _ _ _ _ h => h) (by kernel_rfl) (fun u => by go_simp; try rfl) ?_
    try simp only [Act.put, pz0, pz1, pz2]
    refine PF.pf_take0 3 (by kernel_rfl) rfl (fun _ _ _ _ _ h => h) (by kernel_rfl) (fun u => by go_simp; try rfl) ?_
    try simp only [Act.put, pz0, pz1, pz2]
    refine PF.pf_fork [4, 5] (by kernel_rfl) rfl (PF.fork_cons ?_ (PF.fork_cons ?_ PF.fork_nil))
    -- number 4 first
    · refine PF.step_one rfl (by kernel_rfl) (fun K hK => ?_)
      go_simp
      refine hK _ _ (by repeat (first | exact PF.owes_nil | refine PF.owes_left ?_ | refine PF.owes_no (by decide +kernel) ?_ | refine PF.owes_yes (by first | rfl | assumption | go_simp) ?_)) ?_
      clear hK K
      try simp only [Act.put, pz0, pz1, pz2]
      refine PF.pf_exec 5 (by kernel_rfl) rfl (by kernel_rfl) (fun K hK => ?_)
      go_simp
      refine hK _ _ (by repeat (first | exact PF.owes_nil | refine PF.owes_left ?_ | refine PF.owes_no (by decide +kernel) ?_ | refine PF.owes_yes (by first | rfl | assumption | go_simp) ?_)) ?_
      clear hK K
      try simp only [Act.put, pz0, pz1, pz2]
      refine PF.pf_take0 6 (by kernel_rfl) rfl (fun _ _ _ _ _ h => h) (by kernel_rfl) (fun u => by go_simp; try rfl) ?_
      try simp only [Act.put, pz0, pz1, pz2]
      refine PF.pf_take0 7 (by kernel_rfl) rfl (fun _ _ _ _ _ h => h) (by kernel_rfl) (fun u => by go_simp; try rfl) ?_
      try simp only [Act.put, pz0, pz1, pz2]
      refine PF.pf_exec 8 (by kernel_rfl) rfl (by kernel_rfl) (fun K hK => ?_)
      go_simp
      refine hc.mono ?_
      rintro e w' ⟨rfl, hS', hM'⟩
      refine hK _ _ (by repeat (first | exact PF.owes_nil | refine PF.owes_left ?_ | refine PF.owes_no (by decide +kernel) ?_ | refine PF.owes_yes (by first | rfl | assumption | go_simp) ?_)) ?_
      clear hK K
      try simp only [Act.put, pz0, pz1, pz2]
      refine PF.pf_done (by kernel_rfl) ?_
      exact ⟨rfl, hS', HM0.out.trans hM'⟩
    -- number 5 first
    · refine PF.step_one rfl (by kernel_rfl) (fun K hK => ?_)
      go_simp
      refine hK _ _ (by repeat (first | exact PF.owes_nil | refine PF.owes_left ?_ | refine PF.owes_no (by decide +kernel) ?_ | refine PF.owes_yes (by first | rfl | assumption | go_simp) ?_)) ?_
      clear hK K
      try simp only [Act.put, pz0, pz1, pz2]
      refine PF.pf_take0 6 (by kernel_rfl) rfl (fun _ _ _ _ _ h => h) (by kernel_rfl) (fun u => by go_simp; try rfl) ?_
      try simp only [Act.put, pz0, pz1, pz2]
      refine PF.pf_take0 7 (by kernel_rfl) rfl (fun _ _ _ _ _ h => h) (by kernel_rfl) (fun u => by go_simp; try rfl) ?_
      try simp only [Act.put, pz0, pz1, pz2]
      refine PF.pf_exec 4 (by kernel_rfl) rfl (by kernel_rfl) (fun K hK => ?_)
      go_simp
      refine hK _ _ (by repeat (first | exact PF.owes_nil | refine PF.owes_left ?_ | refine PF.owes_no (by decide +kernel) ?_ | refine PF.owes_yes (by first | rfl | assumption | go_simp) ?_)) ?_
      clear hK K
      try simp only [Act.put, pz0, pz1, pz2]
      refine PF.pf_exec 8 (by kernel_rfl) rfl (by kernel_rfl) (fun K hK => ?_)
      go_simp
      refine hc.mono ?_
      rintro e w' ⟨rfl, hS', hM'⟩
      refine hK _ _ (by repeat (first | exact PF.owes_nil | refine PF.owes_left ?_ | refine PF.owes_no (by decide +kernel) ?_ | refine PF.owes_yes (by first | rfl | assumption | go_simp) ?_)) ?_
      clear hK K
      try simp only [Act.put, pz0, pz1, pz2]
      refine PF.pf_done (by kernel_rfl) ?_
      exact ⟨rfl, hS', HM0.out.trans hM'⟩
  rintro w1 ⟨hS', hM'⟩
  have hz' : (gInt cs S0 j).1.length ≤ S0.1.length + 10 := by
    have h1 := gInts_len (os := [j]) (fun o' ho' => by simp at ho'; subst ho'; exact HT0.out) S0
    have h2 := HL0.out
    try simp only [List.length_cons, List.length_nil, List.foldl_cons, List.foldl_nil] at h1
    try simp only [List.foldl_cons, List.foldl_nil]
    omega
  obtain ⟨S1, e'⟩ : ∃ S, S = gInt cs S0 j := ⟨_, rfl⟩
  rw [← e'] at hS' hz'
  have HS1 := Lib.hid hS'
  have HM1 := Lib.hid hM'
  have HL1 := Lib.hid hz'
  have HE1 := Lib.hid e'
  clear hS' hM' hz' e' 
  go_wp2_with fail
  apply share (S := fun w' => WSt w' K xb wb pb T cs (gNum cs S1 (j + 1)) ∧ Mod (fun b => ¬ K b) w0 w')
  case walk =>
    have hc := wnums_var HS1.out [j + 1] (by simp) (fun o' ho' => by simp at ho'; subst ho'; exact HT1.out) (below_var w1 _) (by show _ < (w1.alloc _).heap.size; simp) (ptrs_row [j + 1] 118) (Nat.le_trans HL1.out (by omega))
    simp only [List.map_cons, List.map_nil, List.length_cons, List.length_nil, List.foldl_cons, List.foldl_nil, pc, Nat.zero_add, Nat.reduceAdd] at hc
    refine PF.pf_begin (by kernel_rfl) ?_
    refine PF.pf_take0 0 (by kernel_rfl) rfl (fun _ _ _ _ _ h => h) (by kernel_rfl) (fun u => by go_simp; try rfl) ?_
    try simp only [Act.put, pz0, pz1, pz2]
    refine PF.pf_take0 1 (by kernel_rfl) rfl (fun _ _ _ _ _ h => h) (by kernel_rfl) (fun u => by go_simp; try rfl) ?_
    try simp only [Act.put, pz0, pz1, pz2]
    refine PF.pf_take0 2 (by kernel_rfl) rfl (fun _ _ _ _ _ h => h) (by kernel_rfl) (fun u => by go_simp; try rfl) ?_
    try simp only [Act.put, pz0, pz1, pz2]
    refine PF.pf_take0 3 (by kernel_rfl) rfl (fun _ _ _ _ _ h => h) (by kernel_rfl) (fun u => by go_simp; try rfl) ?_
    try simp only [Act.put, pz0, pz1, pz2]
    refine PF.pf_fork [4, 5] (by kernel_rfl) rfl (PF.fork_cons ?_ (PF.fork_cons ?_ PF.fork_nil))
    -- number 4 first
    · refine PF.step_one rfl (by kernel_rfl) (fun K hK => ?_)
      go_simp
      refine hK _ _ (by repeat (first | exact PF.owes_nil | refine PF.owes_left ?_ | refine PF.owes_no (by decide +kernel) ?_ | refine PF.owes_yes (by first | rfl | assumption | go_simp) ?_)) ?_
      clear hK K
      try simp only [Act.put, pz0, pz1, pz2]
      refine PF.pf_exec 5 (by kernel_rfl) rfl (by kernel_rfl) (fun K hK => ?_)
      go_simp
      refine hK _ _ (by repeat (first | exact PF.owes_nil | refine PF.owes_left ?_ | refine PF.owes_no (by decide +kernel) ?_ | refine PF.owes_yes (by first | rfl | assumption | go_simp) ?_)) ?_
      clear hK K
      try simp only [Act.put, pz0, pz1, pz2]
      refine PF.pf_take0 6 (by kernel_rfl) rfl (fun _ _ _ _ _ h => h) (by kernel_rfl) (fun u => by go_simp; try rfl) ?_
      try simp only [Act.put, pz0, pz1, pz2]
      refine PF.pf_take0 7 (by kernel_rfl) rfl (fun _ _ _ _ _ h => h) (by kernel_rfl) (fun u => by go_simp; try rfl) ?_
      try simp only [Act.put, pz0, pz1, pz2]
      refine PF.pf_exec 8 (by kernel_rfl) rfl (by kernel_rfl) (fun K hK => ?_)
      go_simp
      refine hc.mono ?_
      rintro e w' ⟨rfl, hS', hM'⟩
      refine hK _ _ (by repeat (first | exact PF.owes_nil | refine PF.owes_left ?_ | refine PF.owes_no (by decide +kernel) ?_ | refine PF.owes_yes (by first | rfl | assumption | go_simp) ?_)) ?_
      clear hK K
      try simp only [Act.put, pz0, pz1, pz2]
      refine PF.pf_done (by kernel_rfl) ?_
      exact ⟨rfl, hS', HM1.out.trans hM'⟩
    -- number 5 first
    · refine PF.step_one rfl (by kernel_rfl) (fun K hK => ?_)
      go_simp
      refine hK _ _ (by repeat (first | exact PF.owes_nil | refine PF.owes_left ?_ | refine PF.owes_no (by decide +kernel) ?_ | refine PF.owes_yes (by first | rfl | assumption | go_simp) ?_)) ?_
      clear hK K
      try simp only [Act.put, pz0, pz1, pz2]
      refine PF.pf_take0 6 (by kernel_rfl) rfl (fun _ _ _ _ _ h => h) (by kernel_rfl) (fun u => by go_simp; try rfl) ?_
      try simp only [Act.put, pz0, pz1, pz2]
      refine PF.pf_take0 7 (by kernel_rfl) rfl (fun _ _ _ _ _ h => h) (by kernel_rfl) (fun u => by go_simp; try rfl) ?_
      try simp only [Act.put, pz0, pz1, pz2]
      refine PF.pf_exec 4 (by kernel_rfl) rfl (by kernel_rfl) (fun K hK => ?_)
      go_simp
      refine hK _ _ (by repeat (first | exact PF.owes_nil | refine PF.owes_left ?_ | refine PF.owes_no (by decide +kernel) ?_ | refine PF.owes_yes (by first | rfl | assumption | go_simp) ?_)) ?_
      clear hK K
      try simp only [Act.put, pz0, pz1, pz2]
      refine PF.pf_exec 8 (by kernel_rfl) rfl (by kernel_rfl) (fun K hK => ?_)
      go_simp
      refine hc.mono ?_
      rintro e w' ⟨rfl, hS', hM'⟩
      refine hK _ _ (by repeat (first | exact PF.owes_nil | refine PF.owes_left ?_ | refine PF.owes_no (by decide +kernel) ?_ | refine PF.owes_yes (by first | rfl | assumption | go_simp) ?_)) ?_
      clear hK K
      try simp only [Act.put, pz0, pz1, pz2]
      refine PF.pf_done (by kernel_rfl) ?_
      exact ⟨rfl, hS', HM1.out.trans hM'⟩
  rintro w2 ⟨hS', hM'⟩
  have hz' : (gNum cs S1 (j + 1)).1.length ≤ S0.1.length + 20 := by
    have h1 := gNums_len (os := [j + 1]) (fun o' ho' => by simp at ho'; subst ho'; exact HT1.out) S1
    have h2 := HL1.out
    try simp only [List.length_cons, List.length_nil, List.foldl_cons, List.foldl_nil] at h1
    try simp only [List.foldl_cons, List.foldl_nil]
    omega
  obtain ⟨S2, e'⟩ : ∃ S, S = gNum cs S1 (j + 1) := ⟨_, rfl⟩
  rw [← e'] at hS' hz'
  have HS2 := Lib.hid hS'
  have HM2 := Lib.hid hM'
  have HL2 := Lib.hid hz'
  have HE2 := Lib.hid e'
  clear hS' hM' hz' e' 
  go_wp2_with fail
  go_end0
  unfold gPl
  rw [← HE1.out, ← HE2.out]
  exact ⟨rfl, HS2.out, HM2.out⟩
set_option maxHeartbeats 8000000 in
theorem wballot_any {w : World} {K : Nat → Prop} {xb wb pb : Nat} {T : TypeId} {cs : Array Value} {S : WS} (h : WSt w K xb wb pb T cs S) (os : List Nat) (A : Option Addr) (c : Nat) (hA : Reads w 1 A os.length (os.map (pc pb))) (hn : os.length ≤ 1000000)
    (hB : ∀ ad, A = some ad → K ad.block) (ho : ∀ o ∈ os, IsBal cs o) (hl : S.1.length ≤ 900000000) :
    Calls Tryd.prog 59 #[.iface 128 (.pointer (some ⟨xb, 0, none⟩)), .slice A os.length c] w (WTo w K xb wb pb T cs (os.foldl (gBal cs) S)) := by
  have hm1 := wr_ints xb
  have hm2 := wr_nums xb
  go_enter Tryd.func59, Tryd.ntmps59
  go_wp2_with fail
  go_loopw [8] (fun i wr => ∃ k : Nat, k ≤ os.length ∧ i = .int .i64 k ∧ WSt wr K xb wb pb T cs ((os.take k).foldl (gBal cs) S) ∧ ((os.take k).foldl (gBal cs) S).1.length ≤ S.1.length + 30 * k ∧ Mod (fun b => ¬ K b) w wr) (fun i _ => os.length - (intOf i).toNat)
  case atStart => exact ⟨0, by omega, rfl, h, by simp, Mod.refl _ _⟩
  case round =>
    obtain ⟨k, hk, rfl, hS, hL, hM⟩ := hrel
    by_cases hlt : k < os.length
    · obtain ⟨w0, hw0⟩ : ∃ w0 : World, w0 = wr := ⟨_, rfl⟩
      rw [← hw0] at hS hM ⊢
      clear hw0
      have hA2 := Reads.mod hA hM fun ad e hn => hn (hB ad e)
      obtain ⟨b, o, rfl, hbl, hc⟩ := Reads.flat hA2 (by omega) (by decide)
      have c0 : w0.cell? ⟨b, o + k, none⟩ = some (.pointer (some ⟨pb, os[k], none⟩)) := by
        exact hc k (pc pb os[k]) (by rw [List.getElem?_map, List.getElem?_eq_getElem hlt]; rfl)
      have hF := gfold_take (g := gBal cs) hlt S
      have hj := ho _ (List.getElem_mem hlt)
      generalize (os.take k).foldl (gBal cs) S = S0 at hS hF hL
      generalize os[k] = j at c0 hF hj
      have HF := Lib.hid hF
      have HS0 := Lib.hid hS
      have HM0 := Lib.hid hM
      have HT0 := Lib.hid hj.1
      have HT1 := Lib.hid hj.2.1
      have HT2 := Lib.hid hj.2.2
      have HL0 : Hid (S0.1.length ≤ S0.1.length + 0) := Nat.le_refl _
      clear hF hS hM hA hA2 h hc hj
      go_wp2_with fail
      clear c0
      apply share (S := fun w' => WSt w' K xb wb pb T cs (gNum cs S0 j) ∧ Mod (fun b => ¬ K b) w w')
      case walk =>
        have hc := wnums_var HS0.out [j] (by simp) (fun o' ho' => by simp at ho'; subst ho'; exact HT0.out) (below_var w0 _) (by show _ < (w0.alloc _).heap.size; simp) (ptrs_row [j] 118) (Nat.le_trans HL0.out (by omega))
        simp only [List.map_cons, List.map_nil, List.length_cons, List.length_nil, List.foldl_cons, List.foldl_nil, pc, Nat.zero_add, Nat.reduceAdd] at hc
        refine PF.pf_begin (by kernel_rfl) ?_
        refine PF.pf_take0 0 (by kernel_rfl) rfl (fun _ _ _ _ _ h => h) (by kernel_rfl) (fun u => by go_simp; try rfl) ?_
        try simp only [Act.put, pz0, pz1, pz2]
        refine PF.pf_take0 1 (by kernel_rfl) rfl (fun _ _ _ _ _ h => h) (by kernel_rfl) (fun u => by go_simp; try rfl) ?_
        try simp only [Act.put, pz0, pz1, pz2]
        refine PF.pf_take0 2 (by kernel_rfl) rfl (fun _ _ _ _ _ h => h) (by kernel_rfl) (fun u => by go_simp; try rfl) ?_
        try simp only [Act.put, pz0, pz1, pz2]
        refine PF.pf_take0 3 (by kernel_rfl) rfl (fun _ _ _ _ _ h => h) (by kernel_rfl) (fun u => by go_simp; try rfl) ?_
        try simp only [Act.put, pz0, pz1, pz2]
        refine PF.pf_fork [4, 5] (by kernel_rfl) rfl (PF.fork_cons ?_ (PF.fork_cons ?_ PF.fork_nil))
        -- number 4 first
        · refine PF.step_one rfl (by kernel_rfl) (fun K hK => ?_)
          go_simp
          refine hK _ _ (by repeat (first | exact PF.owes_nil | refine PF.owes_left ?_ | refine PF.owes_no (by decide +kernel) ?_ | refine PF.owes_yes (by first | rfl | assumption | go_simp) ?_)) ?_
          clear hK K
          try simp only [Act.put, pz0, pz1, pz2]
          refine PF.pf_exec 5 (by kernel_rfl) rfl (by kernel_rfl) (fun K hK => ?_)
          go_simp
          refine hK _ _ (by repeat (first | exact PF.owes_nil | refine PF.owes_left ?_ | refine PF.owes_no (by decide +kernel) ?_ | refine PF.owes_yes (by first | rfl | assumption | go_simp) ?_)) ?_
          clear hK K
          try simp only [Act.put, pz0, pz1, pz2]
          refine PF.pf_take0 6 (by kernel_rfl) rfl (fun _ _ _ _ _ h => h) (by kernel_rfl) (fun u => by go_simp; try rfl) ?_
          try simp only [Act.put, pz0, pz1, pz2]
          refine PF.pf_take0 7 (by kernel_rfl) rfl (fun _ _ _ _ _ h => h) (by kernel_rfl) (fun u => by go_simp; try rfl) ?_
          try simp only [Act.put, pz0, pz1, pz2]
          refine PF.pf_exec 8 (by kernel_rfl) rfl (by kernel_rfl) (fun K hK => ?_)
          go_simp
          refine hc.mono ?_
          rintro e w' ⟨rfl, hS', hM'⟩
          refine hK _ _ (by repeat (first | exact PF.owes_nil | refine PF.owes_left ?_ | refine PF.owes_no (by decide +kernel) ?_ | refine PF.owes_yes (by first | rfl | assumption | go_simp) ?_)) ?_
          clear hK K
          try simp only [Act.put, pz0, pz1, pz2]
          refine PF.pf_done (by kernel_rfl) ?_
          exact ⟨rfl, hS', HM0.out.trans hM'⟩
        -- number 5 first
        · refine PF.step_one rfl (by kernel_rfl) (fun K hK => ?_)
          go_simp
          refine hK _ _ (by repeat (first | exact PF.owes_nil | refine PF.owes_left ?_ | refine PF.owes_no (by decide +kernel) ?_ | refine PF.owes_yes (by first | rfl | assumption | go_simp) ?_)) ?_
          clear hK K
          try simp only [Act.put, pz0, pz1, pz2]
          refine PF.pf_take0 6 (by kernel_rfl) rfl (fun _ _ _ _ _ h => h) (by kernel_rfl) (fun u => by go_simp; try rfl) ?_
          try simp only [Act.put, pz0, pz1, pz2]
          refine PF.pf_take0 7 (by kernel_rfl) rfl (fun _ _ _ _ _ h => h) (by kernel_rfl) (fun u => by go_simp; try rfl) ?_
          try simp only [Act.put, pz0, pz1, pz2]
          refine PF.pf_exec 4 (by kernel_rfl) rfl (by kernel_rfl) (fun K hK => ?_)
          go_simp
          refine hK _ _ (by repeat (first | exact PF.owes_nil | refine PF.owes_left ?_ | refine PF.owes_no (by decide +kernel) ?_ | refine PF.owes_yes (by first | rfl | assumption | go_simp) ?_)) ?_
          clear hK K
          try simp only [Act.put, pz0, pz1, pz2]
          refine PF.pf_exec 8 (by kernel_rfl) rfl (by kernel_rfl) (fun K hK => ?_)
          go_simp
          refine hc.mono ?_
          rintro e w' ⟨rfl, hS', hM'⟩
          refine hK _ _ (by repeat (first | exact PF.owes_nil | refine PF.owes_left ?_ | refine PF.owes_no (by decide +kernel) ?_ | refine PF.owes_yes (by first | rfl | assumption | go_simp) ?_)) ?_
          clear hK K
          try simp only [Act.put, pz0, pz1, pz2]
          refine PF.pf_done (by kernel_rfl) ?_
          exact ⟨rfl, hS', HM0.out.trans hM'⟩
      rintro w1 ⟨hS', hM'⟩
      have hz' : (gNum cs S0 j).1.length ≤ S0.1.length + 10 := by
        have h1 := gNums_len (os := [j]) (fun o' ho' => by simp at ho'; subst ho'; exact HT0.out) S0
        have h2 := HL0.out
        try simp only [List.length_cons, List.length_nil, List.foldl_cons, List.foldl_nil] at h1
        try simp only [List.foldl_cons, List.foldl_nil]
        omega
      obtain ⟨S1, e'⟩ : ∃ S, S = gNum cs S0 j := ⟨_, rfl⟩
      rw [← e'] at hS' hz'
      have HS1 := Lib.hid hS'
      have HM1 := Lib.hid hM'
      have HL1 := Lib.hid hz'
      have HE1 := Lib.hid e'
      clear hS' hM' hz' e' 
      go_wp2_with fail
      apply share (S := fun w' => WSt w' K xb wb pb T cs (gInt cs S1 (j + 1)) ∧ Mod (fun b => ¬ K b) w w')
      case walk =>
        have hc := wints_var HS1.out [j + 1] (by simp) (fun o' ho' => by simp at ho'; subst ho'; exact HT1.out) (below_var w1 _) (by show _ < (w1.alloc _).heap.size; simp) (ptrs_row [j + 1] 109) (Nat.le_trans HL1.out (by omega))
        simp only [List.map_cons, List.map_nil, List.length_cons, List.length_nil, List.foldl_cons, List.foldl_nil, pc, Nat.zero_add, Nat.reduceAdd] at hc
        refine PF.pf_begin (by kernel_rfl) ?_
        refine PF.pf_take0 0 (by kernel_rfl) rfl (fun _ _ _ _ _ h => h) (by kernel_rfl) (fun u => by go_simp; try rfl) ?_
        try simp only [Act.put, pz0, pz1, pz2]
        refine PF.pf_take0 1 (by kernel_rfl) rfl (fun _ _ _ _ _ h => h) (by kernel_rfl) (fun u => by go_simp; try rfl) ?_
        try simp only [Act.put, pz0, pz1, pz2]
        refine PF.pf_take0 2 (by kernel_rfl) rfl (fun _ _ _ _ _ h => h) (by kernel_rfl) (fun u => by go_simp; try rfl) ?_
        try simp only [Act.put, pz0, pz1, pz2]
        refine PF.pf_take0 3 (by kernel_rfl) rfl (fun _ _ _ _ _ h => h) (by kernel_rfl) (fun u => by go_simp; try rfl) ?_
        try simp only [Act.put, pz0, pz1, pz2]
        refine PF.pf_fork [4, 5] (by kernel_rfl) rfl (PF.fork_cons ?_ (PF.fork_cons ?_ PF.fork_nil))
        -- number 4 first
        · refine PF.step_one rfl (by kernel_rfl) (fun K hK => ?_)
          go_simp
          refine hK _ _ (by repeat (first | exact PF.owes_nil | refine PF.owes_left ?_ | refine PF.owes_no (by decide +kernel) ?_ | refine PF.owes_yes (by first | rfl | assumption | go_simp) ?_)) ?_
          clear hK K
          try simp only [Act.put, pz0, pz1, pz2]
          refine PF.pf_exec 5 (by kernel_rfl) rfl (by kernel_rfl) (fun K hK => ?_)
          go_simp
          refine hK _ _ (by repeat (first | exact PF.owes_nil | refine PF.owes_left ?_ | refine PF.owes_no (by decide +kernel) ?_ | refine PF.owes_yes (by first | rfl | assumption | go_simp) ?_)) ?_
          clear hK K
          try simp only [Act.put, pz0, pz1, pz2]
          refine PF.pf_take0 6 (by kernel_rfl) rfl (fun _ _ _ _ _ h => h) (by kernel_rfl) (fun u => by go_simp; try rfl) ?_
          try simp only [Act.put, pz0, pz1, pz2]
          refine PF.pf_take0 7 (by kernel_rfl) rfl (fun _ _ _ _ _ h => h) (by kernel_rfl) (fun u => by go_simp; try rfl) ?_
          try simp only [Act.put, pz0, pz1, pz2]
          refine PF.pf_exec 8 (by kernel_rfl) rfl (by kernel_rfl) (fun K hK => ?_)
          go_simp
          refine hc.mono ?_
          rintro e w' ⟨rfl, hS', hM'⟩
          refine hK _ _ (by repeat (first | exact PF.owes_nil | refine PF.owes_left ?_ | refine PF.owes_no (by decide +kernel) ?_ | refine PF.owes_yes (by first | rfl | assumption | go_simp) ?_)) ?_
          clear hK K
          try simp only [Act.put, pz0, pz1, pz2]
          refine PF.pf_done (by kernel_rfl) ?_
          exact ⟨rfl, hS', HM1.out.trans hM'⟩
        -- number 5 first
        · refine PF.step_one rfl (by kernel_rfl) (fun K hK => ?_)
          go_simp
          refine hK _ _ (by repeat (first | exact PF.owes_nil | refine PF.owes_left ?_ | refine PF.owes_no (by decide +kernel) ?_ | refine PF.owes_yes (by first | rfl | assumption | go_simp) ?_)) ?_
          clear hK K
          try simp only [Act.put, pz0, pz1, pz2]
          refine PF.pf_take0 6 (by kernel_rfl) rfl (fun _ _ _ _ _ h => h) (by kernel_rfl) (fun u => by go_simp; try rfl) ?_
          try simp only [Act.put, pz0, pz1, pz2]
          refine PF.pf_take0 7 (by kernel_rfl) rfl (fun _ _ _ _ _ h => h) (by kernel_rfl) (fun u => by go_simp; try rfl) ?_
          try simp only [Act.put, pz0, pz1, pz2]
          refine PF.pf_exec 4 (by kernel_rfl) rfl (by kernel_rfl) (fun K hK => ?_)
          go_simp
          refine hK _ _ (by repeat (first | exact PF.owes_nil | refine PF.owes_left ?_ | refine PF.owes_no (by decide +kernel) ?_ | refine PF.owes_yes (by first | rfl | assumption | go_simp) ?_)) ?_
          clear hK K
          try simp only [Act.put, pz0, pz1, pz2]
          refine PF.pf_exec 8 (by kernel_rfl) rfl (by kernel_rfl) (fun K hK => ?_)
          go_simp
          refine hc.mono ?_
          rintro e w' ⟨rfl, hS', hM'⟩
          refine hK _ _ (by repeat (first | exact PF.owes_nil | refine PF.owes_left ?_ | refine PF.owes_no (by decide +kernel) ?_ | refine PF.owes_yes (by first | rfl | assumption | go_simp) ?_)) ?_
          clear hK K
          try simp only [Act.put, pz0, pz1, pz2]
          refine PF.pf_done (by kernel_rfl) ?_
          exact ⟨rfl, hS', HM1.out.trans hM'⟩
      rintro w2 ⟨hS', hM'⟩
      have hz' : (gInt cs S1 (j + 1)).1.length ≤ S0.1.length + 20 := by
        have h1 := gInts_len (os := [j + 1]) (fun o' ho' => by simp at ho'; subst ho'; exact HT1.out) S1
        have h2 := HL1.out
        try simp only [List.length_cons, List.length_nil, List.foldl_cons, List.foldl_nil] at h1
        try simp only [List.foldl_cons, List.foldl_nil]
        omega
      obtain ⟨S2, e'⟩ : ∃ S, S = gInt cs S1 (j + 1) := ⟨_, rfl⟩
      rw [← e'] at hS' hz'
      have HS2 := Lib.hid hS'
      have HM2 := Lib.hid hM'
      have HL2 := Lib.hid hz'
      have HE2 := Lib.hid e'
      clear hS' hM' hz' e' 
      go_wp2_with fail
      apply share (S := fun w' => WSt w' K xb wb pb T cs (gNum cs S2 (j + 2)) ∧ Mod (fun b => ¬ K b) w w')
      case walk =>
        have hc := wnums_var HS2.out [j + 2] (by simp) (fun o' ho' => by simp at ho'; subst ho'; exact HT2.out) (below_var w2 _) (by show _ < (w2.alloc _).heap.size; simp) (ptrs_row [j + 2] 118) (Nat.le_trans HL2.out (by omega))
        simp only [List.map_cons, List.map_nil, List.length_cons, List.length_nil, List.foldl_cons, List.foldl_nil, pc, Nat.zero_add, Nat.reduceAdd] at hc
        refine PF.pf_begin (by kernel_rfl) ?_
        refine PF.pf_take0 0 (by kernel_rfl) rfl (fun _ _ _ _ _ h => h) (by kernel_rfl) (fun u => by go_simp; try rfl) ?_
        try simp only [Act.put, pz0, pz1, pz2]
        refine PF.pf_take0 1 (by kernel_rfl) rfl (fun _ _ _ _ _ h => h) (by kernel_rfl) (fun u => by go_simp; try rfl) ?_
        try simp only [Act.put, pz0, pz1, pz2]
        refine PF.pf_take0 2 (by kernel_rfl) rfl (fun _ _ _ _ _ h => h) (by kernel_rfl) (fun u => by go_simp; try rfl) ?_
        try simp only [Act.put, pz0, pz1, pz2]
        refine PF.pf_take0 3 (by kernel_rfl) rfl (fun _ _ _ _ _ h => h) (by kernel_rfl) (fun u => by go_simp; try rfl) ?_
        try simp only [Act.put, pz0, pz1, pz2]
        refine PF.pf_fork [4, 5] (by kernel_rfl) rfl (PF.fork_cons ?_ (PF.fork_cons ?_ PF.fork_nil))
        -- number 4 first
        · refine PF.step_one rfl (by kernel_rfl) (fun K hK => ?_)
          go_simp
          refine hK _ _ (by repeat (first | exact PF.owes_nil | refine PF.owes_left ?_ | refine PF.owes_no (by decide +kernel) ?_ | refine PF.owes_yes (by first | rfl | assumption | go_simp) ?_)) ?_
          clear hK K
          try simp only [Act.put, pz0, pz1, pz2]
          refine PF.pf_exec 5 (by kernel_rfl) rfl (by kernel_rfl) (fun K hK => ?_)
          go_simp
          refine hK _ _ (by repeat (first | exact PF.owes_nil | refine PF.owes_left ?_ | refine PF.owes_no (by decide +kernel) ?_ | refine PF.owes_yes (by first | rfl | assumption | go_simp) ?_)) ?_
          clear hK K
          try simp only [Act.put, pz0, pz1, pz2]
          refine PF.pf_take0 6 (by kernel_rfl) rfl (fun _ _ _ _ _ h => h) (by kernel_rfl) (fun u => by go_simp; try rfl) ?_
          try simp only [Act.put, pz0, pz1, pz2]
          refine PF.pf_take0 7 (by kernel_rfl) rfl (fun _ _ _ _ _ h => h) (by kernel_rfl) (fun u => by go_simp; try rfl) ?_
          try simp only [Act.put, pz0, pz1, pz2]
          refine PF.pf_exec 8 (by kernel_rfl) rfl (by kernel_rfl) (fun K hK => ?_)
          go_simp
          refine hc.mono ?_
          rintro e w' ⟨rfl, hS', hM'⟩
          refine hK _ _ (by repeat (first | exact PF.owes_nil | refine PF.owes_left ?_ | refine PF.owes_no (by decide +kernel) ?_ | refine PF.owes_yes (by first | rfl | assumption | go_simp) ?_)) ?_
          clear hK K
          try simp only [Act.put, pz0, pz1, pz2]
          refine PF.pf_done (by kernel_rfl) ?_
          exact ⟨rfl, hS', HM2.out.trans hM'⟩
        -- number 5 first
        · refine PF.step_one rfl (by kernel_rfl) (fun K hK => ?_)
          go_simp
          refine hK _ _ (by repeat (first | exact PF.owes_nil | refine PF.owes_left ?_ | refine PF.owes_no (by decide +kernel) ?_ | refine PF.owes_yes (by first | rfl | assumption | go_simp) ?_)) ?_
          clear hK K
          try simp only [Act.put, pz0, pz1, pz2]
          refine PF.pf_take0 6 (by kernel_rfl) rfl (fun _ _ _ _ _ h => h) (by kernel_rfl) (fun u => by go_simp; try rfl) ?_
          try simp only [Act.put, pz0, pz1, pz2]
          refine PF.pf_take0 7 (by kernel_rfl) rfl (fun _ _ _ _ _ h => h) (by kernel_rfl) (fun u => by go_simp; try rfl) ?_
          try simp only [Act.put, pz0, pz1, pz2]
          refine PF.pf_exec 4 (by kernel_rfl) rfl (by kernel_rfl) (fun K hK => ?_)
          go_simp
          refine hK _ _ (by repeat (first | exact PF.owes_nil | refine PF.owes_left ?_ | refine PF.owes_no (by decide +kernel) ?_ | refine PF.owes_yes (by first | rfl | assumption | go_simp) ?_)) ?_
          clear hK K
          try simp only [Act.put, pz0, pz1, pz2]
          refine PF.pf_exec 8 (by kernel_rfl) rfl (by kernel_rfl) (fun K hK => ?_)
          go_simp
          refine hc.mono ?_
          rintro e w' ⟨rfl, hS', hM'⟩
          refine hK _ _ (by repeat (first | exact PF.owes_nil | refine PF.owes_left ?_ | refine PF.owes_no (by decide +kernel) ?_ | refine PF.owes_yes (by first | rfl | assumption | go_simp) ?_)) ?_
          clear hK K
          try simp only [Act.put, pz0, pz1, pz2]
          refine PF.pf_done (by kernel_rfl) ?_
          exact ⟨rfl, hS', HM2.out.trans hM'⟩
      rintro w3 ⟨hS', hM'⟩
      have hz' : (gNum cs S2 (j + 2)).1.length ≤ S0.1.length + 30 := by
        have h1 := gNums_len (os := [j + 2]) (fun o' ho' => by simp at ho'; subst ho'; exact HT2.out) S2
        have h2 := HL2.out
        try simp only [List.length_cons, List.length_nil, List.foldl_cons, List.foldl_nil] at h1
        try simp only [List.foldl_cons, List.foldl_nil]
        omega
      obtain ⟨S3, e'⟩ : ∃ S, S = gNum cs S2 (j + 2) := ⟨_, rfl⟩
      rw [← e'] at hS' hz'
      have HS3 := Lib.hid hS'
      have HM3 := Lib.hid hM'
      have HL3 := Lib.hid hz'
      have HE3 := Lib.hid e'
      clear hS' hM' hz' e' 
      go_wp2_with fail
      have hfin : gBal cs S0 j = S3 := by unfold gBal; rw [← HE1.out, ← HE2.out, ← HE3.out]
      have HFI := Lib.hid hfin
      clear hfin
      go_roundw
      case rel => exact ⟨k + 1, by omega, by go_num, by rw [HF.out, HFI.out]; exact HS3.out, by rw [HF.out, HFI.out]; have := HL3.out; omega, HM3.out⟩
      case measure => simp [intOf]; omega
    · obtain rfl : k = os.length := by omega
      rw [List.take_length] at hS
      have HS := Lib.hid hS
      clear hS
      go_wp2_with fail
      go_end0
      exact ⟨rfl, HS.out, hM⟩
theorem wballot_var {w W : World} {K : Nat → Prop} {xb wb pb : Nat} {T : TypeId} {cs : Array Value} {S : WS} (h : WSt w K xb wb pb T cs S) (os : List Nat) (hn : os.length ≤ 1000000) (ho : ∀ o ∈ os, IsBal cs o) (hb : Below w.heap.size w W) (hlt : w.heap.size < W.heap.size) (hA : Reads W 1 (some ⟨w.heap.size, 0, none⟩) os.length (os.map (pc pb))) (hl : S.1.length ≤ 900000000) :
    Calls Tryd.prog 59 #[.iface 128 (.pointer (some ⟨xb, 0, none⟩)), .slice (some ⟨w.heap.size, 0, none⟩) os.length os.length] W (WTo w K xb wb pb T cs (os.foldl (gBal cs) S)) :=
  (wballot_any (h.below hb) os _ _ hA hn (fun ad e => by injection e with e; subst e; exact .inr ⟨Nat.le_refl _, hlt⟩) ho hl).mono fun e w' ht => ht.var h hb
end Go.Proofs.YtdckdjkkaangmaaDoor
