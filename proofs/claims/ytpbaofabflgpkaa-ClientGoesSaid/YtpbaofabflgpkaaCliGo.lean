/- The law ClientGoes, walked. -/
import Derived.Test.YtpbaofabflgpkaaCliSt
namespace Go.Proofs.Ytpbaofabflgpkaa
set_option linter.unusedVariables false
set_option linter.unusedSimpArgs false
open Go.RowKit

/-- What is called for by the first k moments is counted. -/
structure Asked (ks : List Nat) (bs : List Int) (k : Nat) : Prop where
  len : ks.length = 16
  le : ∀ i (h : i < ks.length), ks[i] ≤ k
  pos : ∀ t, t < k → ∀ j, (lone bs.length t).2.1 = some j → 0 < ks.getD (bs.getD j 0).toNat 0
theorem Asked.quiet {ks : List Nat} {bs : List Int} {k : Nat} (h : Asked ks bs k) (hn : (lone bs.length k).2.1 = none) : Asked ks bs (k + 1) :=
  ⟨h.len, fun i hi => Nat.le_succ_of_le (h.le i hi), fun t ht j hj => by
    by_cases e : t = k
    · subst e
      rw [hn] at hj
      cases hj
    · exact h.pos t (by omega) j hj⟩
theorem Asked.more {ks : List Nat} {bs : List Int} {k j n : Nat} (h : Asked ks bs k) (hj : (lone bs.length k).2.1 = some j) (hn : (bs.getD j 0).toNat = n) (hlt : n < ks.length) : Asked (ks.set n (ks[n] + 1)) bs (k + 1) := by
  refine ⟨by rw [List.length_set]; exact h.len, fun i hi => ?_, fun t ht i hi => ?_⟩
  · rw [List.getElem_set]
    split
    · have := h.le n hlt
      omega
    · exact Nat.le_succ_of_le (h.le i (by rw [List.length_set] at hi; exact hi))
  · by_cases e : (bs.getD i 0).toNat = n
    · rw [e, List.getD_eq_getElem?_getD, List.getElem?_set_self hlt]
      exact Nat.succ_pos _
    · by_cases et : t = k
      · subst et
        rw [hj] at hi
        injection hi with hi
        subst hi
        exact absurd hn e
      · have := h.pos t (by omega) i hi
        rw [List.getD_eq_getElem?_getD] at this ⊢
        rw [List.getElem?_set_ne (fun h => e h.symm)]
        exact this
theorem Asked.zero (bs : List Int) : Asked (List.replicate 16 0) bs 0 := ⟨by simp, fun i hi => by rw [List.getElem_replicate]; exact Nat.le_refl _, fun t ht => absurd ht (Nat.not_lt_zero _)⟩
theorem Asked.all {ks : List Nat} {bs : List Int} (h : Asked ks bs 250) (h3 : bs.length ≤ 3) {j : Nat} (hj : j < bs.length) : 0 < ks.getD (bs.getD j 0).toNat 0 := by
  obtain ⟨t, h1, h2⟩ := lone_all h3 j hj
  exact h.pos t h1 j h2
def nv (n : Nat) : Value := .int .i64 (n : Int)
/-- The row of counts. -/
def As (w : World) (ma : Nat) (ks : List Nat) : Prop := Blk w ma 3 (ks.map nv).toArray
theorem As.cell {w : World} {ma : Nat} {ks : List Nat} (h : As w ma ks) {i : Nat} (hi : i < ks.length) : w.cell? ⟨ma, i, none⟩ = some (.int .i64 (ks[i] : Int)) := by
  rw [Blk.cell h]
  simp [hi, nv]
theorem As.put {w : World} {ma : Nat} {ks : List Nat} (h : As w ma ks) (i n : Nat) : As (w.setCell ⟨ma, i, none⟩ (.int .i64 (n : Int))) ma (ks.set i n) := by
  unfold As
  rw [List.map_set]
  simpa [nv] using Blk.put h i (.int .i64 (n : Int))
theorem broker_in {nid : Int} {inc : Nat} {bs : List Int} (h : newOk nid inc bs) {j : Nat} (hj : j < bs.length) : 1 ≤ bs.getD j 0 ∧ bs.getD j 0 ≤ 15 := by
  have h1 := h.2.2.2.2.2.1
  rw [List.any_eq_false] at h1
  have h2 := h1 _ (List.getElem_mem hj)
  rw [List.getD_eq_getElem?_getD, List.getElem?_eq_getElem hj]
  simp only [oddB, Bool.or_eq_true, decide_eq_true_eq, not_or] at h2
  simp only [Option.getD_some]
  omega
theorem lone_good {X : Cli} (h : Good X) (t : Nat) : Good (LoneX X (lone X.bs.length t).1) := ⟨(lone_at X.bs.length (by have := h.1; omega) t).1, h.2⟩
def sentL (bs : List Int) (D : Cal) (t : Nat) : Option (Int × Cal) := (lone bs.length t).2.1.map fun j => (bs.getD j 0, D)
theorem lone_turn (X : Cli) (t : Nat) (now : Nat) (hn : now = X.born + (t + 1)) : tickX (LoneX X (lone X.bs.length t).1) now = { cli := LoneX X (lone X.bs.length (t + 1)).1, sent := sentL X.bs X.call (t + 1), rep := if (lone X.bs.length (t + 1)).2.2 then some (toutX X) else none } := by
  subst hn
  exact lone_tick X (lone X.bs.length t).1 (t + 1) (Nat.le_succ_of_le (lone_since X.bs.length t))
theorem sent_form {K : Nat → Prop} {w : World} {s : Value} {bs : List Int} {D : Cal} {k : Nat} (h : SlS K w s (sentL bs D k)) : ∃ A n c, s = .slice A n c ∧ n ≤ 1 ∧ (0 < n → ∃ j sb, n = 1 ∧ A = some ⟨sb, 0, none⟩ ∧ (lone bs.length k).2.1 = some j) := by
  unfold sentL at h
  cases hl : (lone bs.length k).2.1 with
  | none => rw [hl] at h; exact ⟨_, _, _, h, Nat.zero_le _, fun h => absurd h (by decide)⟩
  | some j =>
    rw [hl] at h
    obtain ⟨g, c, vc, e, _⟩ := h
    exact ⟨_, _, _, e, Nat.le_refl _, fun _ => ⟨j, g, rfl, rfl, rfl⟩⟩
theorem sent_none {K : Nat → Prop} {w : World} {A : Option Addr} {c : Nat} {bs : List Int} {D : Cal} {k : Nat} (h : SlS K w (.slice A 0 c) (sentL bs D k)) : (lone bs.length k).2.1 = none := by
  unfold sentL at h
  cases hl : (lone bs.length k).2.1 with
  | none => rfl
  | some j =>
    rw [hl] at h
    obtain ⟨g, c, vc, e, _⟩ := h
    injection e with _ e
    cases e
theorem SlS.slice {K : Nat → Prop} {w : World} {s : Value} {T : Option (Int × Cal)} (h : SlS K w s T) : ∃ A n c, s = .slice A n c := by
  cases T with
  | none => exact ⟨_, _, _, h⟩
  | some x => obtain ⟨g, c, vc, e, _⟩ := h; exact ⟨_, _, _, e⟩
theorem startX_facts {nid : Int} {inc : Nat} {bs : List Int} (h : newOk nid inc bs) (now : Nat) (C : Cal) : (startX (newX nid inc bs) now C).bs = bs ∧ (startX (newX nid inc bs) now C).born = now ∧ (startX (newX nid inc bs) now C).call.body = C.body ∧ Good (startX (newX nid inc bs) now C) ∧ LoneX (startX (newX nid inc bs) now C) (lone bs.length 0).1 = startX (newX nid inc bs) now C := ⟨rfl, rfl, rfl, start_good (good_new h) (show 0 < 100000 by decide) now C, rfl⟩
def zs16 : Array Value := #[.int .i64 0, .int .i64 0, .int .i64 0, .int .i64 0, .int .i64 0, .int .i64 0, .int .i64 0, .int .i64 0, .int .i64 0, .int .i64 0, .int .i64 0, .int .i64 0, .int .i64 0, .int .i64 0, .int .i64 0, .int .i64 0]
theorem make16 (w : World) : (Instr.makeSlice 23 (.int .i64 16) (.int .i64 16)).run Try.prog w = .ok (.slice (some ⟨w.heap.size, 0, none⟩) 16 16) (w.alloc (.cells zs16 3)) := by kernel_rfl
set_option maxRecDepth 100000 in
set_option maxHeartbeats 16000000 in
theorem goes_any {Ki K1 : Nat → Prop} {w : World} {nid : Int} {inc : Nat} {vi : Value} {bs : List Int} {C1 : Cal} {v1 : Value} {now : Nat} (hvi : SlI Ki w vi bs) (hn : bs.length * 8 ≤ 140737488351232) (h1 : SlB K1 w v1 C1.body) :
    Calls Try.prog 4 #[.int .i64 nid, .int .u64 (inc : Int), vi, .agg (calL C1 v1).toArray, .int .u64 (now : Int)] w fun e w' => e = .returned (.bool true) ∧ Below w.heap.size w w' := by
  have hb1 := below_new w (.cells (calL C1 v1).toArray 27)
  have HL1 : Hid (Lv (fun b => b < w.heap.size) (w.alloc (.cells (calL C1 v1).toArray 27)) w.heap.size C1) := ⟨v1, Blk.new _ _ _, (h1.weak fun b h _ => h).below hb1⟩
  have HT := Lib.hid hb1
  have HVI := Lib.hid hvi
  have HNN := Lib.hid hn
  clear hb1 h1 hvi hn
  obtain ⟨Ai, ci, rfl, hvr, _⟩ := id HVI.out
  have HVR := Lib.hid hvr
  clear hvr
  go_enter Try.func4, Try.ntmps4
  go_wp2_with fail
  generalize (w.alloc (.cells (calL C1 v1).toArray 27)) = w1 at *
  refine (new_any (nid := nid) (inc := inc) (bs := bs) (HVI.out.below HT.out) HNN.out).mono ?_
  rintro e w2 ⟨hp, hb⟩
  have HBL : Hid (w.heap.size < w2.heap.size) := by { show _ < _; have := HL1.out.lt; have := hb.size; omega }
  have HT := Lib.hid (below_call HT.out HT.out.size hb)
  have HL1 := Lib.hid (HL1.out.below hb)
  clear hb
  rcases hp with ⟨hok, vb, rfl, hvb⟩ | ⟨_, rfl⟩
  · skip
    have hvc := SlB.nil (fun b => w1.heap.size ≤ b) w2
    have HVB := Lib.hid hvb
    have HVC := Lib.hid hvc
    have HO : Hid (vb.oneCell' = true) := hvb.one
    have HOK := Lib.hid hok
    clear hvb hvc hok
    go_wp2_with (refine wpList_alloc_blk rfl rfl zero_client ?_; rintro g w3 hg hB hb; refine Hid.out ?_)
    refine Lib.hid ?_
    have HG : Hid (w.heap.size ≤ g) := by { show _ ≤ _; rw [← hg]; exact HT.out.size }
    have HGN : Hid (w2.heap.size = g) := hg
    have HT := Lib.hid (below_call HT.out HT.out.size hb)
    have HB := Lib.hid hB
    have HW := Lib.hid hb
    go_wp2_with (refine wpList_store_blk rfl rfl rfl rfl HB.out rfl (info_client rfl) (cliL_one HO.out rfl) ?_; rintro w4 hB4 hm; refine Hid.out ?_)
    refine Lib.hid ?_
    have HT := Lib.hid (HT.out.trans (hm.to_below HT.out.size fun b hb e => by have := HG.out; omega))
    have HC : Hid (Cv (fun b => b ≠ g) w4 g (newX nid inc bs)) := ⟨vb, _, hB4, ((HVB.out.weak (K' := fun b => b ≠ g) fun b h _ => by have := HGN.out; show b ≠ g; omega).below HW.out).mod hm fun b h => h, SlB.nil _ _⟩
    have HL1 := Lib.hid (((HL1.out.weak (K' := fun b => b ≠ g) fun b h _ => by have := HGN.out; show b ≠ g; omega).below HW.out).mod hm (by have := HGN.out; have := HBL.out; omega) fun b h => h)
    have HNB : Hid (w.heap.size ≠ g) := by { show _ ≠ _; have := HGN.out; have := HBL.out; omega }
    clear hg hB hb hB4 hm HW HB HVB HVC HO HGN HBL
    obtain ⟨v1, hB1, hv1⟩ := HL1.out
    obtain ⟨A1, k1, rfl, _⟩ := id hv1
    have c1 : w4.cell? ⟨w.heap.size, 8, none⟩ = some (.slice A1 C1.body.length k1) := (hB1.cell 8).trans rfl
    clear hB1 hv1
    by_cases hl1 : 5000 < C1.body.length
    · have d1 : decide ((5000 : Int) < (C1.body.length : Int)) = true := decide_eq_true (by omega)
      have d1' : decide (5000 < C1.body.length) = true := decide_eq_true hl1
      clear hl1
      go_wp2_with fail
      refine (cawake_any _).mono ?_
      rintro e w9 ⟨rfl, hb9⟩
      go_wp2_with fail
      go_ret
      exact ⟨rfl, below_call HT.out HT.out.size hb9⟩
    have d1 : decide ((5000 : Int) < (C1.body.length : Int)) = false := decide_eq_false (by omega)
    have d1' : decide (5000 < C1.body.length) = false := decide_eq_false hl1
    have HL1b := Lib.hid hl1
    clear hl1
    by_cases hl2 : 4611686018427387904 < now
    · have d2 : decide ((4611686018427387904 : Int) < (now : Int)) = true := decide_eq_true (by omega)
      have d2' : decide (4611686018427387904 < now) = true := decide_eq_true hl2
      clear hl2
      go_wp2_with fail
      refine (cawake_any _).mono ?_
      rintro e w9 ⟨rfl, hb9⟩
      go_wp2_with fail
      go_ret
      exact ⟨rfl, below_call HT.out HT.out.size hb9⟩
    have d2 : decide ((4611686018427387904 : Int) < (now : Int)) = false := decide_eq_false (by omega)
    have d2' : decide (4611686018427387904 < now) = false := decide_eq_false hl2
    have HL2b := Lib.hid hl2
    clear hl2
    obtain ⟨vb, vc, hB, hvb, hvc⟩ := HC.out
    have HB := Lib.hid hB
    have HVB := Lib.hid hvb
    have HVC := Lib.hid hvc
    clear hB hvb hvc
    obtain ⟨v8, hB, hv⟩ := HL1.out
    have HB8 := Lib.hid hB
    have HV8 := Lib.hid hv
    clear hB hv
    go_wp2_with (refine wpList_load_blk rfl (ty := 29) rfl rfl HB.out Try.underlying29 rfl (info_client rfl) ?_; refine Hid.out ?_)
    refine Lib.hid ?_
    go_wp2_with (refine wpList_load_blk rfl (ty := 27) rfl rfl HB8.out Try.underlying27 rfl (info_call rfl) ?_; refine Hid.out ?_)
    refine Lib.hid ?_
    go_wp2_with fail
    have hT := start_any (X := newX nid inc bs) (now := now) (D := C1) HVB.out HVC.out HV8.out (good_new HOK.out) (Nat.zero_le _) (by have := HL1b.out; omega) (show 0 < 100000 by decide)
    clear c1 d1 d2 d1' d2'
    have hSE := st_startE (X := newX nid inc bs) rfl C1
    by_cases hm : mayC (callX (newX nid inc bs) C1) = false
    · rw [if_pos hm] at hSE
      clear hm
      refine hT.mono ?_
      clear hT
      rintro e w5 ⟨hp, hb⟩
      unfold StartPost at hp
      rw [hSE, if_neg (show ¬ (1 : Int) = 0 by decide)] at hp
      subst hp
      clear hSE
      have HT := Lib.hid (below_call HT.out HT.out.size hb)
      have HB := Lib.hid (HB.out.below hb HB.out.lt)
      clear hb
      go_wp2_with (refine wpList_store_blk rfl rfl rfl rfl HB.out rfl (info_client rfl) (cliL_one rfl rfl) ?_; rintro w91 hB hm; refine Hid.out ?_)
      refine Lib.hid ?_
      have HT := Lib.hid (HT.out.trans (hm.to_below HT.out.size fun b hb e => by have := HG.out; omega))
      go_wp2_with fail
      refine (cawake_any _).mono ?_
      rintro e w9 ⟨rfl, hb9⟩
      go_wp2_with fail
      go_ret
      exact ⟨rfl, below_call HT.out HT.out.size hb9⟩
    rw [if_neg hm] at hSE
    clear hm
    refine hT.mono ?_
    clear hT
    rintro e w5 ⟨hp, hb⟩
    unfold StartPost at hp
    rw [hSE, if_pos rfl] at hp
    clear hSE
    obtain ⟨vb', vc', sv, rfl, hvb, hvc, hsv⟩ := hp
    have hsv : SlS (fun b => w4.heap.size ≤ b) w5 sv (sentL bs (callX (newX nid inc bs) C1) 0) := hsv
    obtain ⟨As0, ns0, cs0, esv⟩ : ∃ A n c, sv = .slice A n c := by obtain ⟨g, c, vc, e, _⟩ := hsv; exact ⟨_, _, _, e⟩
    subst esv
    have HGL := Lib.hid HB.out.lt
    have HT := Lib.hid (below_call HT.out HT.out.size hb)
    have HB := Lib.hid (HB.out.below hb HB.out.lt)
    have HC := Lib.hid (HC.out.below hb)
    have HVB := Lib.hid (hvb.weak (K' := fun b => b ≠ g) fun b _ h => by have := HGL.out; have h : w4.heap.size ≤ b := h; show b ≠ g; omega)
    have HVC := Lib.hid (hvc.weak (K' := fun b => b ≠ g) fun b _ h => by have := HGL.out; have h : w4.heap.size ≤ b := h; show b ≠ g; omega)
    have HO : Hid (vb'.oneCell' = true ∧ vc'.oneCell' = true) := ⟨hvb.one, hvc.one⟩
    have HSV := Lib.hid (hsv.weak (K' := fun b => b ≠ g) fun b _ h => by have := HGL.out; have h : w4.heap.size ≤ b := h; show b ≠ g; omega)
    clear hb hvb hvc hsv
    have HM := Lib.hid (Mod.refl (fun b => b = g) w5)
    have HM0 := Lib.hid (Below.refl w5.heap.size w5)
    go_wp2_with (refine wpList_store_blk rfl rfl rfl rfl HB.out rfl (info_client rfl) (cliL_one HO.out.1 HO.out.2) ?_; rintro w6 hB hm; refine Hid.out ?_)
    refine Lib.hid ?_
    have HB := Lib.hid hB
    have HM := Lib.hid (HM.out.trans hm)
    clear hB hm
    have HSV := Lib.hid (HSV.out.mod HM.out fun b h => h)
    have HT := Lib.hid (HT.out.trans (HM.out.to_below HT.out.size fun b hb e => by have := HG.out; omega))
    have HC : Hid (Cv (fun b => b ≠ g) w6 g (startX (newX nid inc bs) now C1)) := ⟨vb', vc', HB.out, HVB.out.mod HM.out fun b h => h, HVC.out.mod HM.out fun b h => h⟩
    clear HB HVB HVC HO HM HM0 HGL HL1 HB8 HV8 HNB
    have HCL := HC
    have hmk := make16
    go_wp2_with fail
    clear hmk
    have HAS : Hid (As (w6.alloc (.cells zs16 3)) w6.heap.size (List.replicate 16 0)) := Blk.new w6 3 zs16
    have HX := Lib.hid (startX_facts HOK.out now C1)
    have HW := Lib.hid (below_new w6 (.cells zs16 3))
    have HC := Lib.hid ((HC.out.weak (K' := fun b => b ≠ g ∧ b ≠ w6.heap.size) fun b hb h => ⟨h, by omega⟩).below HW.out)
    have HSV := Lib.hid ((HSV.out.weak (K' := fun b => b ≠ g ∧ b ≠ w6.heap.size) fun b hb h => ⟨h, by omega⟩).below HW.out)
    have HMG : Hid (w6.heap.size ≠ g ∧ w.heap.size ≤ w6.heap.size) := by { show _ ∧ _; have := HC.out.lt; have := HT.out.size; obtain ⟨_, _, h, _⟩ := HCL.out; have := h.lt; omega }
    have HT := Lib.hid (below_call HT.out HT.out.size HW.out)
    clear HW HCL
    generalize (w6.alloc (.cells zs16 3)) = w7 at *
    generalize w6.heap.size = ma at *
    obtain ⟨X, hX⟩ : ∃ X, X = startX (newX nid inc bs) now C1 := ⟨_, rfl⟩
    rw [← hX] at HC HX
    rw [show callX (newX nid inc bs) C1 = X.call from by rw [hX]; rfl] at HSV
    clear hX
    obtain ⟨x1, x2, x3, x4, x5⟩ := HX.out
    have HXB := Lib.hid x1
    have HXR := Lib.hid x2
    have HXC := Lib.hid x3
    have HXG := Lib.hid x4
    rw [← x5] at HC
    clear x1 x2 x3 x4 x5 HX
    go_loopw [13, 16] (fun s t wr => ∃ k : Nat, k ≤ 250 ∧ t = .int .u64 ((k + 1 : Nat) : Int) ∧ Cv (fun b => b ≠ g ∧ b ≠ ma) wr g (LoneX X (lone bs.length k).1) ∧ SlS (fun b => b ≠ g ∧ b ≠ ma) wr s (sentL bs X.call k) ∧ (∃ ks, As wr ma ks ∧ Asked ks bs k) ∧ Below w.heap.size w wr) (fun _ t _ => 251 - (intOf t).toNat)
    case atStart => exact ⟨0, by omega, rfl, HC.out, HSV.out, ⟨_, HAS.out, Asked.zero bs⟩, HT.out⟩
    case round =>
      skip
      clear HC HSV HAS HT
      obtain ⟨wo, rfl⟩ : ∃ wo : World, wo = wr := ⟨_, rfl⟩
      obtain ⟨k, hk, rfl, hc, hsv, ⟨ks, has, hask⟩, hb⟩ := hrel
      have HC := Lib.hid hc
      have HSV := Lib.hid hsv
      have HAS := Lib.hid has
      have HASK := Lib.hid hask
      have HT := Lib.hid hb
      clear hc hsv has hask hb
      by_cases hlt : k < 250
      · skip
        have HSL := Lib.hid (sent_form HSV.out)
        obtain ⟨SA, sn, sc, rfl, hn1, hsj⟩ := HSL.out
        have HSJ := Lib.hid hsj
        have HN1 := Lib.hid hn1
        have t1 : decide (((k + 1 : Nat) : Int) ≤ 250) = true := decide_eq_true (by omega)
        have t1' : decide (k + 1 ≤ 250) = true := decide_eq_true (by omega)
        clear hn1 hsj HSL
        go_wp2_with fail
        clear t1 t1'
        go_loopw [17] (fun i wi => ∃ q : Nat, q ≤ sn ∧ i = .int .i64 q ∧ Cv (fun b => b ≠ g ∧ b ≠ ma) wi g (LoneX X (lone bs.length k).1) ∧ SlS (fun b => b ≠ g ∧ b ≠ ma) wi (.slice SA sn sc) (sentL bs X.call k) ∧ (∃ ks, As wi ma ks ∧ Asked ks bs (k + q)) ∧ Below w.heap.size w wi) (fun i _ => sn - (intOf i).toNat)
        case atStart => exact ⟨0, by omega, rfl, HC.out, HSV.out, ⟨ks, HAS.out, HASK.out⟩, HT.out⟩
        case round =>
          skip
          clear HC HSV HAS HT HASK ks
          obtain ⟨q, hq, rfl, hc, hsv, ⟨ks, has, hask⟩, hb⟩ := hrel
          have HC := Lib.hid hc
          have HSV := Lib.hid hsv
          have HAS := Lib.hid has
          have HASK := Lib.hid hask
          have HT := Lib.hid hb
          clear hc hsv has hask hb
          by_cases hqs : q < sn
          · skip
            obtain rfl : q = 0 := by have := HN1.out; omega
            obtain ⟨j, sb, rfl, rfl, hlj⟩ := HSJ.out (by omega)
            obtain ⟨to, hto⟩ : ∃ to : Nat, bs.getD j 0 = (to : Int) ∧ 1 ≤ to ∧ to ≤ 15 := by
              have hjl := (lone_at bs.length (by have := HXG.out.1; have := HXB.out; rw [← this]; omega) k).2 j hlj
              have := broker_in HOK.out hjl
              exact ⟨(bs.getD j 0).toNat, by omega, by omega, by omega⟩
            have HLJ := Lib.hid hlj
            have HTO := Lib.hid hto
            have hsl := HSV.out
            rw [show sentL bs X.call k = some ((to : Int), X.call) from by unfold sentL; rw [hlj, Option.map_some, hto.1]] at hsl
            have s0 := hsl.look.1
            have hto1 := hto.2
            have hlen := HASK.out.len
            have a0 := HAS.out.cell (i := to) (by omega)
            have f0 := HAS.out.free to
            have HASN := Lib.hid (HAS.out.put to (ks[to] + 1))
            have HMO := Lib.hid (HASK.out.more (n := to) hlj (by have := hto.1; omega) (by omega))
            have hle := HASK.out.le to (by omega)
            generalize hz : ks[to] = z at *
            have e1 : decide ((to : Int) < 1) = false := decide_eq_false (by omega)
            have e2 : decide ((15 : Int) < (to : Int)) = false := decide_eq_false (by omega)
            have e3 : IntKind.i64.wrap ((z : Int) + 1) = ((z + 1 : Nat) : Int) := by rw [IntKind.wrap_i64]; omega
            have e4 : (to : Int) < 16 := by omega
            have e5 : to < 16 := by omega
            have HMM := Lib.hid (Mod.set (S := fun b => b = ma) (Mod.refl _ wr) (p := ⟨ma, to, none⟩) (fun _ => rfl) (.int .i64 ((z + 1 : Nat) : Int)))
            clear hlj hto hsl hlen hle hz HN1
            go_wp2_with fail
            go_roundw
            case rel => exact ⟨1, by omega, by go_num, HC.out.mod HMM.out (by have := HMG.out; omega) fun b h => h.2, HSV.out.mod HMM.out fun b h => h.2, ⟨_, HASN.out, HMO.out⟩, HT.out.trans (HMM.out.to_below HT.out.size fun b hb e => by have := HMG.out; omega)⟩
            case measure => simp [intOf]
          obtain rfl : q = sn := by omega
          have HAQ : Hid (Asked ks bs (k + 1)) := by
            show Asked _ _ _
            rcases Nat.eq_zero_or_pos q with h0 | h0
            · subst h0
              exact HASK.out.quiet (sent_none HSV.out)
            · obtain rfl : q = 1 := by have := HN1.out; omega
              exact HASK.out
          have HKB := Lib.hid hlt
          clear HASK HSV HSJ HN1 hqs hq hlt
          have q1 : decide ((q : Int) < (q : Int)) = false := decide_eq_false (by omega)
          have a1 : IntKind.u64.wrap ((now : Int) + ((k : Int) + 1)) = ((now + (k + 1) : Nat) : Int) := by rw [IntKind.wrap_u64]; have := HL2b.out; have := HKB.out; omega
          obtain ⟨vb, vc, hB, hvb, hvc⟩ := HC.out
          have HB := Lib.hid hB
          have HVB := Lib.hid hvb
          have HVC := Lib.hid hvc
          clear hB hvb hvc
          have HBC := Lib.hid HB.out
          go_wp2_with (refine wpList_load_blk rfl (ty := 29) rfl rfl HB.out Try.underlying29 rfl (info_client rfl) ?_; refine Hid.out ?_)
          refine Lib.hid ?_
          go_wp2_with fail
          have hT := tick_any (X := LoneX X (lone bs.length k).1) (now := now + (k + 1)) HVB.out HVC.out (by have := lone_good HXG.out k; rw [HXB.out] at this; exact this) (by have := HL1b.out; show X.call.body.length ≤ _; rw [HXC.out]; omega) (by have := HL2b.out; have := HKB.out; omega)
          have hL := lone_turn X k (now + (k + 1)) (by rw [HXR.out])
          rw [HXB.out] at hL
          rw [hL, lone_ended] at hT
          clear hL a1 q1
          by_cases hk1 : k + 1 = 240
          · have HSQ : Hid (sentL bs X.call (k + 1) = none) := by { show _ = _; unfold sentL; rw [lone_quiet bs.length k (by omega)]; rfl }
            rw [decide_eq_true hk1, if_pos rfl, HSQ.out] at hT
            have HK1 := Lib.hid hk1
            clear hk1
            refine hT.mono ?_
            clear hT
            rintro e w13 ⟨⟨vb', vc', sv, vr, rfl, hvb, hvc, hsv, hvr⟩, hb⟩
            have HAL := Lib.hid (Blk.lt HAS.out)
            have HGL := Lib.hid HB.out.lt
            have HT := Lib.hid (below_call HT.out HT.out.size hb)
            have HB := Lib.hid (HB.out.below hb HB.out.lt)
            have HC := Lib.hid (HC.out.below hb)
            have HAS := Lib.hid (HAS.out.below hb HAS.out.lt)
            have HVB := Lib.hid (hvb.weak (K' := fun b => b ≠ g ∧ b ≠ ma) fun b _ h => by have := HGL.out; have h : wr.heap.size ≤ b := h; show b ≠ g ∧ b ≠ ma; have := HAL.out; omega)
            have HVC := Lib.hid (hvc.weak (K' := fun b => b ≠ g ∧ b ≠ ma) fun b _ h => by have := HGL.out; have h : wr.heap.size ≤ b := h; show b ≠ g ∧ b ≠ ma; have := HAL.out; omega)
            have HO : Hid (vb'.oneCell' = true ∧ vc'.oneCell' = true) := ⟨hvb.one, hvc.one⟩
            have HVR := Lib.hid (hvr.weak (K' := fun b => b ≠ g ∧ b ≠ ma) fun b _ h => by have := HGL.out; have h : wr.heap.size ≤ b := h; show b ≠ g ∧ b ≠ ma; have := HAL.out; omega)
            have HOR := Lib.hid hvr.one
            obtain rfl : sv = .slice none 0 0 := hsv
            clear hb hvb hvc hvr
            have HM := Lib.hid (Mod.refl (fun b => b = g) w13)
            have HM0 := Lib.hid (Below.refl w13.heap.size w13)
            clear HAL
            go_wp2_with (refine wpList_alloc_blk rfl rfl zero_client ?_; rintro n14 w14 hg hB hb; refine Hid.out ?_)
            refine Lib.hid ?_
            have HNn14 : Hid (n14 ≠ g ∧ w13.heap.size ≤ n14) := by { show _ ∧ _; have := HM0.out.size; have := HB.out.lt; omega }
            have HBn14 := Lib.hid hB
            have HB := Lib.hid (HB.out.below hb HB.out.lt)
            have HM := Lib.hid (HM.out.trans (Mod.below hb (Nat.le_refl _)))
            have HM0 := Lib.hid (below_call HM0.out HM0.out.size hb)
            clear hg hB hb
            go_wp2_with (refine wpList_alloc_blk rfl rfl zero_reply ?_; rintro m15 w15 hg hB hb; refine Hid.out ?_)
            refine Lib.hid ?_
            have HNm15 : Hid (m15 ≠ g ∧ w13.heap.size ≤ m15) := by { show _ ∧ _; have := HM0.out.size; have := HB.out.lt; omega }
            have HXn14m15 : Hid (n14 ≠ m15) := by { show _ ≠ _; have := HBn14.out.lt; omega }
            have HBn14 := Lib.hid (HBn14.out.below hb HBn14.out.lt)
            have HBm15 := Lib.hid hB
            have HB := Lib.hid (HB.out.below hb HB.out.lt)
            have HM := Lib.hid (HM.out.trans (Mod.below hb (Nat.le_refl _)))
            have HM0 := Lib.hid (below_call HM0.out HM0.out.size hb)
            clear hg hB hb
            go_wp2_with (refine wpList_store_blk rfl rfl rfl rfl HBn14.out rfl (info_client rfl) (cliL_one HO.out.1 HO.out.2) ?_; rintro w16 hB hm; refine Hid.out ?_)
            refine Lib.hid ?_
            have HB := Lib.hid (HB.out.mod hm (by have := HNn14.out; omega))
            have HBm15 := Lib.hid (HBm15.out.mod hm (by have := HXn14m15.out; omega))
            have HBn14 := Lib.hid hB
            have HM := Lib.hid (HM.out.join hm fun b hb e => absurd (show b = n14 from e) (by have := HNn14.out; omega))
            have HM0 := Lib.hid (HM0.out.trans (hm.to_below HM0.out.size fun b hb e => absurd (show b = n14 from e) (by have := HNn14.out; omega)))
            clear hB hm
            go_wp2_with (refine wpList_store_blk rfl rfl rfl rfl HBm15.out rfl (info_reply rfl) (repL_one HOR.out) ?_; rintro w17 hB hm; refine Hid.out ?_)
            refine Lib.hid ?_
            have HB := Lib.hid (HB.out.mod hm (by have := HNm15.out; omega))
            have HBn14 := Lib.hid (HBn14.out.mod hm (by have := HXn14m15.out; omega))
            have HBm15 := Lib.hid hB
            have HM := Lib.hid (HM.out.join hm fun b hb e => absurd (show b = m15 from e) (by have := HNm15.out; omega))
            have HM0 := Lib.hid (HM0.out.trans (hm.to_below HM0.out.size fun b hb e => absurd (show b = m15 from e) (by have := HNm15.out; omega)))
            clear hB hm
            go_wp2_with (refine wpList_load_blk rfl (ty := 29) rfl rfl HBn14.out Try.underlying29 rfl (info_client rfl) ?_; refine Hid.out ?_)
            refine Lib.hid ?_
            go_wp2_with (refine wpList_store_blk rfl rfl rfl rfl HB.out rfl (info_client rfl) (cliL_one HO.out.1 HO.out.2) ?_; rintro w18 hB hm; refine Hid.out ?_)
            refine Lib.hid ?_
            have HB := Lib.hid hB
            have HBn14 := Lib.hid (HBn14.out.mod hm (by have := HNn14.out; omega))
            have HBm15 := Lib.hid (HBm15.out.mod hm (by have := HNm15.out; omega))
            have HM := Lib.hid (HM.out.trans hm)
            clear hB hm
            have r3 : w18.cell? ⟨m15, 3, none⟩ = some (.int .i64 3) := (HBm15.out.cell 3).trans rfl
            have HSV : Hid (SlS (fun b => b ≠ g ∧ b ≠ ma) w18 (.slice none 0 0) (sentL bs X.call (k + 1))) := by { show SlS _ _ _ _; rw [HSQ.out]; exact rfl }
            have HT := Lib.hid (HT.out.trans (HM.out.to_below HT.out.size fun b hb e => by have := HG.out; omega))
            have HC : Hid (Cv (fun b => b ≠ g ∧ b ≠ ma) w18 g (LoneX X (lone bs.length (k + 1)).1)) := ⟨vb', vc', HB.out, HVB.out.mod HM.out fun b h => h.1, HVC.out.mod HM.out fun b h => h.1⟩
            have HAS := Lib.hid (HAS.out.mod HM.out (by have := HMG.out; omega))
            clear HB HVB HVC HO HM HM0 HGL HBn14 HNn14 HBm15 HNm15 HVR HOR HXn14m15
            have hk1 := HK1.out
            have u1 : (((k : Int) + 1) == 240) = true := beq_iff_eq.2 (by omega)
            have u1' : decide (((k : Int) + 1) = 240) = true := decide_eq_true (by omega)
            have u2 : decide ((240 : Int) ≤ (k : Int) + 1) = true := decide_eq_true (by omega)
            have u3 : IntKind.u64.wrap ((k : Int) + 1 + 1) = (k : Int) + 1 + 1 := by rw [IntKind.wrap_u64]; have := HKB.out; omega
            clear hk1
            go_wp2_with fail
            go_roundw
            case rel => exact ⟨k + 1, by have := HKB.out; omega, by go_num, HC.out, HSV.out, ⟨ks, HAS.out, HAQ.out⟩, HT.out⟩
            case measure => simp [intOf]; have := HKB.out; omega
          rw [decide_eq_false hk1, if_neg (by decide)] at hT
          by_cases hk2 : k + 1 < 240
          · skip
            refine hT.mono ?_
            clear hT
            rintro e w13 ⟨⟨vb', vc', sv, vr, rfl, hvb, hvc, hsv, hvr⟩, hb⟩
            have HAL := Lib.hid (Blk.lt HAS.out)
            obtain ⟨SB, un, uc, esv⟩ := SlS.slice hsv
            subst esv
            have HGL := Lib.hid HB.out.lt
            have HT := Lib.hid (below_call HT.out HT.out.size hb)
            have HB := Lib.hid (HB.out.below hb HB.out.lt)
            have HC := Lib.hid (HC.out.below hb)
            have HAS := Lib.hid (HAS.out.below hb HAS.out.lt)
            have HVB := Lib.hid (hvb.weak (K' := fun b => b ≠ g ∧ b ≠ ma) fun b _ h => by have := HGL.out; have h : wr.heap.size ≤ b := h; show b ≠ g ∧ b ≠ ma; have := HAL.out; omega)
            have HVC := Lib.hid (hvc.weak (K' := fun b => b ≠ g ∧ b ≠ ma) fun b _ h => by have := HGL.out; have h : wr.heap.size ≤ b := h; show b ≠ g ∧ b ≠ ma; have := HAL.out; omega)
            have HO : Hid (vb'.oneCell' = true ∧ vc'.oneCell' = true) := ⟨hvb.one, hvc.one⟩
            have HVR := Lib.hid (hvr.weak (K' := fun b => b ≠ g ∧ b ≠ ma) fun b _ h => by have := HGL.out; have h : wr.heap.size ≤ b := h; show b ≠ g ∧ b ≠ ma; have := HAL.out; omega)
            have HOR := Lib.hid hvr.one
            have HSV := Lib.hid (hsv.weak (K' := fun b => b ≠ g ∧ b ≠ ma) fun b _ h => by have := HGL.out; have h : wr.heap.size ≤ b := h; show b ≠ g ∧ b ≠ ma; have := HAL.out; omega)
            clear hb hvb hvc hsv hvr
            have HM := Lib.hid (Mod.refl (fun b => b = g) w13)
            have HM0 := Lib.hid (Below.refl w13.heap.size w13)
            clear HAL
            go_wp2_with (refine wpList_alloc_blk rfl rfl zero_client ?_; rintro n14 w14 hg hB hb; refine Hid.out ?_)
            refine Lib.hid ?_
            have HNn14 : Hid (n14 ≠ g ∧ w13.heap.size ≤ n14) := by { show _ ∧ _; have := HM0.out.size; have := HB.out.lt; omega }
            have HBn14 := Lib.hid hB
            have HB := Lib.hid (HB.out.below hb HB.out.lt)
            have HM := Lib.hid (HM.out.trans (Mod.below hb (Nat.le_refl _)))
            have HM0 := Lib.hid (below_call HM0.out HM0.out.size hb)
            clear hg hB hb
            go_wp2_with (refine wpList_alloc_blk rfl rfl zero_reply ?_; rintro m15 w15 hg hB hb; refine Hid.out ?_)
            refine Lib.hid ?_
            have HNm15 : Hid (m15 ≠ g ∧ w13.heap.size ≤ m15) := by { show _ ∧ _; have := HM0.out.size; have := HB.out.lt; omega }
            have HXn14m15 : Hid (n14 ≠ m15) := by { show _ ≠ _; have := HBn14.out.lt; omega }
            have HBn14 := Lib.hid (HBn14.out.below hb HBn14.out.lt)
            have HBm15 := Lib.hid hB
            have HB := Lib.hid (HB.out.below hb HB.out.lt)
            have HM := Lib.hid (HM.out.trans (Mod.below hb (Nat.le_refl _)))
            have HM0 := Lib.hid (below_call HM0.out HM0.out.size hb)
            clear hg hB hb
            go_wp2_with (refine wpList_store_blk rfl rfl rfl rfl HBn14.out rfl (info_client rfl) (cliL_one HO.out.1 HO.out.2) ?_; rintro w16 hB hm; refine Hid.out ?_)
            refine Lib.hid ?_
            have HB := Lib.hid (HB.out.mod hm (by have := HNn14.out; omega))
            have HBm15 := Lib.hid (HBm15.out.mod hm (by have := HXn14m15.out; omega))
            have HBn14 := Lib.hid hB
            have HM := Lib.hid (HM.out.join hm fun b hb e => absurd (show b = n14 from e) (by have := HNn14.out; omega))
            have HM0 := Lib.hid (HM0.out.trans (hm.to_below HM0.out.size fun b hb e => absurd (show b = n14 from e) (by have := HNn14.out; omega)))
            clear hB hm
            go_wp2_with (refine wpList_store_blk rfl rfl rfl rfl HBm15.out rfl (info_reply rfl) (repL_one HOR.out) ?_; rintro w17 hB hm; refine Hid.out ?_)
            refine Lib.hid ?_
            have HB := Lib.hid (HB.out.mod hm (by have := HNm15.out; omega))
            have HBn14 := Lib.hid (HBn14.out.mod hm (by have := HXn14m15.out; omega))
            have HBm15 := Lib.hid hB
            have HM := Lib.hid (HM.out.join hm fun b hb e => absurd (show b = m15 from e) (by have := HNm15.out; omega))
            have HM0 := Lib.hid (HM0.out.trans (hm.to_below HM0.out.size fun b hb e => absurd (show b = m15 from e) (by have := HNm15.out; omega)))
            clear hB hm
            go_wp2_with (refine wpList_load_blk rfl (ty := 29) rfl rfl HBn14.out Try.underlying29 rfl (info_client rfl) ?_; refine Hid.out ?_)
            refine Lib.hid ?_
            go_wp2_with (refine wpList_store_blk rfl rfl rfl rfl HB.out rfl (info_client rfl) (cliL_one HO.out.1 HO.out.2) ?_; rintro w18 hB hm; refine Hid.out ?_)
            refine Lib.hid ?_
            have HB := Lib.hid hB
            have HBn14 := Lib.hid (HBn14.out.mod hm (by have := HNn14.out; omega))
            have HBm15 := Lib.hid (HBm15.out.mod hm (by have := HNm15.out; omega))
            have HM := Lib.hid (HM.out.trans hm)
            clear hB hm
            have r3 : w18.cell? ⟨m15, 3, none⟩ = some (.int .i64 0) := (HBm15.out.cell 3).trans rfl
            have HSV := Lib.hid (HSV.out.mod HM.out fun b h => h.1)
            have HT := Lib.hid (HT.out.trans (HM.out.to_below HT.out.size fun b hb e => by have := HG.out; omega))
            have HC : Hid (Cv (fun b => b ≠ g ∧ b ≠ ma) w18 g (LoneX X (lone bs.length (k + 1)).1)) := ⟨vb', vc', HB.out, HVB.out.mod HM.out fun b h => h.1, HVC.out.mod HM.out fun b h => h.1⟩
            have HAS := Lib.hid (HAS.out.mod HM.out (by have := HMG.out; omega))
            clear HB HVB HVC HO HM HM0 HGL HBn14 HNn14 HBm15 HNm15 HVR HOR HXn14m15
            have u1 : (((k : Int) + 1) == 240) = false := beq_eq_false_iff_ne.2 (by omega)
            have u1' : decide (((k : Int) + 1) = 240) = false := decide_eq_false (by omega)
            have u2 : decide ((240 : Int) ≤ (k : Int) + 1) = false := decide_eq_false (by omega)
            have u3 : IntKind.u64.wrap ((k : Int) + 1 + 1) = (k : Int) + 1 + 1 := by rw [IntKind.wrap_u64]; have := HKB.out; omega
            go_wp2_with fail
            go_roundw
            case rel => exact ⟨k + 1, by have := HKB.out; omega, by go_num, HC.out, HSV.out, ⟨ks, HAS.out, HAQ.out⟩, HT.out⟩
            case measure => simp [intOf]; have := HKB.out; omega
          have HSQ : Hid (sentL bs X.call (k + 1) = none) := by { show _ = _; unfold sentL; rw [lone_quiet bs.length k (by omega)]; rfl }
          rw [HSQ.out] at hT
          refine hT.mono ?_
          clear hT
          rintro e w13 ⟨⟨vb', vc', sv, vr, rfl, hvb, hvc, hsv, hvr⟩, hb⟩
          have HAL := Lib.hid (Blk.lt HAS.out)
          have HGL := Lib.hid HB.out.lt
          have HT := Lib.hid (below_call HT.out HT.out.size hb)
          have HB := Lib.hid (HB.out.below hb HB.out.lt)
          have HC := Lib.hid (HC.out.below hb)
          have HAS := Lib.hid (HAS.out.below hb HAS.out.lt)
          have HVB := Lib.hid (hvb.weak (K' := fun b => b ≠ g ∧ b ≠ ma) fun b _ h => by have := HGL.out; have h : wr.heap.size ≤ b := h; show b ≠ g ∧ b ≠ ma; have := HAL.out; omega)
          have HVC := Lib.hid (hvc.weak (K' := fun b => b ≠ g ∧ b ≠ ma) fun b _ h => by have := HGL.out; have h : wr.heap.size ≤ b := h; show b ≠ g ∧ b ≠ ma; have := HAL.out; omega)
          have HO : Hid (vb'.oneCell' = true ∧ vc'.oneCell' = true) := ⟨hvb.one, hvc.one⟩
          have HVR := Lib.hid (hvr.weak (K' := fun b => b ≠ g ∧ b ≠ ma) fun b _ h => by have := HGL.out; have h : wr.heap.size ≤ b := h; show b ≠ g ∧ b ≠ ma; have := HAL.out; omega)
          have HOR := Lib.hid hvr.one
          obtain rfl : sv = .slice none 0 0 := hsv
          clear hb hvb hvc hvr
          have HM := Lib.hid (Mod.refl (fun b => b = g) w13)
          have HM0 := Lib.hid (Below.refl w13.heap.size w13)
          clear HAL
          go_wp2_with (refine wpList_alloc_blk rfl rfl zero_client ?_; rintro n14 w14 hg hB hb; refine Hid.out ?_)
          refine Lib.hid ?_
          have HNn14 : Hid (n14 ≠ g ∧ w13.heap.size ≤ n14) := by { show _ ∧ _; have := HM0.out.size; have := HB.out.lt; omega }
          have HBn14 := Lib.hid hB
          have HB := Lib.hid (HB.out.below hb HB.out.lt)
          have HM := Lib.hid (HM.out.trans (Mod.below hb (Nat.le_refl _)))
          have HM0 := Lib.hid (below_call HM0.out HM0.out.size hb)
          clear hg hB hb
          go_wp2_with (refine wpList_alloc_blk rfl rfl zero_reply ?_; rintro m15 w15 hg hB hb; refine Hid.out ?_)
          refine Lib.hid ?_
          have HNm15 : Hid (m15 ≠ g ∧ w13.heap.size ≤ m15) := by { show _ ∧ _; have := HM0.out.size; have := HB.out.lt; omega }
          have HXn14m15 : Hid (n14 ≠ m15) := by { show _ ≠ _; have := HBn14.out.lt; omega }
          have HBn14 := Lib.hid (HBn14.out.below hb HBn14.out.lt)
          have HBm15 := Lib.hid hB
          have HB := Lib.hid (HB.out.below hb HB.out.lt)
          have HM := Lib.hid (HM.out.trans (Mod.below hb (Nat.le_refl _)))
          have HM0 := Lib.hid (below_call HM0.out HM0.out.size hb)
          clear hg hB hb
          go_wp2_with (refine wpList_store_blk rfl rfl rfl rfl HBn14.out rfl (info_client rfl) (cliL_one HO.out.1 HO.out.2) ?_; rintro w16 hB hm; refine Hid.out ?_)
          refine Lib.hid ?_
          have HB := Lib.hid (HB.out.mod hm (by have := HNn14.out; omega))
          have HBm15 := Lib.hid (HBm15.out.mod hm (by have := HXn14m15.out; omega))
          have HBn14 := Lib.hid hB
          have HM := Lib.hid (HM.out.join hm fun b hb e => absurd (show b = n14 from e) (by have := HNn14.out; omega))
          have HM0 := Lib.hid (HM0.out.trans (hm.to_below HM0.out.size fun b hb e => absurd (show b = n14 from e) (by have := HNn14.out; omega)))
          clear hB hm
          go_wp2_with (refine wpList_store_blk rfl rfl rfl rfl HBm15.out rfl (info_reply rfl) (repL_one HOR.out) ?_; rintro w17 hB hm; refine Hid.out ?_)
          refine Lib.hid ?_
          have HB := Lib.hid (HB.out.mod hm (by have := HNm15.out; omega))
          have HBn14 := Lib.hid (HBn14.out.mod hm (by have := HXn14m15.out; omega))
          have HBm15 := Lib.hid hB
          have HM := Lib.hid (HM.out.join hm fun b hb e => absurd (show b = m15 from e) (by have := HNm15.out; omega))
          have HM0 := Lib.hid (HM0.out.trans (hm.to_below HM0.out.size fun b hb e => absurd (show b = m15 from e) (by have := HNm15.out; omega)))
          clear hB hm
          go_wp2_with (refine wpList_load_blk rfl (ty := 29) rfl rfl HBn14.out Try.underlying29 rfl (info_client rfl) ?_; refine Hid.out ?_)
          refine Lib.hid ?_
          go_wp2_with (refine wpList_store_blk rfl rfl rfl rfl HB.out rfl (info_client rfl) (cliL_one HO.out.1 HO.out.2) ?_; rintro w18 hB hm; refine Hid.out ?_)
          refine Lib.hid ?_
          have HB := Lib.hid hB
          have HBn14 := Lib.hid (HBn14.out.mod hm (by have := HNn14.out; omega))
          have HBm15 := Lib.hid (HBm15.out.mod hm (by have := HNm15.out; omega))
          have HM := Lib.hid (HM.out.trans hm)
          clear hB hm
          have r3 : w18.cell? ⟨m15, 3, none⟩ = some (.int .i64 0) := (HBm15.out.cell 3).trans rfl
          have HSV : Hid (SlS (fun b => b ≠ g ∧ b ≠ ma) w18 (.slice none 0 0) (sentL bs X.call (k + 1))) := by { show SlS _ _ _ _; rw [HSQ.out]; exact rfl }
          have HT := Lib.hid (HT.out.trans (HM.out.to_below HT.out.size fun b hb e => by have := HG.out; omega))
          have HC : Hid (Cv (fun b => b ≠ g ∧ b ≠ ma) w18 g (LoneX X (lone bs.length (k + 1)).1)) := ⟨vb', vc', HB.out, HVB.out.mod HM.out fun b h => h.1, HVC.out.mod HM.out fun b h => h.1⟩
          have HAS := Lib.hid (HAS.out.mod HM.out (by have := HMG.out; omega))
          clear HB HVB HVC HO HM HM0 HGL HBn14 HNn14 HBm15 HNm15 HVR HOR HXn14m15
          have u1 : (((k : Int) + 1) == 240) = false := beq_eq_false_iff_ne.2 (by omega)
          have u1' : decide (((k : Int) + 1) = 240) = false := decide_eq_false (by omega)
          have u2 : decide ((240 : Int) ≤ (k : Int) + 1) = true := decide_eq_true (by omega)
          have u3 : IntKind.u64.wrap ((k : Int) + 1 + 1) = (k : Int) + 1 + 1 := by rw [IntKind.wrap_u64]; have := HKB.out; omega
          go_wp2_with fail
          go_roundw
          case rel => exact ⟨k + 1, by have := HKB.out; omega, by go_num, HC.out, HSV.out, ⟨ks, HAS.out, HAQ.out⟩, HT.out⟩
          case measure => simp [intOf]; have := HKB.out; omega
      obtain rfl : k = 250 := by omega
      have HASK2 := HASK
      clear hlt hk HC HSV
      go_wp2_with fail
      go_loopw [22] (fun i wi => ∃ q : Nat, q ≤ bs.length ∧ i = .int .i64 q ∧ wi = wo) (fun i _ => bs.length - (intOf i).toNat)
      case atStart => exact ⟨0, by omega, rfl, rfl⟩
      case round =>
        obtain ⟨q, hq, rfl, rfl⟩ := hrel
        by_cases hlt : q < bs.length
        · obtain ⟨b, o, rfl, hbl, hcl⟩ := Reads.flat (HVR.out.below HT.out) (by omega) (by decide)
          have hin := broker_in HOK.out hlt
          have hp := HASK.out.all HOK.out.2.2.2.2.1 hlt
          have c0 := hcl q _ (by rw [List.getElem?_map, List.getElem?_eq_getElem hlt]; rfl)
          obtain ⟨to, hto⟩ : ∃ to : Nat, bs.getD q 0 = (to : Int) ∧ 1 ≤ to ∧ to ≤ 15 := ⟨(bs.getD q 0).toNat, by omega, by omega, by omega⟩
          have hbq : bs[q] = (to : Int) := by rw [← hto.1, List.getD_eq_getElem?_getD, List.getElem?_eq_getElem hlt]; rfl
          unfold iv at c0
          rw [hbq] at c0
          have hlen := HASK.out.len
          have a0 := HAS.out.cell (i := to) (by omega)
          rw [hto.1, Int.toNat_natCast, List.getD_eq_getElem?_getD, List.getElem?_eq_getElem (by omega), Option.getD_some] at hp
          generalize hz : ks[to] = z at *
          have e1 : ((z : Int) == 0) = false := beq_eq_false_iff_ne.2 (by omega)
          have e2 : decide ((z : Int) = 0) = false := decide_eq_false (by omega)
          have e4 : (to : Int) < 16 := by omega
          have e5 : to < 16 := by omega
          clear hz hbq hcl hin hto hlen hp
          go_wp2_with fail
          go_roundw
          case rel => exact ⟨q + 1, by omega, by go_num, trivial⟩
          case measure => simp [intOf]; omega
        · obtain rfl : q = bs.length := by omega
          go_wp2_with fail
          refine (cawake_any _).mono ?_
          rintro e w9 ⟨rfl, hb9⟩
          go_wp2_with fail
          go_ret
          exact ⟨rfl, below_call HT.out HT.out.size hb9⟩
  · skip
    go_wp2_with (refine wpList_alloc_blk rfl rfl zero_client ?_; rintro g w3 hg hB hb; refine Hid.out ?_)
    refine Lib.hid ?_
    have HG : Hid (w.heap.size ≤ g) := by { show _ ≤ _; rw [← hg]; exact HT.out.size }
    have HGN : Hid (w2.heap.size = g) := hg
    have HT := Lib.hid (below_call HT.out HT.out.size hb)
    have HB := Lib.hid hB
    have HW := Lib.hid hb
    go_wp2_with (refine wpList_store_blk rfl rfl rfl rfl HB.out rfl (info_client rfl) (cliL_one rfl rfl) ?_; rintro w4 hB4 hm; refine Hid.out ?_)
    refine Lib.hid ?_
    have HT := Lib.hid (HT.out.trans (hm.to_below HT.out.size fun b hb e => by have := HG.out; omega))
    go_wp2_with fail
    refine (cawake_any _).mono ?_
    rintro e w9 ⟨rfl, hb9⟩
    go_wp2_with fail
    go_ret
    exact ⟨rfl, below_call HT.out HT.out.size hb9⟩
end Go.Proofs.Ytpbaofabflgpkaa
