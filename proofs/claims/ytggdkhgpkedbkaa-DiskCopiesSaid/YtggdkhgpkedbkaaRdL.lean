/- A call of both disks. -/
import Derived.Test.YtggdkhgpkedbkaaRdK
namespace Go.Proofs.Ytggdkhgpkedbkaa
open Go.RowKit

theorem read_len {x : Dk} {N : Nat} (hx : Fine N x) (hN : N ≤ 1000000) (n : Nm) : (x.read n).1.length ≤ 1000000 := by
  have h1 := flen_le hx.srts n
  have h2 := hx.seen_le
  have h3 := hx.c1
  unfold flen at h1
  unfold Dk.read
  split
  · simp
  split
  · simp
  · simp only
    omega
theorem own_keep {w w' : World} {base : Nat} {e : TypeId} {size n : Nat} {v : Value} {xs : List Value} (h : w.ownsRow base e size v n xs) (hz : w.heap.size ≤ w'.heap.size) (hk : ∀ g, v.ownBlock = some g → w'.heap[g]? = w.heap[g]?) : w'.ownsRow base e size v n xs := by
  refine ⟨h.1, ?_⟩
  rcases h.2 with h2 | ⟨g, cap, cur, hv, hg, hb, r⟩
  · exact .inl h2
  · exact .inr ⟨g, cap, cur, hv, hg, (hk g (by rw [hv]; rfl)).trans hb, r⟩
def ActPost (w0 : World) (L M : List (Nat × Dk)) (d m : Nat) (x' : Dk) (e : Ending) (w' : World) : Prop := e = .returned (.bool true) ∧ ∃ K P, Both w0 w' K P ((d, x') :: L) ((m, x') :: M)
set_option maxRecDepth 100000 in
set_option maxHeartbeats 16000000 in
theorem act_any {w0 w : World} {K P : Nat → Prop} {L M : List (Nat × Dk)} {d m : Nat} {x : Dk} (h : Both w0 w K P ((d, x) :: L) ((m, x) :: M)) {N : Nat} (hx : Fine N x) (hN : N ≤ 999999) (a : Ac) (ha : a.ok w0) (hab : a.b.length ≤ 1000000) :
    Calls Try.prog 29 #[pd d, .pointer (some ⟨m, 0, none⟩), a.val] w (ActPost w0 L M d m (a.does x)) := by
  have hsm := hx.small (by omega)
  have hnn : Nok a.n := Nat.le_trans ha.ln (by decide)
  have hnt : Nok a.t := Nat.le_trans ha.lt (by decide)
  have haw := ha.below h.real.bel
  have hac := haw.cap
  have har := haw.room
  have hdo : a.does x = a.does x := rfl
  conv at hdo => rhs; unfold Ac.does
  have HDO := Lib.hid hdo
  clear hdo
  obtain ⟨W, hWW⟩ : ∃ W, W = w.alloc (.cells #[.int .i64 a.k.toInt, .string ⟨a.n.toArray⟩, .string ⟨a.t.toArray⟩, .slice a.A a.b.length a.c, .int .i64 a.p.toInt, .int .i64 a.q.toInt] 32) := ⟨_, rfl⟩
  have hbW : Below w.heap.size w W := by rw [hWW]; exact below_new w _
  have kA : Blk W w.heap.size 32 #[.int .i64 a.k.toInt, .string ⟨a.n.toArray⟩, .string ⟨a.t.toArray⟩, .slice a.A a.b.length a.c, .int .i64 a.p.toInt, .int .i64 a.q.toInt] := by rw [hWW]; exact Blk.new w _ _
  have hz : W.heap.size = w.heap.size + 1 := by rw [hWW]; simp
  have hbe : Below W.heap.size W (W.alloc (.cells #[] 5)) := below_new W _
  have hown : (W.alloc (.cells #[] 5)).ownsRow (w.heap.size + 1) 5 1 (.slice (some ⟨w.heap.size + 1, 0, none⟩) 0 0) 0 [] := by
    have this := World.ownsRow_made (base := W.heap.size) (size := 1) (e := 5) W #[] 0 (Nat.le_refl _) (by simp [maxLen]) rfl
    rw [hz] at this
    exact this
  have haF := haw.below (hbW.trans (hbe.mono hbW.size))
  have hcb : Reads (W.alloc (.cells #[] 5)) 1 a.A a.b.length (a.b.map bv) := haF.bytes
  have hbs : w.heap.size + 1 ≤ (W.alloc (.cells #[] 5)).heap.size := by have := hbe.size; omega
  have HZ := Lib.hid hz
  have HBW := Lib.hid hbW
  have HKA := Lib.hid kA
  have HX := Lib.hid hx
  have HAW := Lib.hid (haw.below hbW)
  have HH := Lib.hid h
  have HA0 := Lib.hid ha
  have HHR : Hid (a.b.length ≤ a.c ∧ a.c ≤ 9223372036854775807) := ⟨har, hac⟩
  have hal := hab
  unfold Ac.val pd at *
  generalize a.k.toInt = k at *
  clear hz hx haw haF h ha hbW kA
  subst hWW
  go_enter Try.func29, Try.ntmps29
  go_wp2_with (at_builtin; refine app_list bytes_ty rfl (s := .tmp 16) (x := .tmp 18) rfl hown rfl hcb rfl (bv_one a.b) (by omega) hbs ?_; intro v4 w4 ho4 hg4 _; refine Hid.out ?_)
  have hb4W := hbe.grown hg4 hbe.size (fun g e => by have := own_ge hown g e; have := HZ.out; omega)
  have hb4 : Below w.heap.size w w4 := HBW.out.trans (hb4W.mono HBW.out.size)
  have kA := HKA.out.below hb4W HKA.out.lt
  have hz4 : w.heap.size + 1 ≤ w4.heap.size := by have := hb4W.size; have := HZ.out; omega
  have ha4 := HAW.out.below hb4W
  obtain ⟨A4, c4, rfl, _, _⟩ := own_slice ho4
  simp only [Nat.zero_add, List.nil_append] at ho4 ⊢
  refine Lib.hid ?_
  clear hown hcb hbe hbs hg4 hb4W HZ HBW HKA HAW
  have q0 := kA.cell 0
  have q1 := kA.cell 1
  have q2 := kA.cell 2
  have q3 := kA.cell 3
  simp only [List.getElem?_toArray, List.getElem?_cons_zero, List.getElem?_cons_succ] at q0 q1 q2 q3
  obtain ⟨W5, hW5⟩ : ∃ W5, W5 = w4.alloc (.cells #[.int .i64 k, .string ⟨a.n.toArray⟩, .string ⟨a.t.toArray⟩, .slice a.A a.b.length a.c] 84) := ⟨_, rfl⟩
  have hb5 : Below w4.heap.size w4 W5 := by rw [hW5]; exact below_new _ _
  have kC : Blk W5 w4.heap.size 84 #[.int .i64 k, .string ⟨a.n.toArray⟩, .string ⟨a.t.toArray⟩, .slice a.A a.b.length a.c] := by rw [hW5]; exact Blk.new _ _ _
  have kA5 := kA.below hb5 kA.lt
  have ho5 := own_call ho4 hb5
  have hB5 := HH.out.below (hb4.trans (hb5.mono hb4.size))
  have hz5 := hb5.size
  obtain ⟨K5, hK5⟩ : ∃ K5 : Nat → Prop, K5 = fun b => K b ∨ From w.heap.size W5 b := ⟨_, rfl⟩
  have hKF : ∀ b, From w.heap.size W5 b → K5 b ∧ w0.heap.size ≤ b ∧ ¬ P b := fun b hb => ⟨by rw [hK5]; exact .inr hb, Nat.le_trans HH.out.real.le hb.1, fun hp => by have := HH.out.kl b (HH.out.sub b hp); have := hb.1; omega⟩
  rw [← hK5] at hB5
  have HKA : Hid (K5 w.heap.size) := (hKF _ ⟨Nat.le_refl _, kA5.lt⟩).1
  have HKC : Hid (K5 w4.heap.size) := (hKF _ ⟨by omega, kC.lt⟩).1
  have hol : ∀ b, (Value.slice A4 a.b.length c4).ownBlock = some b → From w.heap.size W5 b := fun b e => ⟨by have := (ho4.lt b e).1; omega, by have := (ho4.lt b e).2; omega⟩
  have HOL := Lib.hid hol
  have HKF := Lib.hid hKF
  have hby : Bytes W5.drew A4 a.b := Reads.of_own (own_call ho5 (Below.refl _ W5).drew)
  have hsub : ∀ {w6 w7 : World}, Kept K5 W5.drew w6 → Mod (· = m) w6 w7 → w7.ownsRow (w.heap.size + 1) 5 1 (.slice A4 a.b.length c4) a.b.length (a.b.map bv) := fun {w6 w7} hk hm => own_keep ho5 (Nat.le_trans hk.1 hm.size) fun g e => by
    have h1 := hol g e
    have h2 := (hKF g h1).1
    have hmw : m < w.heap.size := HH.out.doc.lt (m, x) List.mem_cons_self
    exact (hm.block g (Nat.lt_of_lt_of_le h1.2 hk.1) fun e' => by have := h1.1; omega).trans (hk.2 g h2)
  have HSUB : Hid (∀ {w6 w7 : World}, Kept K5 W5.drew w6 → Mod (· = m) w6 w7 → w7.ownsRow (w.heap.size + 1) 5 1 (.slice A4 a.b.length c4) a.b.length (a.b.map bv)) := hsub
  have q4 := kA5.cell 0
  simp only [List.getElem?_toArray, List.getElem?_cons_zero] at q4
  rw [hW5] at q4
  have q5 := kA5.cell 1
  simp only [List.getElem?_toArray, List.getElem?_cons_zero, List.getElem?_cons_succ] at q5
  rw [hW5] at q5
  have hzw : w.heap.size ≤ W5.heap.size := by have := kA5.lt; omega
  have HZW := Lib.hid hzw
  clear hzw
  have HO5 := Lib.hid ho5
  have HB5 := Lib.hid hB5
  have HBY := Lib.hid hby
  have HK5 := Lib.hid hK5
  have HKA5 := Lib.hid kA5
  have HKC5 := Lib.hid kC
  have HW5 := Lib.hid hW5
  clear hW5 hK5 hKF hol hby hsub ho4 ho5 hB5 hb4 hb5 kA kA5 kC hz4 hz5 ha4
  by_cases e0 : k = 0
  · subst e0
    have HX7 : Hid (a.does x = (x.append a.n a.b).2) := by show _ = _; rw [HDO.out]; rfl
    have hB5 := HB5.out.drew
    have c0 := hB5.real.append hsm a.n hnn A4 c4 a.b HBY.out (by omega)
    unfold pd at c0
    go_wp2_with fail
    rw [← HW5.out]
    clear q0 q1 q2 q3 q4 q5
    have r0 := HKC5.out.drew.cell 0
    have r1 := HKC5.out.drew.cell 1
    have r2 := HKC5.out.drew.cell 2
    have r3 := HKC5.out.drew.cell 3
    have s1 := HKA5.out.drew.cell 1
    have s2 := HKA5.out.drew.cell 2
    have s4 := HKA5.out.drew.cell 4
    have s5 := HKA5.out.drew.cell 5
    simp only [List.getElem?_toArray, List.getElem?_cons_zero, List.getElem?_cons_succ] at r0 r1 r2 r3 s1 s2 s4 s5
    refine PF.pf_begin (by kernel_rfl) ?_
    refine PF.pf_take0 0 (by kernel_rfl) rfl (fun _ _ _ _ _ h => h) (by kernel_rfl) (fun u => by go_simp; try rfl) ?_
    try simp only [Act.put, List.setIfInBounds_toArray, List.set_cons_zero, List.set_cons_succ]
    refine PF.pf_take0 1 (by kernel_rfl) rfl (fun _ _ _ _ _ h => h) (by kernel_rfl) (fun u => by go_simp; try rfl) ?_
    try simp only [Act.put, List.setIfInBounds_toArray, List.set_cons_zero, List.set_cons_succ]
    refine PF.pf_take1 2 (PF.Same (w.heap.size) _) (by kernel_rfl) rfl (fun _ _ _ _ _ h => h) (by kernel_rfl) (PF.Same.refl _ _) (fun u hu => by have hcu := hu.cell; go_simp; try rfl) ?_
    try simp only [Act.put, List.setIfInBounds_toArray, List.set_cons_zero, List.set_cons_succ]
    refine PF.pf_take0 3 (by kernel_rfl) rfl (fun _ _ _ _ _ h => h) (by kernel_rfl) (fun u => by go_simp; try rfl) ?_
    try simp only [Act.put, List.setIfInBounds_toArray, List.set_cons_zero, List.set_cons_succ]
    refine PF.pf_take0 5 (by kernel_rfl) rfl (fun _ _ _ _ _ h => h) (by kernel_rfl) (fun u => by go_simp; try rfl) ?_
    try simp only [Act.put, List.setIfInBounds_toArray, List.set_cons_zero, List.set_cons_succ]
    refine PF.pf_take1 6 (PF.Same (w4.heap.size) _) (by kernel_rfl) rfl (fun _ _ _ _ _ h => h) (by kernel_rfl) (PF.Same.refl _ _) (fun u hu => by have hcu := hu.cell; go_simp; try rfl) ?_
    try simp only [Act.put, List.setIfInBounds_toArray, List.set_cons_zero, List.set_cons_succ]
    refine PF.pf_exec 4 (by kernel_rfl) rfl (by kernel_rfl) (fun K hK => ?_)
    go_simp
    refine c0.mono ?_
    rintro e w6 ⟨rfl, hh, hk⟩
    have hB6 := hB5.real_ hh hk
    have hdo := hB6.doc.do_ HX.out hN ⟨0, a.n, a.t, (a.A, a.b.length, a.c), a.b⟩ (V := fun _ => True) ⟨rfl, HHR.out.1, HHR.out.2, (HA0.out.below hB6.real.bel).bytes, fun _ _ => trivial⟩ hab hnn hnt (by show (0 : Int) ≤ 0; decide)
    rw [show rdo x ⟨0, a.n, a.t, (a.A, a.b.length, a.c), a.b⟩ = x.append a.n a.b from rfl] at hdo
    unfold Rc.val sv at hdo
    simp only at hdo
    refine hK _ _ (by repeat (first | exact PF.owes_nil | refine PF.owes_left ?_ | refine PF.owes_no (by decide +kernel) ?_ | refine PF.owes_yes (by exact hk.2 _ HKC.out) ?_)) ?_
    clear hK K
    try simp only [Act.put, List.setIfInBounds_toArray, List.set_cons_zero, List.set_cons_succ]
    refine PF.pf_exec 7 (by kernel_rfl) rfl (by kernel_rfl) (fun K hK => ?_)
    go_simp
    refine hdo.mono ?_
    rintro e w7 ⟨rfl, hr, hm⟩
    refine hK _ _ (by repeat (first | exact PF.owes_nil | refine PF.owes_left ?_ | refine PF.owes_no (by decide +kernel) ?_ | refine PF.owes_yes (by first | rfl | assumption | go_simp) ?_)) ?_
    clear hK K
    try simp only [Act.put, List.setIfInBounds_toArray, List.set_cons_zero, List.set_cons_succ]
    refine PF.pf_take0 8 (by kernel_rfl) rfl (fun _ _ _ _ _ h => h) (by kernel_rfl) (fun u => by go_simp; try rfl) ?_
    try simp only [Act.put, List.setIfInBounds_toArray, List.set_cons_zero, List.set_cons_succ]
    refine PF.pf_done (by kernel_rfl) ?_
    have hB7 := hB6.doc_ hr hm
    have hz67 := hm.size
    have hz56 := hk.1
    have HO7 := Lib.hid (HSUB.out hk hm)
    have HB7 := Lib.hid hB7
    have HS7 : Hid (∀ b, (Value.slice A4 a.b.length c4).ownBlock = some b → (K5 b ∨ From w6.heap.size w7 b) ∧ w0.heap.size ≤ b ∧ ¬ (P b ∨ From w6.heap.size w7 b)) := fun b e => ⟨.inl (HKF.out b (HOL.out b e)).1, (HKF.out b (HOL.out b e)).2.1, fun hp => hp.elim (HKF.out b (HOL.out b e)).2.2 fun hp => by have h1 := (HOL.out b e).2; have h2 := hp.1; have h3 : W5.heap.size ≤ w6.heap.size := hk.1; omega⟩
    clear hB5 hB6 hB7 hr hh hdo hz67 hz56
    clear c0 hk hm r0 r1 r2 r3 s1 s2 s4 s5
    go_wp2_with fail
    obtain ⟨S, hS⟩ : ∃ S : Nat → Prop, S = fun b => (Value.slice A4 a.b.length c4).ownBlock = some b := ⟨_, rfl⟩
    have HSS : Hid (∀ b, S b ↔ (Value.slice A4 a.b.length c4).ownBlock = some b) := fun b => by rw [hS]
    clear hS
    go_loopw [15] (fun i wr => ∃ (j : Nat) (xs : List UInt8), j ≤ a.b.length ∧ i = .int .i64 j ∧ wr.ownsRow (w.heap.size + 1) 5 1 (.slice A4 a.b.length c4) a.b.length (xs.map bv) ∧ Mod S w7 wr) (fun i _ => a.b.length - (intOf i).toNat)
    case atStart => exact ⟨0, a.b, by omega, rfl, HO7.out, Mod.refl _ _⟩
    case round =>
      obtain ⟨j, xs, hj, rfl, hown, hM⟩ := hrel
      by_cases hlt : j < a.b.length
      · obtain ⟨g4, c4', he4, hg4, _, _⟩ := own_ptr hown (by omega)
        injection he4 with he4 _ he5
        subst he4 he5
        have hcell := own_at hown hlt
        have hfr := hown.frozenAt j
        have hinc := w_inc (xs.getD j 0)
        have hst := own_set hown j (xs.getD j 0 + 1)
        have hM2 := hM.set (p := ⟨g4, j, none⟩) (fun _ => (HSS.out g4).2 rfl) (.int .u8 ((xs.getD j 0 + 1).toNat : Int))
        obtain ⟨u1, hu1⟩ : ∃ q, q = xs.getD j 0 + 1 := ⟨_, rfl⟩
        rw [← hu1] at hinc hst hM2
        clear hu1
        generalize xs.getD j 0 = u at hcell hinc
        go_wp2_with fail
        go_roundw
        case rel => exact ⟨j + 1, _, by omega, by go_num, hst, hM2⟩
        case measure => simp [intOf]; omega
      · go_wp2_with fail
        go_ret
        rw [HX7.out]
        exact ⟨rfl, _, _, HB7.out.own hM fun b hb => HS7.out b ((HSS.out b).1 hb)⟩
  by_cases e1 : k = 1
  · subst e1
    have HX7 : Hid (a.does x = (x.put a.n a.b).2) := by show _ = _; rw [HDO.out]; rfl
    have hB5 := HB5.out.drew
    have c0 := hB5.real.put hsm a.n hnn A4 c4 a.b HBY.out (by omega)
    unfold pd at c0
    go_wp2_with fail
    rw [← HW5.out]
    clear q0 q1 q2 q3 q4 q5
    have r0 := HKC5.out.drew.cell 0
    have r1 := HKC5.out.drew.cell 1
    have r2 := HKC5.out.drew.cell 2
    have r3 := HKC5.out.drew.cell 3
    have s1 := HKA5.out.drew.cell 1
    have s2 := HKA5.out.drew.cell 2
    have s4 := HKA5.out.drew.cell 4
    have s5 := HKA5.out.drew.cell 5
    simp only [List.getElem?_toArray, List.getElem?_cons_zero, List.getElem?_cons_succ] at r0 r1 r2 r3 s1 s2 s4 s5
    refine PF.pf_begin (by kernel_rfl) ?_
    refine PF.pf_take0 0 (by kernel_rfl) rfl (fun _ _ _ _ _ h => h) (by kernel_rfl) (fun u => by go_simp; try rfl) ?_
    try simp only [Act.put, List.setIfInBounds_toArray, List.set_cons_zero, List.set_cons_succ]
    refine PF.pf_take0 1 (by kernel_rfl) rfl (fun _ _ _ _ _ h => h) (by kernel_rfl) (fun u => by go_simp; try rfl) ?_
    try simp only [Act.put, List.setIfInBounds_toArray, List.set_cons_zero, List.set_cons_succ]
    refine PF.pf_take1 2 (PF.Same (w.heap.size) _) (by kernel_rfl) rfl (fun _ _ _ _ _ h => h) (by kernel_rfl) (PF.Same.refl _ _) (fun u hu => by have hcu := hu.cell; go_simp; try rfl) ?_
    try simp only [Act.put, List.setIfInBounds_toArray, List.set_cons_zero, List.set_cons_succ]
    refine PF.pf_take0 3 (by kernel_rfl) rfl (fun _ _ _ _ _ h => h) (by kernel_rfl) (fun u => by go_simp; try rfl) ?_
    try simp only [Act.put, List.setIfInBounds_toArray, List.set_cons_zero, List.set_cons_succ]
    refine PF.pf_take0 5 (by kernel_rfl) rfl (fun _ _ _ _ _ h => h) (by kernel_rfl) (fun u => by go_simp; try rfl) ?_
    try simp only [Act.put, List.setIfInBounds_toArray, List.set_cons_zero, List.set_cons_succ]
    refine PF.pf_take1 6 (PF.Same (w4.heap.size) _) (by kernel_rfl) rfl (fun _ _ _ _ _ h => h) (by kernel_rfl) (PF.Same.refl _ _) (fun u hu => by have hcu := hu.cell; go_simp; try rfl) ?_
    try simp only [Act.put, List.setIfInBounds_toArray, List.set_cons_zero, List.set_cons_succ]
    refine PF.pf_exec 4 (by kernel_rfl) rfl (by kernel_rfl) (fun K hK => ?_)
    go_simp
    refine c0.mono ?_
    rintro e w6 ⟨rfl, hh, hk⟩
    have hB6 := hB5.real_ hh hk
    have hdo := hB6.doc.do_ HX.out hN ⟨1, a.n, a.t, (a.A, a.b.length, a.c), a.b⟩ (V := fun _ => True) ⟨rfl, HHR.out.1, HHR.out.2, (HA0.out.below hB6.real.bel).bytes, fun _ _ => trivial⟩ hab hnn hnt (by show (0 : Int) ≤ 1; decide)
    rw [show rdo x ⟨1, a.n, a.t, (a.A, a.b.length, a.c), a.b⟩ = x.put a.n a.b from rfl] at hdo
    unfold Rc.val sv at hdo
    simp only at hdo
    refine hK _ _ (by repeat (first | exact PF.owes_nil | refine PF.owes_left ?_ | refine PF.owes_no (by decide +kernel) ?_ | refine PF.owes_yes (by exact hk.2 _ HKC.out) ?_)) ?_
    clear hK K
    try simp only [Act.put, List.setIfInBounds_toArray, List.set_cons_zero, List.set_cons_succ]
    refine PF.pf_exec 7 (by kernel_rfl) rfl (by kernel_rfl) (fun K hK => ?_)
    go_simp
    refine hdo.mono ?_
    rintro e w7 ⟨rfl, hr, hm⟩
    refine hK _ _ (by repeat (first | exact PF.owes_nil | refine PF.owes_left ?_ | refine PF.owes_no (by decide +kernel) ?_ | refine PF.owes_yes (by first | rfl | assumption | go_simp) ?_)) ?_
    clear hK K
    try simp only [Act.put, List.setIfInBounds_toArray, List.set_cons_zero, List.set_cons_succ]
    refine PF.pf_take0 8 (by kernel_rfl) rfl (fun _ _ _ _ _ h => h) (by kernel_rfl) (fun u => by go_simp; try rfl) ?_
    try simp only [Act.put, List.setIfInBounds_toArray, List.set_cons_zero, List.set_cons_succ]
    refine PF.pf_done (by kernel_rfl) ?_
    have hB7 := hB6.doc_ hr hm
    have hz67 := hm.size
    have hz56 := hk.1
    have HO7 := Lib.hid (HSUB.out hk hm)
    have HB7 := Lib.hid hB7
    have HS7 : Hid (∀ b, (Value.slice A4 a.b.length c4).ownBlock = some b → (K5 b ∨ From w6.heap.size w7 b) ∧ w0.heap.size ≤ b ∧ ¬ (P b ∨ From w6.heap.size w7 b)) := fun b e => ⟨.inl (HKF.out b (HOL.out b e)).1, (HKF.out b (HOL.out b e)).2.1, fun hp => hp.elim (HKF.out b (HOL.out b e)).2.2 fun hp => by have h1 := (HOL.out b e).2; have h2 := hp.1; have h3 : W5.heap.size ≤ w6.heap.size := hk.1; omega⟩
    clear hB5 hB6 hB7 hr hh hdo hz67 hz56
    clear c0 hk hm r0 r1 r2 r3 s1 s2 s4 s5
    go_wp2_with fail
    obtain ⟨S, hS⟩ : ∃ S : Nat → Prop, S = fun b => (Value.slice A4 a.b.length c4).ownBlock = some b := ⟨_, rfl⟩
    have HSS : Hid (∀ b, S b ↔ (Value.slice A4 a.b.length c4).ownBlock = some b) := fun b => by rw [hS]
    clear hS
    go_loopw [15] (fun i wr => ∃ (j : Nat) (xs : List UInt8), j ≤ a.b.length ∧ i = .int .i64 j ∧ wr.ownsRow (w.heap.size + 1) 5 1 (.slice A4 a.b.length c4) a.b.length (xs.map bv) ∧ Mod S w7 wr) (fun i _ => a.b.length - (intOf i).toNat)
    case atStart => exact ⟨0, a.b, by omega, rfl, HO7.out, Mod.refl _ _⟩
    case round =>
      obtain ⟨j, xs, hj, rfl, hown, hM⟩ := hrel
      by_cases hlt : j < a.b.length
      · obtain ⟨g4, c4', he4, hg4, _, _⟩ := own_ptr hown (by omega)
        injection he4 with he4 _ he5
        subst he4 he5
        have hcell := own_at hown hlt
        have hfr := hown.frozenAt j
        have hinc := w_inc (xs.getD j 0)
        have hst := own_set hown j (xs.getD j 0 + 1)
        have hM2 := hM.set (p := ⟨g4, j, none⟩) (fun _ => (HSS.out g4).2 rfl) (.int .u8 ((xs.getD j 0 + 1).toNat : Int))
        obtain ⟨u1, hu1⟩ : ∃ q, q = xs.getD j 0 + 1 := ⟨_, rfl⟩
        rw [← hu1] at hinc hst hM2
        clear hu1
        generalize xs.getD j 0 = u at hcell hinc
        go_wp2_with fail
        go_roundw
        case rel => exact ⟨j + 1, _, by omega, by go_num, hst, hM2⟩
        case measure => simp [intOf]; omega
      · go_wp2_with fail
        go_ret
        rw [HX7.out]
        exact ⟨rfl, _, _, HB7.out.own hM fun b hb => HS7.out b ((HSS.out b).1 hb)⟩
  by_cases e2 : k = 2
  · subst e2
    have HX7 : Hid (a.does x = (x.rename a.n a.t).2) := by show _ = _; rw [HDO.out]; rfl
    have hB5 := HB5.out.drew
    have c0 := hB5.real.rename hsm a.n a.t hnn hnt
    unfold pd at c0
    go_wp2_with fail
    rw [← HW5.out]
    clear q0 q1 q2 q3 q4 q5
    have r0 := HKC5.out.drew.cell 0
    have r1 := HKC5.out.drew.cell 1
    have r2 := HKC5.out.drew.cell 2
    have r3 := HKC5.out.drew.cell 3
    have s1 := HKA5.out.drew.cell 1
    have s2 := HKA5.out.drew.cell 2
    have s4 := HKA5.out.drew.cell 4
    have s5 := HKA5.out.drew.cell 5
    simp only [List.getElem?_toArray, List.getElem?_cons_zero, List.getElem?_cons_succ] at r0 r1 r2 r3 s1 s2 s4 s5
    refine PF.pf_begin (by kernel_rfl) ?_
    refine PF.pf_take0 0 (by kernel_rfl) rfl (fun _ _ _ _ _ h => h) (by kernel_rfl) (fun u => by go_simp; try rfl) ?_
    try simp only [Act.put, List.setIfInBounds_toArray, List.set_cons_zero, List.set_cons_succ]
    refine PF.pf_take0 1 (by kernel_rfl) rfl (fun _ _ _ _ _ h => h) (by kernel_rfl) (fun u => by go_simp; try rfl) ?_
    try simp only [Act.put, List.setIfInBounds_toArray, List.set_cons_zero, List.set_cons_succ]
    refine PF.pf_take1 2 (PF.Same (w.heap.size) _) (by kernel_rfl) rfl (fun _ _ _ _ _ h => h) (by kernel_rfl) (PF.Same.refl _ _) (fun u hu => by have hcu := hu.cell; go_simp; try rfl) ?_
    try simp only [Act.put, List.setIfInBounds_toArray, List.set_cons_zero, List.set_cons_succ]
    refine PF.pf_take0 3 (by kernel_rfl) rfl (fun _ _ _ _ _ h => h) (by kernel_rfl) (fun u => by go_simp; try rfl) ?_
    try simp only [Act.put, List.setIfInBounds_toArray, List.set_cons_zero, List.set_cons_succ]
    refine PF.pf_take1 4 (PF.Same (w.heap.size) _) (by kernel_rfl) rfl (fun _ _ _ _ _ h => h) (by kernel_rfl) (PF.Same.refl _ _) (fun u hu => by have hcu := hu.cell; go_simp; try rfl) ?_
    try simp only [Act.put, List.setIfInBounds_toArray, List.set_cons_zero, List.set_cons_succ]
    refine PF.pf_take0 6 (by kernel_rfl) rfl (fun _ _ _ _ _ h => h) (by kernel_rfl) (fun u => by go_simp; try rfl) ?_
    try simp only [Act.put, List.setIfInBounds_toArray, List.set_cons_zero, List.set_cons_succ]
    refine PF.pf_take1 7 (PF.Same (w4.heap.size) _) (by kernel_rfl) rfl (fun _ _ _ _ _ h => h) (by kernel_rfl) (PF.Same.refl _ _) (fun u hu => by have hcu := hu.cell; go_simp; try rfl) ?_
    try simp only [Act.put, List.setIfInBounds_toArray, List.set_cons_zero, List.set_cons_succ]
    refine PF.pf_exec 5 (by kernel_rfl) rfl (by kernel_rfl) (fun K hK => ?_)
    go_simp
    refine c0.mono ?_
    rintro e w6 ⟨rfl, hh, hk⟩
    have hB6 := hB5.real_ hh hk
    have hdo := hB6.doc.do_ HX.out hN ⟨2, a.n, a.t, (a.A, a.b.length, a.c), a.b⟩ (V := fun _ => True) ⟨rfl, HHR.out.1, HHR.out.2, (HA0.out.below hB6.real.bel).bytes, fun _ _ => trivial⟩ hab hnn hnt (by show (0 : Int) ≤ 2; decide)
    rw [show rdo x ⟨2, a.n, a.t, (a.A, a.b.length, a.c), a.b⟩ = x.rename a.n a.t from rfl] at hdo
    unfold Rc.val sv at hdo
    simp only at hdo
    refine hK _ _ (by repeat (first | exact PF.owes_nil | refine PF.owes_left ?_ | refine PF.owes_no (by decide +kernel) ?_ | refine PF.owes_yes (by exact hk.2 _ HKC.out) ?_)) ?_
    clear hK K
    try simp only [Act.put, List.setIfInBounds_toArray, List.set_cons_zero, List.set_cons_succ]
    refine PF.pf_exec 8 (by kernel_rfl) rfl (by kernel_rfl) (fun K hK => ?_)
    go_simp
    refine hdo.mono ?_
    rintro e w7 ⟨rfl, hr, hm⟩
    refine hK _ _ (by repeat (first | exact PF.owes_nil | refine PF.owes_left ?_ | refine PF.owes_no (by decide +kernel) ?_ | refine PF.owes_yes (by first | rfl | assumption | go_simp) ?_)) ?_
    clear hK K
    try simp only [Act.put, List.setIfInBounds_toArray, List.set_cons_zero, List.set_cons_succ]
    refine PF.pf_take0 9 (by kernel_rfl) rfl (fun _ _ _ _ _ h => h) (by kernel_rfl) (fun u => by go_simp; try rfl) ?_
    try simp only [Act.put, List.setIfInBounds_toArray, List.set_cons_zero, List.set_cons_succ]
    refine PF.pf_take0 10 (by kernel_rfl) rfl (fun _ _ _ _ _ h => h) (by kernel_rfl) (fun u => by go_simp; try rfl) ?_
    try simp only [Act.put, List.setIfInBounds_toArray, List.set_cons_zero, List.set_cons_succ]
    refine PF.pf_done (by kernel_rfl) ?_
    have hB7 := hB6.doc_ hr hm
    have hz67 := hm.size
    have hz56 := hk.1
    go_wp2_with fail
    go_ret
    rw [HX7.out]
    exact ⟨rfl, _, _, hB7⟩
  by_cases e3 : k = 3
  · subst e3
    have HX7 : Hid (a.does x = (x.remove a.n).2) := by show _ = _; rw [HDO.out]; rfl
    have hB5 := HB5.out.drew
    have c0 := hB5.real.remove hsm a.n hnn
    unfold pd at c0
    go_wp2_with fail
    rw [← HW5.out]
    clear q0 q1 q2 q3 q4 q5
    have r0 := HKC5.out.drew.cell 0
    have r1 := HKC5.out.drew.cell 1
    have r2 := HKC5.out.drew.cell 2
    have r3 := HKC5.out.drew.cell 3
    have s1 := HKA5.out.drew.cell 1
    have s2 := HKA5.out.drew.cell 2
    have s4 := HKA5.out.drew.cell 4
    have s5 := HKA5.out.drew.cell 5
    simp only [List.getElem?_toArray, List.getElem?_cons_zero, List.getElem?_cons_succ] at r0 r1 r2 r3 s1 s2 s4 s5
    refine PF.pf_begin (by kernel_rfl) ?_
    refine PF.pf_take0 0 (by kernel_rfl) rfl (fun _ _ _ _ _ h => h) (by kernel_rfl) (fun u => by go_simp; try rfl) ?_
    try simp only [Act.put, List.setIfInBounds_toArray, List.set_cons_zero, List.set_cons_succ]
    refine PF.pf_take0 1 (by kernel_rfl) rfl (fun _ _ _ _ _ h => h) (by kernel_rfl) (fun u => by go_simp; try rfl) ?_
    try simp only [Act.put, List.setIfInBounds_toArray, List.set_cons_zero, List.set_cons_succ]
    refine PF.pf_take1 2 (PF.Same (w.heap.size) _) (by kernel_rfl) rfl (fun _ _ _ _ _ h => h) (by kernel_rfl) (PF.Same.refl _ _) (fun u hu => by have hcu := hu.cell; go_simp; try rfl) ?_
    try simp only [Act.put, List.setIfInBounds_toArray, List.set_cons_zero, List.set_cons_succ]
    refine PF.pf_take0 4 (by kernel_rfl) rfl (fun _ _ _ _ _ h => h) (by kernel_rfl) (fun u => by go_simp; try rfl) ?_
    try simp only [Act.put, List.setIfInBounds_toArray, List.set_cons_zero, List.set_cons_succ]
    refine PF.pf_take1 5 (PF.Same (w4.heap.size) _) (by kernel_rfl) rfl (fun _ _ _ _ _ h => h) (by kernel_rfl) (PF.Same.refl _ _) (fun u hu => by have hcu := hu.cell; go_simp; try rfl) ?_
    try simp only [Act.put, List.setIfInBounds_toArray, List.set_cons_zero, List.set_cons_succ]
    refine PF.pf_exec 3 (by kernel_rfl) rfl (by kernel_rfl) (fun K hK => ?_)
    go_simp
    refine c0.mono ?_
    rintro e w6 ⟨rfl, hh, hk⟩
    have hB6 := hB5.real_ hh hk
    have hdo := hB6.doc.do_ HX.out hN ⟨3, a.n, a.t, (a.A, a.b.length, a.c), a.b⟩ (V := fun _ => True) ⟨rfl, HHR.out.1, HHR.out.2, (HA0.out.below hB6.real.bel).bytes, fun _ _ => trivial⟩ hab hnn hnt (by show (0 : Int) ≤ 3; decide)
    rw [show rdo x ⟨3, a.n, a.t, (a.A, a.b.length, a.c), a.b⟩ = x.remove a.n from rfl] at hdo
    unfold Rc.val sv at hdo
    simp only at hdo
    refine hK _ _ (by repeat (first | exact PF.owes_nil | refine PF.owes_left ?_ | refine PF.owes_no (by decide +kernel) ?_ | refine PF.owes_yes (by exact hk.2 _ HKC.out) ?_)) ?_
    clear hK K
    try simp only [Act.put, List.setIfInBounds_toArray, List.set_cons_zero, List.set_cons_succ]
    refine PF.pf_exec 6 (by kernel_rfl) rfl (by kernel_rfl) (fun K hK => ?_)
    go_simp
    refine hdo.mono ?_
    rintro e w7 ⟨rfl, hr, hm⟩
    refine hK _ _ (by repeat (first | exact PF.owes_nil | refine PF.owes_left ?_ | refine PF.owes_no (by decide +kernel) ?_ | refine PF.owes_yes (by first | rfl | assumption | go_simp) ?_)) ?_
    clear hK K
    try simp only [Act.put, List.setIfInBounds_toArray, List.set_cons_zero, List.set_cons_succ]
    refine PF.pf_take0 7 (by kernel_rfl) rfl (fun _ _ _ _ _ h => h) (by kernel_rfl) (fun u => by go_simp; try rfl) ?_
    try simp only [Act.put, List.setIfInBounds_toArray, List.set_cons_zero, List.set_cons_succ]
    refine PF.pf_take0 8 (by kernel_rfl) rfl (fun _ _ _ _ _ h => h) (by kernel_rfl) (fun u => by go_simp; try rfl) ?_
    try simp only [Act.put, List.setIfInBounds_toArray, List.set_cons_zero, List.set_cons_succ]
    refine PF.pf_done (by kernel_rfl) ?_
    have hB7 := hB6.doc_ hr hm
    have hz67 := hm.size
    have hz56 := hk.1
    go_wp2_with fail
    go_ret
    rw [HX7.out]
    exact ⟨rfl, _, _, hB7⟩
  by_cases e4 : k = 4
  · subst e4
    have HX7 : Hid (a.does x = x.sync.2) := by show _ = _; rw [HDO.out]; rfl
    have hB5 := HB5.out.drew
    have c0 := HB5.out.real.sync hsm
    unfold pd at c0
    go_wp2_with fail
    rw [← HW5.out]
    clear q0 q1 q2 q3 q4 q5
    refine c0.mono ?_
    rintro e w6 ⟨rfl, hh, hk⟩
    have hB6 := HB5.out.real_ hh hk
    have hdo := hB6.doc.sync HX.out (by omega)
    go_wp2_with fail
    refine hdo.mono ?_
    rintro e w7 ⟨rfl, hr, hm⟩
    have hB7 := hB6.doc_ hr hm
    have hz67 := hm.size
    have hz56 := hk.1
    go_wp2_with fail
    go_ret
    rw [HX7.out]
    exact ⟨rfl, _, _, hB7⟩
  by_cases e7 : k = 7
  · subst e7
    have HX7 : Hid (a.does x = x.start.2) := by show _ = _; rw [HDO.out]; rfl
    have hB5 := HB5.out.drew
    have c0 := HB5.out.real.start
    unfold pd at c0
    go_wp2_with fail
    rw [← HW5.out]
    clear q0 q1 q2 q3 q4 q5
    refine c0.mono ?_
    rintro e w6 ⟨rfl, hh, hk⟩
    have hB6 := HB5.out.real_ hh hk
    have hdo := hB6.doc.start 
    go_wp2_with fail
    refine hdo.mono ?_
    rintro e w7 ⟨rfl, hr, hm⟩
    have hB7 := hB6.doc_ hr hm
    have hz67 := hm.size
    have hz56 := hk.1
    go_wp2_with fail
    go_ret
    rw [HX7.out]
    exact ⟨rfl, _, _, hB7⟩
  by_cases e5 : k = 5
  · subst e5
    have HX7 : Hid (a.does x = x) := by show _ = _; rw [HDO.out]; rfl
    have hB5 := HB5.out.drew
    have hbx := HB5.out.real.read hsm a.n hnn
    unfold pd at hbx
    go_wp2_with fail
    rw [← HW5.out]
    clear q0 q1 q2 q3 q4 q5
    refine hbx.mono ?_
    rintro e w6 ⟨⟨pA, pc, rfl, hop⟩, hb6⟩
    have hB6 := HB5.out.below hb6
    have hdo := hB6.doc.read HX.out (by omega) a.n hnn
    have s1 := (HKA5.out.below hb6 HKA5.out.lt).cell 1
    simp only [List.getElem?_toArray, List.getElem?_cons_zero, List.getElem?_cons_succ] at s1
    clear hbx
    go_wp2_with fail
    refine hdo.mono ?_
    rintro e w7 ⟨⟨⟨sA, sn, sc⟩, rfl, hs⟩, hb7⟩
    obtain rfl : sn = (x.read a.n).1.length := hs.len
    have HB7 := Lib.hid (hB6.below hb7)
    have hop7 := own_call hop hb7
    have hrl := read_len (x := x) HX.out (by omega) a.n
    unfold sv
    generalize x.read a.n = r at *
    obtain ⟨rb, rq⟩ := r
    simp only at hop hop7 hs hrl ⊢
    have hc1 := conv_str (P := Try.prog) (c := pc) Try.underlying23 Try.underlying5 Try.underlying9 (Reads.of_own hop7 : Bytes w7 pA rb) rfl
    have hc2 := conv_str (P := Try.prog) (c := sc) Try.underlying23 Try.underlying5 Try.underlying9 hs.bytes rfl
    have HO7 := Lib.hid hop7
    have HS7 : Hid (∀ b, (Value.slice pA rb.length pc).ownBlock = some b → ((K5 b ∨ From W5.heap.size w6 b) ∨ From w6.heap.size w7 b) ∧ w0.heap.size ≤ b ∧ ¬ P b) := fun b e => by
      have h1 := hop.lt b e
      have h2 := HZW.out
      have h3 := HH.out.real.le
      exact ⟨.inl (.inr h1), by omega, fun hp => by have := HH.out.kl b (HH.out.sub b hp); omega⟩
    clear hB5 hB6 hb6 hdo s1 hop hop7 hs hb7
    go_wp2_with fail
    obtain ⟨S, hS⟩ : ∃ S : Nat → Prop, S = fun b => (Value.slice pA rb.length pc).ownBlock = some b := ⟨_, rfl⟩
    have HSS : Hid (∀ b, S b ↔ (Value.slice pA rb.length pc).ownBlock = some b) := fun b => by rw [hS]
    clear hS hc1 hc2
    go_loopw [14] (fun i wr => ∃ (j : Nat) (xs : List UInt8), j ≤ rb.length ∧ i = .int .i64 j ∧ wr.ownsRow W5.heap.size 5 1 (.slice pA rb.length pc) rb.length (xs.map bv) ∧ Mod S w7 wr) (fun i _ => rb.length - (intOf i).toNat)
    case atStart => exact ⟨0, rb, by omega, rfl, HO7.out, Mod.refl _ _⟩
    case round =>
      obtain ⟨j, xs, hj, rfl, hown, hM⟩ := hrel
      by_cases hlt : j < rb.length
      · obtain ⟨g4, pc', he4, hg4, _, _⟩ := own_ptr hown (by omega)
        injection he4 with he4 _ he5
        subst he4 he5
        have hcell := own_at hown hlt
        have hfr := hown.frozenAt j
        have hinc := w_inc (xs.getD j 0)
        have hst := own_set hown j (xs.getD j 0 + 1)
        have hM2 := hM.set (p := ⟨g4, j, none⟩) (fun _ => (HSS.out g4).2 rfl) (.int .u8 ((xs.getD j 0 + 1).toNat : Int))
        obtain ⟨u1, hu1⟩ : ∃ q, q = xs.getD j 0 + 1 := ⟨_, rfl⟩
        rw [← hu1] at hinc hst hM2
        clear hu1
        generalize xs.getD j 0 = u at hcell hinc
        go_wp2_with fail
        go_roundw
        case rel => exact ⟨j + 1, _, by omega, by go_num, hst, hM2⟩
        case measure => simp [intOf]; omega
      · go_wp2_with fail
        go_ret
        rw [HX7.out]
        exact ⟨rfl, _, _, HB7.out.own hM fun b hb => HS7.out b ((HSS.out b).1 hb)⟩
  by_cases e6 : k = 6
  · subst e6
    have HX7 : Hid (a.does x = (x.crash a.p.toInt a.q.toInt).2) := by show _ = _; rw [HDO.out]; rfl
    have hB5 := HB5.out.drew
    have c0 := hB5.real.crash HX.out hN a.p.toInt a.q.toInt
    unfold pd at c0
    go_wp2_with fail
    rw [← HW5.out]
    clear q0 q1 q2 q3 q4 q5
    have r0 := HKC5.out.drew.cell 0
    have r1 := HKC5.out.drew.cell 1
    have r2 := HKC5.out.drew.cell 2
    have r3 := HKC5.out.drew.cell 3
    have s1 := HKA5.out.drew.cell 1
    have s2 := HKA5.out.drew.cell 2
    have s4 := HKA5.out.drew.cell 4
    have s5 := HKA5.out.drew.cell 5
    simp only [List.getElem?_toArray, List.getElem?_cons_zero, List.getElem?_cons_succ] at r0 r1 r2 r3 s1 s2 s4 s5
    refine PF.pf_begin (by kernel_rfl) ?_
    refine PF.pf_take0 0 (by kernel_rfl) rfl (fun _ _ _ _ _ h => h) (by kernel_rfl) (fun u => by go_simp; try rfl) ?_
    try simp only [Act.put, List.setIfInBounds_toArray, List.set_cons_zero, List.set_cons_succ]
    refine PF.pf_take0 1 (by kernel_rfl) rfl (fun _ _ _ _ _ h => h) (by kernel_rfl) (fun u => by go_simp; try rfl) ?_
    try simp only [Act.put, List.setIfInBounds_toArray, List.set_cons_zero, List.set_cons_succ]
    refine PF.pf_take1 2 (PF.Same (w.heap.size) _) (by kernel_rfl) rfl (fun _ _ _ _ _ h => h) (by kernel_rfl) (PF.Same.refl _ _) (fun u hu => by have hcu := hu.cell; go_simp; try rfl) ?_
    try simp only [Act.put, List.setIfInBounds_toArray, List.set_cons_zero, List.set_cons_succ]
    refine PF.pf_take0 3 (by kernel_rfl) rfl (fun _ _ _ _ _ h => h) (by kernel_rfl) (fun u => by go_simp; try rfl) ?_
    try simp only [Act.put, List.setIfInBounds_toArray, List.set_cons_zero, List.set_cons_succ]
    refine PF.pf_take1 4 (PF.Same (w.heap.size) _) (by kernel_rfl) rfl (fun _ _ _ _ _ h => h) (by kernel_rfl) (PF.Same.refl _ _) (fun u hu => by have hcu := hu.cell; go_simp; try rfl) ?_
    try simp only [Act.put, List.setIfInBounds_toArray, List.set_cons_zero, List.set_cons_succ]
    refine PF.pf_take0 6 (by kernel_rfl) rfl (fun _ _ _ _ _ h => h) (by kernel_rfl) (fun u => by go_simp; try rfl) ?_
    try simp only [Act.put, List.setIfInBounds_toArray, List.set_cons_zero, List.set_cons_succ]
    refine PF.pf_take0 7 (by kernel_rfl) rfl (fun _ _ _ _ _ h => h) (by kernel_rfl) (fun u => by go_simp; try rfl) ?_
    try simp only [Act.put, List.setIfInBounds_toArray, List.set_cons_zero, List.set_cons_succ]
    refine PF.pf_take1 8 (PF.Same (w.heap.size) _) (by kernel_rfl) rfl (fun _ _ _ _ _ h => h) (by kernel_rfl) (PF.Same.refl _ _) (fun u hu => by have hcu := hu.cell; go_simp; try rfl) ?_
    try simp only [Act.put, List.setIfInBounds_toArray, List.set_cons_zero, List.set_cons_succ]
    refine PF.pf_take0 9 (by kernel_rfl) rfl (fun _ _ _ _ _ h => h) (by kernel_rfl) (fun u => by go_simp; try rfl) ?_
    try simp only [Act.put, List.setIfInBounds_toArray, List.set_cons_zero, List.set_cons_succ]
    refine PF.pf_take1 10 (PF.Same (w.heap.size) _) (by kernel_rfl) rfl (fun _ _ _ _ _ h => h) (by kernel_rfl) (PF.Same.refl _ _) (fun u hu => by have hcu := hu.cell; go_simp; try rfl) ?_
    try simp only [Act.put, List.setIfInBounds_toArray, List.set_cons_zero, List.set_cons_succ]
    refine PF.pf_exec 5 (by kernel_rfl) rfl (by kernel_rfl) (fun K hK => ?_)
    go_simp
    refine c0.mono ?_
    rintro e w6 ⟨rfl, hh, hk⟩
    have hB6 := hB5.real_ hh hk
    have hdo := hB6.doc.crash HX.out hN a.p.toInt a.q.toInt
    refine hK _ _ (by repeat (first | exact PF.owes_nil | refine PF.owes_left ?_ | refine PF.owes_no (by decide +kernel) ?_ | refine PF.owes_yes (by exact hk.2 _ HKA.out) ?_)) ?_
    clear hK K
    try simp only [Act.put, List.setIfInBounds_toArray, List.set_cons_zero, List.set_cons_succ]
    refine PF.pf_exec 11 (by kernel_rfl) rfl (by kernel_rfl) (fun K hK => ?_)
    go_simp
    refine hdo.mono ?_
    rintro e w7 ⟨rfl, hr, hm⟩
    refine hK _ _ (by repeat (first | exact PF.owes_nil | refine PF.owes_left ?_ | refine PF.owes_no (by decide +kernel) ?_ | refine PF.owes_yes (by first | rfl | assumption | go_simp) ?_)) ?_
    clear hK K
    try simp only [Act.put, List.setIfInBounds_toArray, List.set_cons_zero, List.set_cons_succ]
    refine PF.pf_take0 12 (by kernel_rfl) rfl (fun _ _ _ _ _ h => h) (by kernel_rfl) (fun u => by go_simp; try rfl) ?_
    try simp only [Act.put, List.setIfInBounds_toArray, List.set_cons_zero, List.set_cons_succ]
    refine PF.pf_take0 13 (by kernel_rfl) rfl (fun _ _ _ _ _ h => h) (by kernel_rfl) (fun u => by go_simp; try rfl) ?_
    try simp only [Act.put, List.setIfInBounds_toArray, List.set_cons_zero, List.set_cons_succ]
    refine PF.pf_done (by kernel_rfl) ?_
    have hB7 := hB6.doc_ hr hm
    have hz67 := hm.size
    have hz56 := hk.1
    go_wp2_with fail
    go_ret
    rw [HX7.out]
    exact ⟨rfl, _, _, hB7⟩
  by_cases e8 : k = 8
  · subst e8
    have HX7 : Hid (a.does x = x.wipe) := by show _ = _; rw [HDO.out]; rfl
    have hB5 := HB5.out.drew
    have c0 := HB5.out.real.wipe hsm
    unfold pd at c0
    go_wp2_with fail
    rw [← HW5.out]
    clear q0 q1 q2 q3 q4 q5
    refine c0.mono ?_
    rintro e w6 ⟨rfl, hh, hk⟩
    have hB6 := HB5.out.real_ hh hk
    have hdo := hB6.doc.wipe
    go_wp2_with fail
    refine hdo.mono ?_
    rintro e w7 ⟨rfl, hr, hm⟩
    have hB7 := hB6.doc_ hr hm
    have hz67 := hm.size
    have hz56 := hk.1
    have HO7 := Lib.hid (HSUB.out hk hm)
    have HB7 := Lib.hid hB7
    have HS7 : Hid (∀ b, (Value.slice A4 a.b.length c4).ownBlock = some b → (K5 b ∨ From w6.heap.size w7 b) ∧ w0.heap.size ≤ b ∧ ¬ (P b ∨ From w6.heap.size w7 b)) := fun b e => ⟨.inl (HKF.out b (HOL.out b e)).1, (HKF.out b (HOL.out b e)).2.1, fun hp => hp.elim (HKF.out b (HOL.out b e)).2.2 fun hp => by have h1 := (HOL.out b e).2; have h2 := hp.1; have h3 : W5.heap.size ≤ w6.heap.size := hk.1; omega⟩
    clear hB5 hB6 hB7 hr hh hdo hz67 hz56
    clear c0 hk hm
    go_wp2_with fail
    obtain ⟨S, hS⟩ : ∃ S : Nat → Prop, S = fun b => (Value.slice A4 a.b.length c4).ownBlock = some b := ⟨_, rfl⟩
    have HSS : Hid (∀ b, S b ↔ (Value.slice A4 a.b.length c4).ownBlock = some b) := fun b => by rw [hS]
    clear hS
    go_loopw [15] (fun i wr => ∃ (j : Nat) (xs : List UInt8), j ≤ a.b.length ∧ i = .int .i64 j ∧ wr.ownsRow (w.heap.size + 1) 5 1 (.slice A4 a.b.length c4) a.b.length (xs.map bv) ∧ Mod S w7 wr) (fun i _ => a.b.length - (intOf i).toNat)
    case atStart => exact ⟨0, a.b, by omega, rfl, HO7.out, Mod.refl _ _⟩
    case round =>
      obtain ⟨j, xs, hj, rfl, hown, hM⟩ := hrel
      by_cases hlt : j < a.b.length
      · obtain ⟨g4, c4', he4, hg4, _, _⟩ := own_ptr hown (by omega)
        injection he4 with he4 _ he5
        subst he4 he5
        have hcell := own_at hown hlt
        have hfr := hown.frozenAt j
        have hinc := w_inc (xs.getD j 0)
        have hst := own_set hown j (xs.getD j 0 + 1)
        have hM2 := hM.set (p := ⟨g4, j, none⟩) (fun _ => (HSS.out g4).2 rfl) (.int .u8 ((xs.getD j 0 + 1).toNat : Int))
        obtain ⟨u1, hu1⟩ : ∃ q, q = xs.getD j 0 + 1 := ⟨_, rfl⟩
        rw [← hu1] at hinc hst hM2
        clear hu1
        generalize xs.getD j 0 = u at hcell hinc
        go_wp2_with fail
        go_roundw
        case rel => exact ⟨j + 1, _, by omega, by go_num, hst, hM2⟩
        case measure => simp [intOf]; omega
      · go_wp2_with fail
        go_ret
        rw [HX7.out]
        exact ⟨rfl, _, _, HB7.out.own hM fun b hb => HS7.out b ((HSS.out b).1 hb)⟩
  have HX7 : Hid (a.does x = x) := by show _ = _; rw [HDO.out, if_neg e0, if_neg e1, if_neg e2, if_neg e3, if_neg e4, if_neg e5, if_neg e6, if_neg e7, if_neg e8]
  have f0 : (k == 0) = false := by simpa using e0
  have f1 : (k == 1) = false := by simpa using e1
  have f2 : (k == 2) = false := by simpa using e2
  have f3 : (k == 3) = false := by simpa using e3
  have f4 : (k == 4) = false := by simpa using e4
  have f5 : (k == 5) = false := by simpa using e5
  have f6 : (k == 6) = false := by simpa using e6
  have f7 : (k == 7) = false := by simpa using e7
  have f8 : (k == 8) = false := by simpa using e8
  clear e0 e1 e2 e3 e4 e5 e6 e7 e8
  go_wp2_with fail
  rw [← HW5.out]
  clear q0 q1 q2 q3 q4 q5
  have HB7 := HB5
  have HS7 : Hid (∀ b, (Value.slice A4 a.b.length c4).ownBlock = some b → K5 b ∧ w0.heap.size ≤ b ∧ ¬ P b) := fun b e => HKF.out b (HOL.out b e)
  obtain ⟨S, hS⟩ : ∃ S : Nat → Prop, S = fun b => (Value.slice A4 a.b.length c4).ownBlock = some b := ⟨_, rfl⟩
  have HSS : Hid (∀ b, S b ↔ (Value.slice A4 a.b.length c4).ownBlock = some b) := fun b => by rw [hS]
  clear hS
  go_loopw [15] (fun i wr => ∃ (j : Nat) (xs : List UInt8), j ≤ a.b.length ∧ i = .int .i64 j ∧ wr.ownsRow (w.heap.size + 1) 5 1 (.slice A4 a.b.length c4) a.b.length (xs.map bv) ∧ Mod S W5 wr) (fun i _ => a.b.length - (intOf i).toNat)
  case atStart => exact ⟨0, a.b, by omega, rfl, HO5.out, Mod.refl _ _⟩
  case round =>
    obtain ⟨j, xs, hj, rfl, hown, hM⟩ := hrel
    by_cases hlt : j < a.b.length
    · obtain ⟨g4, c4', he4, hg4, _, _⟩ := own_ptr hown (by omega)
      injection he4 with he4 _ he5
      subst he4 he5
      have hcell := own_at hown hlt
      have hfr := hown.frozenAt j
      have hinc := w_inc (xs.getD j 0)
      have hst := own_set hown j (xs.getD j 0 + 1)
      have hM2 := hM.set (p := ⟨g4, j, none⟩) (fun _ => (HSS.out g4).2 rfl) (.int .u8 ((xs.getD j 0 + 1).toNat : Int))
      obtain ⟨u1, hu1⟩ : ∃ q, q = xs.getD j 0 + 1 := ⟨_, rfl⟩
      rw [← hu1] at hinc hst hM2
      clear hu1
      generalize xs.getD j 0 = u at hcell hinc
      go_wp2_with fail
      go_roundw
      case rel => exact ⟨j + 1, _, by omega, by go_num, hst, hM2⟩
      case measure => simp [intOf]; omega
    · go_wp2_with fail
      go_ret
      rw [HX7.out]
      exact ⟨rfl, _, _, HB7.out.own hM fun b hb => HS7.out b ((HSS.out b).1 hb)⟩
end Go.Proofs.Ytggdkhgpkedbkaa
