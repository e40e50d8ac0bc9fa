/- The reference's Go: a message goes into a row. -/
import Derived.Test.YtgdbknbpnlpdnaaSeenH
namespace Go.Proofs.Ytgdbknbpnlpdnaa
set_option linter.unusedVariables false
set_option linter.unusedSimpArgs false
open Go.RowKit

/-- What a round does. -/
def stepI (m : Mk) (st : List Mk × Bool) (x : Mk) : List Mk × Bool :=
  let st1 := if st.2 = false ∧ m.p.toInt ≤ x.p.toInt then (st.1 ++ [m], true) else st
  if x.p.toInt = m.p.toInt then st1 else (st1.1 ++ [x], st1.2)
def stI (ms : List Mk) (m : Mk) (k : Nat) : List Mk × Bool := (ms.take k).foldl (stepI m) ([], false)
theorem stI_succ (ms : List Mk) (m : Mk) (k : Nat) (hk : k < ms.length) : stI ms m (k + 1) = stepI m (stI ms m k) ms[k] := by
  unfold stI
  rw [List.take_succ_eq_append_getElem hk, List.foldl_append]
  rfl
theorem stI_len (ms : List Mk) (m : Mk) : ∀ k, k ≤ ms.length → (stI ms m k).1.length ≤ 2 * k
  | 0, _ => by simp [stI]
  | k + 1, hk => by
    have := stI_len ms m k (by omega)
    rw [stI_succ ms m k (by omega)]
    unfold stepI
    split <;> split <;> simp <;> omega
def insR (ms : List Mk) (m : Mk) : List Mk := if (stI ms m ms.length).2 then (stI ms m ms.length).1 else (stI ms m ms.length).1 ++ [m]
theorem stI_all (ms : List Mk) (m : Mk) : insR ms m = if (stI ms m ms.length).2 then (stI ms m ms.length).1 else (stI ms m ms.length).1 ++ [m] := rfl
def goR (ms : List Mk) (m : Mk) : Option (List Mk) :=
  match lastM ms m.p with
  | some l => if m.s.toNat ≤ l.s.toNat then some ms else some (insR ms m)
  | none => if 6 ≤ ms.length then none else some (insR ms m)
def GoPost (base : Nat) (o : Option (List Mk)) (e : Ending) (w' : World) : Prop :=
  match o with
  | some l => ∃ v, e = .returned (.tuple #[v, .int .i64 0]) ∧ OwnM w' base v l
  | none => e = .returned (.tuple #[.slice none 0 0, .int .i64 3])
theorem GoPost.some_ {base : Nat} {o : Option (List Mk)} {l : List Mk} (h : o = some l) {e : Ending} {w' : World} {v : Value} (he : e = .returned (.tuple #[v, .int .i64 0])) (ho : OwnM w' base v l) : GoPost base o e w' := by
  subst h; exact ⟨v, he, ho⟩

theorem lastV_some (l : Mk) : lastV (some l) = .tuple #[.agg #[.int .i64 l.p.toInt, .int .u64 (l.s.toNat : Int), .int .u64 (l.o.toNat : Int)], .bool true] := rfl
theorem lastV_none : lastV none = .tuple #[.agg #[.int .i64 0, .int .u64 0, .int .u64 0], .bool false] := rfl
set_option maxRecDepth 100000 in
set_option maxHeartbeats 2000000 in
theorem refgo_any (A : Option Addr) (c : Nat) (ms : List Mk) (m : Mk) (w : World) (hA : Marks w A ms) (hn : ms.length ≤ 100000) :
    Calls Try.prog 46 #[.slice A ms.length c, m.val] w fun e w' => GoPost w.heap.size (goR ms m) e w' ∧ Below w.heap.size w w' := by
  unfold Mk.val
  have hlast := reflast_any A c ms m.p (w.alloc (.cells #[.int .i64 m.p.toInt, .int .u64 (m.s.toNat : Int), .int .u64 (m.o.toNat : Int)] 38)) (hA.below (below_new _ _)) (by omega)
  have HLAST := Lib.hid hlast
  clear hlast
  obtain ⟨r, hr⟩ : ∃ r, r = goR ms m := ⟨_, rfl⟩
  rw [← hr]
  cases hl : lastM ms m.p with
  | some l =>
    rw [hl] at HLAST
    by_cases hs : m.s.toNat ≤ l.s.toNat
    · have HFIN : Hid (r = some ms) := by
        show _ = _
        rw [hr, goR, hl]; simp [hs]
      clear hr hl
      have hrow := Mk.row_one ms
      go_enter Try.func46, Try.ntmps46
      go_wp2_with fail
      refine HLAST.out.mono ?_
      rintro e w1 ⟨rfl, hb1⟩
      rw [lastV_some]
      have hbk1 := (Blk.new w 38 #[.int .i64 m.p.toInt, .int .u64 (m.s.toNat : Int), .int .u64 (m.o.toNat : Int)]).below hb1 (by simp)
      have hbw1 : Below w.heap.size w w1 := below_call (below_new _ _) (by simp) hb1
      have g0 : (w1.alloc (.cells #[.int .i64 l.p.toInt, .int .u64 (l.s.toNat : Int), .int .u64 (l.o.toNat : Int)] 38)).cell? ⟨w.heap.size, 0, none⟩ = some (.int .i64 m.p.toInt) := (hbk1.alloc _).cell 0
      have g1 : (w1.alloc (.cells #[.int .i64 l.p.toInt, .int .u64 (l.s.toNat : Int), .int .u64 (l.o.toNat : Int)] 38)).cell? ⟨w.heap.size, 1, none⟩ = some (.int .u64 (m.s.toNat : Int)) := (hbk1.alloc _).cell 1
      have g2 : (w1.alloc (.cells #[.int .i64 l.p.toInt, .int .u64 (l.s.toNat : Int), .int .u64 (l.o.toNat : Int)] 38)).cell? ⟨w.heap.size, 2, none⟩ = some (.int .u64 (m.o.toNat : Int)) := (hbk1.alloc _).cell 2
      have hne1 : w.heap.size ≠ w1.heap.size := by have := hbk1.lt; omega
      have hA' : Marks (w1.alloc (.cells #[.int .i64 l.p.toInt, .int .u64 (l.s.toNat : Int), .int .u64 (l.o.toNat : Int)] 38)) A ms := (hA.below hbw1).below (below_new _ _)
      go_wp2_with (first
        | (at_builtin; refine app_list marks_ty rfl rfl (World.ownsRow_nil _ w.heap.size _ _) rfl hA' rfl hrow (by simp; omega) (by have := hbw1.size; simp; omega) ?_; intro v1 w2 hown1 hg1 _))
      go_ret2
      rw [HFIN.out]
      exact ⟨⟨_, rfl, by simpa using OwnM.app (ms := []) (w' := w2) hown1 rfl rfl⟩, (hbw1.alloc hbw1.size _).grown hg1 (by have := hbw1.size; simp; omega) (fun k hk => by cases hk)⟩
    · have HFIN : Hid (r = some (insR ms m)) := by
        show _ = _
        rw [hr, goR, hl]; simp [hs]
      clear hr hl
      go_enter Try.func46, Try.ntmps46
      go_wp2_with fail
      refine HLAST.out.mono ?_
      rintro e w1 ⟨rfl, hb1⟩
      rw [lastV_some]
      have hbk1 := (Blk.new w 38 #[.int .i64 m.p.toInt, .int .u64 (m.s.toNat : Int), .int .u64 (m.o.toNat : Int)]).below hb1 (by simp)
      have hbw1 : Below w.heap.size w w1 := below_call (below_new _ _) (by simp) hb1
      have g0 : (w1.alloc (.cells #[.int .i64 l.p.toInt, .int .u64 (l.s.toNat : Int), .int .u64 (l.o.toNat : Int)] 38)).cell? ⟨w.heap.size, 0, none⟩ = some (.int .i64 m.p.toInt) := (hbk1.alloc _).cell 0
      have g1 : (w1.alloc (.cells #[.int .i64 l.p.toInt, .int .u64 (l.s.toNat : Int), .int .u64 (l.o.toNat : Int)] 38)).cell? ⟨w.heap.size, 1, none⟩ = some (.int .u64 (m.s.toNat : Int)) := (hbk1.alloc _).cell 1
      have g2 : (w1.alloc (.cells #[.int .i64 l.p.toInt, .int .u64 (l.s.toNat : Int), .int .u64 (l.o.toNat : Int)] 38)).cell? ⟨w.heap.size, 2, none⟩ = some (.int .u64 (m.o.toNat : Int)) := (hbk1.alloc _).cell 2
      have hne1 : w.heap.size ≠ w1.heap.size := by have := hbk1.lt; omega
      go_wp2_with fail
      clear g0 g1 g2 HLAST
      go_loopw [6, 7, 10] (fun v put i wr => ∃ k : Nat, k ≤ ms.length ∧ i = .int .i64 k ∧ put = .bool (stI ms m k).2 ∧ Below w.heap.size w wr ∧ Blk wr w.heap.size 38 #[.int .i64 m.p.toInt, .int .u64 (m.s.toNat : Int), .int .u64 (m.o.toNat : Int)] ∧ OwnM wr (w.heap.size + 1) v (stI ms m k).1) (fun _ _ i _ => ms.length - (intOf i).toNat)
      case atStart => exact ⟨0, by omega, rfl, rfl, hbw1.alloc hbw1.size _, hbk1.alloc _, OwnM.nil_ _ _⟩
      case round =>
        obtain ⟨k, hk, rfl, rfl, hb, hbk, ho⟩ := hrel
        have hle := stI_len ms m k hk
        have hbs : w.heap.size + 1 ≤ wr.heap.size := hbk.lt
        by_cases hlt : k < ms.length
        · obtain ⟨b, o, rfl, had, c0, c1, c2⟩ := hA.at_ hlt
          have C0 := Lib.hid c0
          have C1 := Lib.hid c1
          have C2 := Lib.hid c2
          clear c0 c1 c2
          have HS := Lib.hid (stI_succ ms m k hlt)
          have hlt' : (k : Int) < (ms.length : Int) := by omega
          have hne : b ≠ w.heap.size := by omega
          generalize ms[k] = x at C0 C1 C2 HS
          generalize stI ms m k = st at ho hle HS ⊢
          obtain ⟨L, put⟩ := st
          simp only at ho hle
          obtain ⟨A1, c1', rfl, hc1, hc2⟩ := ho.form
          have c0 := (hb.cell (p := ⟨b, o + k * 3, none⟩) had).trans C0.out
          have e0 : wr.cell? ⟨w.heap.size, 0, none⟩ = some (.int .i64 m.p.toInt) := hbk.cell 0
          have e1 : wr.cell? ⟨w.heap.size, 1, none⟩ = some (.int .u64 (m.s.toNat : Int)) := hbk.cell 1
          have e2 : wr.cell? ⟨w.heap.size, 2, none⟩ = some (.int .u64 (m.o.toNat : Int)) := hbk.cell 2
          cases put with
          | true =>
            by_cases hx : x.p.toInt = m.p.toInt
            · have HE : Hid (stI ms m (k + 1) = (L, true)) := by
                show _ = _
                rw [HS.out]; simp [stepI, hx]
              have hx' : (x.p.toInt != m.p.toInt) = false := by simp [hx]
              have HX := Lib.hid hx'
              clear hx hx'
              go_wp2_with fail
              refine PF.pf_begin (by kernel_rfl) ?_
              refine PF.pf_take0 0 (by kernel_rfl) rfl (fun _ _ _ _ _ h => h) (by kernel_rfl) (fun u => by go_simp; try rfl) ?_
              try simp only [Act.put, pz0, pz1, pz2]
              refine PF.pf_take0 1 (by kernel_rfl) rfl (fun _ _ _ _ _ h => h) (by kernel_rfl) (fun u => by go_simp; try rfl) ?_
              try simp only [Act.put, pz0, pz1, pz2]
              refine PF.pf_take0 2 (by kernel_rfl) rfl (fun _ _ _ _ _ h => h) (by kernel_rfl) (fun u => by go_simp; try rfl) ?_
              try simp only [Act.put, pz0, pz1, pz2]
              refine PF.pf_skip0 3 (by kernel_rfl) rfl (fun _ _ _ _ _ h => h) (by kernel_rfl) ?_
              try simp only [Act.put, pz0, pz1, pz2]
              refine PF.pf_skip0 4 (by kernel_rfl) rfl (fun _ _ _ _ _ h => h) (by kernel_rfl) ?_
              try simp only [Act.put, pz0, pz1, pz2]
              refine PF.pf_skip0 5 (by kernel_rfl) rfl (fun _ _ _ _ _ h => h) (by kernel_rfl) ?_
              try simp only [Act.put, pz0, pz1, pz2]
              refine PF.pf_skip0 6 (by kernel_rfl) rfl (fun _ _ _ _ _ h => h) (by kernel_rfl) ?_
              try simp only [Act.put, pz0, pz1, pz2]
              refine PF.pf_skip0 7 (by kernel_rfl) rfl (fun _ _ _ _ _ h => h) (by kernel_rfl) ?_
              try simp only [Act.put, pz0, pz1, pz2]
              refine PF.pf_skip0 8 (by kernel_rfl) rfl (fun _ _ _ _ _ h => h) (by kernel_rfl) ?_
              try simp only [Act.put, pz0, pz1, pz2]
              refine PF.pf_skip0 9 (by kernel_rfl) rfl (fun _ _ _ _ _ h => h) (by kernel_rfl) ?_
              try simp only [Act.put, pz0, pz1, pz2]
              refine PF.pf_skip0 10 (by kernel_rfl) rfl (fun _ _ _ _ _ h => h) (by kernel_rfl) ?_
              try simp only [Act.put, pz0, pz1, pz2]
              refine PF.pf_take0 11 (by kernel_rfl) rfl (fun _ _ _ _ _ h => h) (by kernel_rfl) (fun u => by go_simp; try rfl) ?_
              try simp only [Act.put, pz0, pz1, pz2]
              refine PF.pf_done (by kernel_rfl) ?_
              go_wp2_with fail
              refine PF.pf_begin (by kernel_rfl) ?_
              refine PF.pf_take0 0 (by kernel_rfl) rfl (fun _ _ _ _ _ h => h) (by kernel_rfl) (fun u => by go_simp; try rfl) ?_
              try simp only [Act.put, pz0, pz1, pz2]
              refine PF.pf_take0 1 (by kernel_rfl) rfl (fun _ _ _ _ _ h => h) (by kernel_rfl) (fun u => by go_simp; try rfl) ?_
              try simp only [Act.put, pz0, pz1, pz2]
              refine PF.pf_take0 2 (by kernel_rfl) rfl (fun _ _ _ _ _ h => h) (by kernel_rfl) (fun u => by go_simp; try rfl) ?_
              try simp only [Act.put, pz0, pz1, pz2]
              refine PF.pf_take0 3 (by kernel_rfl) rfl (fun _ _ _ _ _ h => h) (by kernel_rfl) (fun u => by go_simp; try rfl) ?_
              try simp only [Act.put, pz0, pz1, pz2]
              refine PF.pf_take1 4 (PF.Same (b) _) (by kernel_rfl) rfl (fun _ _ _ _ _ h => h) (by kernel_rfl) (PF.Same.refl _ _) (fun u hu => by have hcu := hu.cell; go_simp; try rfl) ?_
              try simp only [Act.put, pz0, pz1, pz2]
              refine PF.pf_take0 5 (by kernel_rfl) rfl (fun _ _ _ _ _ h => h) (by kernel_rfl) (fun u => by go_simp; try rfl) ?_
              try simp only [Act.put, pz0, pz1, pz2]
              refine PF.pf_take1 6 (PF.Same (w.heap.size) _) (by kernel_rfl) rfl (fun _ _ _ _ _ h => h) (by kernel_rfl) (PF.Same.refl _ _) (fun u hu => by have hcu := hu.cell; go_simp; try rfl) ?_
              try simp only [Act.put, pz0, pz1, pz2]
              refine PF.pf_take0 7 (by kernel_rfl) rfl (fun _ _ _ _ _ h => h) (by kernel_rfl) (fun u => by go_simp; try rfl) ?_
              try simp only [Act.put, pz0, pz1, pz2]
              refine PF.pf_done (by kernel_rfl) ?_
              rw [HX.out]
              go_wp2_with fail
              go_roundw
              case rel => exact ⟨k + 1, by omega, by go_num, by rw [HE.out], hb.drew.drew, hbk.drew.drew, by rw [HE.out]; exact ho.drew.drew⟩
              case measure => simp [intOf]; omega
            · have HE : Hid (stI ms m (k + 1) = (L ++ [x], true)) := by
                show _ = _
                rw [HS.out]; simp [stepI, hx]
              have hx' : (x.p.toInt != m.p.toInt) = true := by simpa using hx
              have HX := Lib.hid hx'
              clear hx hx'
              go_wp2_with fail
              refine PF.pf_begin (by kernel_rfl) ?_
              refine PF.pf_take0 0 (by kernel_rfl) rfl (fun _ _ _ _ _ h => h) (by kernel_rfl) (fun u => by go_simp; try rfl) ?_
              try simp only [Act.put, pz0, pz1, pz2]
              refine PF.pf_take0 1 (by kernel_rfl) rfl (fun _ _ _ _ _ h => h) (by kernel_rfl) (fun u => by go_simp; try rfl) ?_
              try simp only [Act.put, pz0, pz1, pz2]
              refine PF.pf_take0 2 (by kernel_rfl) rfl (fun _ _ _ _ _ h => h) (by kernel_rfl) (fun u => by go_simp; try rfl) ?_
              try simp only [Act.put, pz0, pz1, pz2]
              refine PF.pf_skip0 3 (by kernel_rfl) rfl (fun _ _ _ _ _ h => h) (by kernel_rfl) ?_
              try simp only [Act.put, pz0, pz1, pz2]
              refine PF.pf_skip0 4 (by kernel_rfl) rfl (fun _ _ _ _ _ h => h) (by kernel_rfl) ?_
              try simp only [Act.put, pz0, pz1, pz2]
              refine PF.pf_skip0 5 (by kernel_rfl) rfl (fun _ _ _ _ _ h => h) (by kernel_rfl) ?_
              try simp only [Act.put, pz0, pz1, pz2]
              refine PF.pf_skip0 6 (by kernel_rfl) rfl (fun _ _ _ _ _ h => h) (by kernel_rfl) ?_
              try simp only [Act.put, pz0, pz1, pz2]
              refine PF.pf_skip0 7 (by kernel_rfl) rfl (fun _ _ _ _ _ h => h) (by kernel_rfl) ?_
              try simp only [Act.put, pz0, pz1, pz2]
              refine PF.pf_skip0 8 (by kernel_rfl) rfl (fun _ _ _ _ _ h => h) (by kernel_rfl) ?_
              try simp only [Act.put, pz0, pz1, pz2]
              refine PF.pf_skip0 9 (by kernel_rfl) rfl (fun _ _ _ _ _ h => h) (by kernel_rfl) ?_
              try simp only [Act.put, pz0, pz1, pz2]
              refine PF.pf_skip0 10 (by kernel_rfl) rfl (fun _ _ _ _ _ h => h) (by kernel_rfl) ?_
              try simp only [Act.put, pz0, pz1, pz2]
              refine PF.pf_take0 11 (by kernel_rfl) rfl (fun _ _ _ _ _ h => h) (by kernel_rfl) (fun u => by go_simp; try rfl) ?_
              try simp only [Act.put, pz0, pz1, pz2]
              refine PF.pf_done (by kernel_rfl) ?_
              go_wp2_with fail
              refine PF.pf_begin (by kernel_rfl) ?_
              refine PF.pf_take0 0 (by kernel_rfl) rfl (fun _ _ _ _ _ h => h) (by kernel_rfl) (fun u => by go_simp; try rfl) ?_
              try simp only [Act.put, pz0, pz1, pz2]
              refine PF.pf_take0 1 (by kernel_rfl) rfl (fun _ _ _ _ _ h => h) (by kernel_rfl) (fun u => by go_simp; try rfl) ?_
              try simp only [Act.put, pz0, pz1, pz2]
              refine PF.pf_take0 2 (by kernel_rfl) rfl (fun _ _ _ _ _ h => h) (by kernel_rfl) (fun u => by go_simp; try rfl) ?_
              try simp only [Act.put, pz0, pz1, pz2]
              refine PF.pf_take0 3 (by kernel_rfl) rfl (fun _ _ _ _ _ h => h) (by kernel_rfl) (fun u => by go_simp; try rfl) ?_
              try simp only [Act.put, pz0, pz1, pz2]
              refine PF.pf_take1 4 (PF.Same (b) _) (by kernel_rfl) rfl (fun _ _ _ _ _ h => h) (by kernel_rfl) (PF.Same.refl _ _) (fun u hu => by have hcu := hu.cell; go_simp; try rfl) ?_
              try simp only [Act.put, pz0, pz1, pz2]
              refine PF.pf_take0 5 (by kernel_rfl) rfl (fun _ _ _ _ _ h => h) (by kernel_rfl) (fun u => by go_simp; try rfl) ?_
              try simp only [Act.put, pz0, pz1, pz2]
              refine PF.pf_take1 6 (PF.Same (w.heap.size) _) (by kernel_rfl) rfl (fun _ _ _ _ _ h => h) (by kernel_rfl) (PF.Same.refl _ _) (fun u hu => by have hcu := hu.cell; go_simp; try rfl) ?_
              try simp only [Act.put, pz0, pz1, pz2]
              refine PF.pf_take0 7 (by kernel_rfl) rfl (fun _ _ _ _ _ h => h) (by kernel_rfl) (fun u => by go_simp; try rfl) ?_
              try simp only [Act.put, pz0, pz1, pz2]
              refine PF.pf_done (by kernel_rfl) ?_
              rw [HX.out]
              have d0 : wr.drew.drew.cell? ⟨b, o + k * 3, none⟩ = some (.int .i64 x.p.toInt) := c0
              have d1 : wr.drew.drew.cell? ⟨b, o + k * 3 + 1, none⟩ = some (.int .u64 (x.s.toNat : Int)) := (hb.cell (p := ⟨b, o + k * 3 + 1, none⟩) had).trans C1.out
              have d2 : wr.drew.drew.cell? ⟨b, o + k * 3 + 2, none⟩ = some (.int .u64 (x.o.toNat : Int)) := (hb.cell (p := ⟨b, o + k * 3 + 2, none⟩) had).trans C2.out
              have hbW : Below w.heap.size w wr.drew.drew := hb.drew.drew
              have hbkW : Blk wr.drew.drew w.heap.size 38 #[.int .i64 m.p.toInt, .int .u64 (m.s.toNat : Int), .int .u64 (m.o.toNat : Int)] := hbk.drew.drew
              have hoW : OwnM wr.drew.drew (w.heap.size + 1) _ L := ho.drew.drew
              clear c0 e0
              generalize wr.drew.drew = wa at d0 d1 d2 hbW hbkW hoW ⊢
              have hbs3 : w.heap.size + 1 ≤ wa.heap.size := hbkW.lt
              have hrow2 := Mk.row_one [x]
              have hnew2 := Marks.new wa 38 [x] #[.int .i64 x.p.toInt, .int .u64 (x.s.toNat : Int), .int .u64 (x.o.toNat : Int)] (0, 0) rfl
              have ho4 := hoW.alloc (.cells #[.int .i64 x.p.toInt, .int .u64 (x.s.toNat : Int), .int .u64 (x.o.toNat : Int)] 38)
              go_wp2_with (first
                | (at_builtin; refine app_list marks_ty rfl rfl ho4 rfl hnew2 rfl hrow2 (by simp; omega) (by simp; omega) ?_; intro v2 w2 hown1 hg2 _))
              have hb2 : Below w.heap.size w w2 := (hbW.alloc hbW.size _).grown hg2 (by have := hbW.size; simp; omega) (fun j hj => by have := own_ge ho4 j hj; omega)
              have hbk2 : Blk w2 w.heap.size 38 #[.int .i64 m.p.toInt, .int .u64 (m.s.toNat : Int), .int .u64 (m.o.toNat : Int)] := (hbkW.alloc _).grown hg2 (fun h => by have := own_ge ho4 _ h.symm; omega)
              go_roundw
              case rel => exact ⟨k + 1, by omega, by go_num, by rw [HE.out], hb2, hbk2, by rw [HE.out]; exact OwnM.snoc (w := wr) hown1 rfl⟩
              case measure => simp [intOf]; omega
          | false =>
            by_cases hge : m.p.toInt ≤ x.p.toInt
            · have hrow := Mk.row_one [m]
              have hnew := Marks.new wr.drew 38 [m] #[.int .i64 m.p.toInt, .int .u64 (m.s.toNat : Int), .int .u64 (m.o.toNat : Int)] (0, 0) rfl
              have ho2 := (OwnM.drew ho).alloc (.cells #[.int .i64 m.p.toInt, .int .u64 (m.s.toNat : Int), .int .u64 (m.o.toNat : Int)] 38)
              have hd : decide (m.p.toInt ≤ x.p.toInt) = true := by simpa using hge
              have HGE := Lib.hid hge
              have HD := Lib.hid hd
              clear hge hd
              go_wp2_with fail
              refine PF.pf_begin (by kernel_rfl) ?_
              refine PF.pf_take0 0 (by kernel_rfl) rfl (fun _ _ _ _ _ h => h) (by kernel_rfl) (fun u => by go_simp; try rfl) ?_
              try simp only [Act.put, pz0, pz1, pz2]
              refine PF.pf_take0 1 (by kernel_rfl) rfl (fun _ _ _ _ _ h => h) (by kernel_rfl) (fun u => by go_simp; try rfl) ?_
              try simp only [Act.put, pz0, pz1, pz2]
              refine PF.pf_take0 2 (by kernel_rfl) rfl (fun _ _ _ _ _ h => h) (by kernel_rfl) (fun u => by go_simp; try rfl) ?_
              try simp only [Act.put, pz0, pz1, pz2]
              refine PF.pf_take0 3 (by kernel_rfl) rfl (fun _ _ _ _ _ h => h) (by kernel_rfl) (fun u => by go_simp; try rfl) ?_
              try simp only [Act.put, pz0, pz1, pz2]
              refine PF.pf_take0 4 (by kernel_rfl) rfl (fun _ _ _ _ _ h => h) (by kernel_rfl) (fun u => by go_simp; try rfl) ?_
              try simp only [Act.put, pz0, pz1, pz2]
              refine PF.pf_take0 5 (by kernel_rfl) rfl (fun _ _ _ _ _ h => h) (by kernel_rfl) (fun u => by go_simp; try rfl) ?_
              try simp only [Act.put, pz0, pz1, pz2]
              refine PF.pf_take0 6 (by kernel_rfl) rfl (fun _ _ _ _ _ h => h) (by kernel_rfl) (fun u => by go_simp; try rfl) ?_
              try simp only [Act.put, pz0, pz1, pz2]
              refine PF.pf_take1 7 (PF.Same (b) _) (by kernel_rfl) rfl (fun _ _ _ _ _ h => h) (by kernel_rfl) (PF.Same.refl _ _) (fun u hu => by have hcu := hu.cell; go_simp; try rfl) ?_
              try simp only [Act.put, pz0, pz1, pz2]
              refine PF.pf_take0 8 (by kernel_rfl) rfl (fun _ _ _ _ _ h => h) (by kernel_rfl) (fun u => by go_simp; try rfl) ?_
              try simp only [Act.put, pz0, pz1, pz2]
              refine PF.pf_take1 9 (PF.Same (w.heap.size) _) (by kernel_rfl) rfl (fun _ _ _ _ _ h => h) (by kernel_rfl) (PF.Same.refl _ _) (fun u hu => by have hcu := hu.cell; go_simp; try rfl) ?_
              try simp only [Act.put, pz0, pz1, pz2]
              refine PF.pf_take0 10 (by kernel_rfl) rfl (fun _ _ _ _ _ h => h) (by kernel_rfl) (fun u => by go_simp; try rfl) ?_
              try simp only [Act.put, pz0, pz1, pz2]
              refine PF.pf_take0 11 (by kernel_rfl) rfl (fun _ _ _ _ _ h => h) (by kernel_rfl) (fun u => by go_simp; try rfl) ?_
              try simp only [Act.put, pz0, pz1, pz2]
              refine PF.pf_done (by kernel_rfl) ?_
              rw [HD.out]
              go_wp2_with (first
                | (at_builtin; refine app_list marks_ty rfl rfl ho2 rfl hnew rfl hrow (by simp; omega) (by simp; omega) ?_; intro v1 w1 hown1 hg1 _))
              have hb2 : Below w.heap.size w w1 := (hb.drew.alloc hb.size _).grown hg1 (by have := hb.size; simp; omega) (fun j hj => by have := own_ge ho2 j hj; omega)
              have hbk2 : Blk w1 w.heap.size 38 #[.int .i64 m.p.toInt, .int .u64 (m.s.toNat : Int), .int .u64 (m.o.toNat : Int)] := (hbk.drew.alloc _).grown hg1 (fun h => by have := own_ge ho2 _ h.symm; omega)
              have ho3 : OwnM w1 (w.heap.size + 1) v1 (L ++ [m]) := OwnM.snoc (w := wr) hown1 rfl
              clear c0 e0 e1 e2 hb hbk ho2 hg1 hown1 hnew hc1 hc2
              have hbs2 : w.heap.size + 1 ≤ w1.heap.size := hbk2.lt
              obtain ⟨A2, c2', rfl, hc1, hc2⟩ := ho3.form
              have c0 := (hb2.cell (p := ⟨b, o + k * 3, none⟩) had).trans C0.out
              have e0 : w1.cell? ⟨w.heap.size, 0, none⟩ = some (.int .i64 m.p.toInt) := hbk2.cell 0
              by_cases hx : x.p.toInt = m.p.toInt
              · have HE : Hid (stI ms m (k + 1) = (L ++ [m], true)) := by
                  show _ = _
                  rw [HS.out]; simp [stepI, hx]
                have hx' : (x.p.toInt != m.p.toInt) = false := by simp [hx]
                have HX := Lib.hid hx'
                clear hx hx'
                go_wp2_with fail
                refine PF.pf_begin (by kernel_rfl) ?_
                refine PF.pf_take0 0 (by kernel_rfl) rfl (fun _ _ _ _ _ h => h) (by kernel_rfl) (fun u => by go_simp; try rfl) ?_
                try simp only [Act.put, pz0, pz1, pz2]
                refine PF.pf_take0 1 (by kernel_rfl) rfl (fun _ _ _ _ _ h => h) (by kernel_rfl) (fun u => by go_simp; try rfl) ?_
                try simp only [Act.put, pz0, pz1, pz2]
                refine PF.pf_take0 2 (by kernel_rfl) rfl (fun _ _ _ _ _ h => h) (by kernel_rfl) (fun u => by go_simp; try rfl) ?_
                try simp only [Act.put, pz0, pz1, pz2]
                refine PF.pf_take0 3 (by kernel_rfl) rfl (fun _ _ _ _ _ h => h) (by kernel_rfl) (fun u => by go_simp; try rfl) ?_
                try simp only [Act.put, pz0, pz1, pz2]
                refine PF.pf_take1 4 (PF.Same (b) _) (by kernel_rfl) rfl (fun _ _ _ _ _ h => h) (by kernel_rfl) (PF.Same.refl _ _) (fun u hu => by have hcu := hu.cell; go_simp; try rfl) ?_
                try simp only [Act.put, pz0, pz1, pz2]
                refine PF.pf_take0 5 (by kernel_rfl) rfl (fun _ _ _ _ _ h => h) (by kernel_rfl) (fun u => by go_simp; try rfl) ?_
                try simp only [Act.put, pz0, pz1, pz2]
                refine PF.pf_take1 6 (PF.Same (w.heap.size) _) (by kernel_rfl) rfl (fun _ _ _ _ _ h => h) (by kernel_rfl) (PF.Same.refl _ _) (fun u hu => by have hcu := hu.cell; go_simp; try rfl) ?_
                try simp only [Act.put, pz0, pz1, pz2]
                refine PF.pf_take0 7 (by kernel_rfl) rfl (fun _ _ _ _ _ h => h) (by kernel_rfl) (fun u => by go_simp; try rfl) ?_
                try simp only [Act.put, pz0, pz1, pz2]
                refine PF.pf_done (by kernel_rfl) ?_
                rw [HX.out]
                go_wp2_with fail
                go_roundw
                case rel => exact ⟨k + 1, by omega, by go_num, by rw [HE.out], hb2.drew, hbk2.drew, by rw [HE.out]; exact ho3.drew⟩
                case measure => simp [intOf]; omega
              · have HE : Hid (stI ms m (k + 1) = (L ++ [m] ++ [x], true)) := by
                  show _ = _
                  rw [HS.out]; simp [stepI, hx, HGE.out]
                have hx' : (x.p.toInt != m.p.toInt) = true := by simpa using hx
                have HX := Lib.hid hx'
                clear hx hx'
                have hl2 : (L ++ [m]).length ≤ 2 * k + 1 := by simp; omega
                generalize L ++ [m] = L2 at ho3 hc1 HE hl2 ⊢
                go_wp2_with fail
                refine PF.pf_begin (by kernel_rfl) ?_
                refine PF.pf_take0 0 (by kernel_rfl) rfl (fun _ _ _ _ _ h => h) (by kernel_rfl) (fun u => by go_simp; try rfl) ?_
                try simp only [Act.put, pz0, pz1, pz2]
                refine PF.pf_take0 1 (by kernel_rfl) rfl (fun _ _ _ _ _ h => h) (by kernel_rfl) (fun u => by go_simp; try rfl) ?_
                try simp only [Act.put, pz0, pz1, pz2]
                refine PF.pf_take0 2 (by kernel_rfl) rfl (fun _ _ _ _ _ h => h) (by kernel_rfl) (fun u => by go_simp; try rfl) ?_
                try simp only [Act.put, pz0, pz1, pz2]
                refine PF.pf_take0 3 (by kernel_rfl) rfl (fun _ _ _ _ _ h => h) (by kernel_rfl) (fun u => by go_simp; try rfl) ?_
                try simp only [Act.put, pz0, pz1, pz2]
                refine PF.pf_take1 4 (PF.Same (b) _) (by kernel_rfl) rfl (fun _ _ _ _ _ h => h) (by kernel_rfl) (PF.Same.refl _ _) (fun u hu => by have hcu := hu.cell; go_simp; try rfl) ?_
                try simp only [Act.put, pz0, pz1, pz2]
                refine PF.pf_take0 5 (by kernel_rfl) rfl (fun _ _ _ _ _ h => h) (by kernel_rfl) (fun u => by go_simp; try rfl) ?_
                try simp only [Act.put, pz0, pz1, pz2]
                refine PF.pf_take1 6 (PF.Same (w.heap.size) _) (by kernel_rfl) rfl (fun _ _ _ _ _ h => h) (by kernel_rfl) (PF.Same.refl _ _) (fun u hu => by have hcu := hu.cell; go_simp; try rfl) ?_
                try simp only [Act.put, pz0, pz1, pz2]
                refine PF.pf_take0 7 (by kernel_rfl) rfl (fun _ _ _ _ _ h => h) (by kernel_rfl) (fun u => by go_simp; try rfl) ?_
                try simp only [Act.put, pz0, pz1, pz2]
                refine PF.pf_done (by kernel_rfl) ?_
                rw [HX.out]
                have d0 : w1.drew.cell? ⟨b, o + k * 3, none⟩ = some (.int .i64 x.p.toInt) := c0
                have d1 : w1.drew.cell? ⟨b, o + k * 3 + 1, none⟩ = some (.int .u64 (x.s.toNat : Int)) := (hb2.cell (p := ⟨b, o + k * 3 + 1, none⟩) had).trans C1.out
                have d2 : w1.drew.cell? ⟨b, o + k * 3 + 2, none⟩ = some (.int .u64 (x.o.toNat : Int)) := (hb2.cell (p := ⟨b, o + k * 3 + 2, none⟩) had).trans C2.out
                have hbW : Below w.heap.size w w1.drew := hb2.drew
                have hbkW : Blk w1.drew w.heap.size 38 #[.int .i64 m.p.toInt, .int .u64 (m.s.toNat : Int), .int .u64 (m.o.toNat : Int)] := hbk2.drew
                have hoW : OwnM w1.drew (w.heap.size + 1) _ L2 := ho3.drew
                clear c0 e0
                generalize w1.drew = wa at d0 d1 d2 hbW hbkW hoW ⊢
                have hbs3 : w.heap.size + 1 ≤ wa.heap.size := hbkW.lt
                have hrow2 := Mk.row_one [x]
                have hnew2 := Marks.new wa 38 [x] #[.int .i64 x.p.toInt, .int .u64 (x.s.toNat : Int), .int .u64 (x.o.toNat : Int)] (0, 0) rfl
                have ho4 := hoW.alloc (.cells #[.int .i64 x.p.toInt, .int .u64 (x.s.toNat : Int), .int .u64 (x.o.toNat : Int)] 38)
                go_wp2_with (first
                  | (at_builtin; refine app_list marks_ty rfl rfl ho4 rfl hnew2 rfl hrow2 (by simp; omega) (by simp; omega) ?_; intro v2 w2 hown1 hg2 _))
                have hb2 : Below w.heap.size w w2 := (hbW.alloc hbW.size _).grown hg2 (by have := hbW.size; simp; omega) (fun j hj => by have := own_ge ho4 j hj; omega)
                have hbk2 : Blk w2 w.heap.size 38 #[.int .i64 m.p.toInt, .int .u64 (m.s.toNat : Int), .int .u64 (m.o.toNat : Int)] := (hbkW.alloc _).grown hg2 (fun h => by have := own_ge ho4 _ h.symm; omega)
                go_roundw
                case rel => exact ⟨k + 1, by omega, by go_num, by rw [HE.out], hb2, hbk2, by rw [HE.out]; exact OwnM.snoc (w := wr) hown1 rfl⟩
                case measure => simp [intOf]; omega
            · have hd : decide (m.p.toInt ≤ x.p.toInt) = false := by simpa using hge
              have hx' : (x.p.toInt != m.p.toInt) = true := by rw [bne_iff_ne]; omega
              have HE : Hid (stI ms m (k + 1) = (L ++ [x], false)) := by
                show _ = _
                rw [HS.out]; simp [stepI, hge, show ¬ x.p.toInt = m.p.toInt by omega]
              have HX := Lib.hid hx'
              have HD := Lib.hid hd
              clear hge hd hx'
              go_wp2_with fail
              refine PF.pf_begin (by kernel_rfl) ?_
              refine PF.pf_take0 0 (by kernel_rfl) rfl (fun _ _ _ _ _ h => h) (by kernel_rfl) (fun u => by go_simp; try rfl) ?_
              try simp only [Act.put, pz0, pz1, pz2]
              refine PF.pf_take0 1 (by kernel_rfl) rfl (fun _ _ _ _ _ h => h) (by kernel_rfl) (fun u => by go_simp; try rfl) ?_
              try simp only [Act.put, pz0, pz1, pz2]
              refine PF.pf_take0 2 (by kernel_rfl) rfl (fun _ _ _ _ _ h => h) (by kernel_rfl) (fun u => by go_simp; try rfl) ?_
              try simp only [Act.put, pz0, pz1, pz2]
              refine PF.pf_take0 3 (by kernel_rfl) rfl (fun _ _ _ _ _ h => h) (by kernel_rfl) (fun u => by go_simp; try rfl) ?_
              try simp only [Act.put, pz0, pz1, pz2]
              refine PF.pf_take0 4 (by kernel_rfl) rfl (fun _ _ _ _ _ h => h) (by kernel_rfl) (fun u => by go_simp; try rfl) ?_
              try simp only [Act.put, pz0, pz1, pz2]
              refine PF.pf_take0 5 (by kernel_rfl) rfl (fun _ _ _ _ _ h => h) (by kernel_rfl) (fun u => by go_simp; try rfl) ?_
              try simp only [Act.put, pz0, pz1, pz2]
              refine PF.pf_take0 6 (by kernel_rfl) rfl (fun _ _ _ _ _ h => h) (by kernel_rfl) (fun u => by go_simp; try rfl) ?_
              try simp only [Act.put, pz0, pz1, pz2]
              refine PF.pf_take1 7 (PF.Same (b) _) (by kernel_rfl) rfl (fun _ _ _ _ _ h => h) (by kernel_rfl) (PF.Same.refl _ _) (fun u hu => by have hcu := hu.cell; go_simp; try rfl) ?_
              try simp only [Act.put, pz0, pz1, pz2]
              refine PF.pf_take0 8 (by kernel_rfl) rfl (fun _ _ _ _ _ h => h) (by kernel_rfl) (fun u => by go_simp; try rfl) ?_
              try simp only [Act.put, pz0, pz1, pz2]
              refine PF.pf_take1 9 (PF.Same (w.heap.size) _) (by kernel_rfl) rfl (fun _ _ _ _ _ h => h) (by kernel_rfl) (PF.Same.refl _ _) (fun u hu => by have hcu := hu.cell; go_simp; try rfl) ?_
              try simp only [Act.put, pz0, pz1, pz2]
              refine PF.pf_take0 10 (by kernel_rfl) rfl (fun _ _ _ _ _ h => h) (by kernel_rfl) (fun u => by go_simp; try rfl) ?_
              try simp only [Act.put, pz0, pz1, pz2]
              refine PF.pf_take0 11 (by kernel_rfl) rfl (fun _ _ _ _ _ h => h) (by kernel_rfl) (fun u => by go_simp; try rfl) ?_
              try simp only [Act.put, pz0, pz1, pz2]
              refine PF.pf_done (by kernel_rfl) ?_
              rw [HD.out]
              go_wp2_with fail
              refine PF.pf_begin (by kernel_rfl) ?_
              refine PF.pf_take0 0 (by kernel_rfl) rfl (fun _ _ _ _ _ h => h) (by kernel_rfl) (fun u => by go_simp; try rfl) ?_
              try simp only [Act.put, pz0, pz1, pz2]
              refine PF.pf_take0 1 (by kernel_rfl) rfl (fun _ _ _ _ _ h => h) (by kernel_rfl) (fun u => by go_simp; try rfl) ?_
              try simp only [Act.put, pz0, pz1, pz2]
              refine PF.pf_take0 2 (by kernel_rfl) rfl (fun _ _ _ _ _ h => h) (by kernel_rfl) (fun u => by go_simp; try rfl) ?_
              try simp only [Act.put, pz0, pz1, pz2]
              refine PF.pf_take0 3 (by kernel_rfl) rfl (fun _ _ _ _ _ h => h) (by kernel_rfl) (fun u => by go_simp; try rfl) ?_
              try simp only [Act.put, pz0, pz1, pz2]
              refine PF.pf_take1 4 (PF.Same (b) _) (by kernel_rfl) rfl (fun _ _ _ _ _ h => h) (by kernel_rfl) (PF.Same.refl _ _) (fun u hu => by have hcu := hu.cell; go_simp; try rfl) ?_
              try simp only [Act.put, pz0, pz1, pz2]
              refine PF.pf_take0 5 (by kernel_rfl) rfl (fun _ _ _ _ _ h => h) (by kernel_rfl) (fun u => by go_simp; try rfl) ?_
              try simp only [Act.put, pz0, pz1, pz2]
              refine PF.pf_take1 6 (PF.Same (w.heap.size) _) (by kernel_rfl) rfl (fun _ _ _ _ _ h => h) (by kernel_rfl) (PF.Same.refl _ _) (fun u hu => by have hcu := hu.cell; go_simp; try rfl) ?_
              try simp only [Act.put, pz0, pz1, pz2]
              refine PF.pf_take0 7 (by kernel_rfl) rfl (fun _ _ _ _ _ h => h) (by kernel_rfl) (fun u => by go_simp; try rfl) ?_
              try simp only [Act.put, pz0, pz1, pz2]
              refine PF.pf_done (by kernel_rfl) ?_
              rw [HX.out]
              have d0 : wr.drew.drew.cell? ⟨b, o + k * 3, none⟩ = some (.int .i64 x.p.toInt) := c0
              have d1 : wr.drew.drew.cell? ⟨b, o + k * 3 + 1, none⟩ = some (.int .u64 (x.s.toNat : Int)) := (hb.cell (p := ⟨b, o + k * 3 + 1, none⟩) had).trans C1.out
              have d2 : wr.drew.drew.cell? ⟨b, o + k * 3 + 2, none⟩ = some (.int .u64 (x.o.toNat : Int)) := (hb.cell (p := ⟨b, o + k * 3 + 2, none⟩) had).trans C2.out
              have hbW : Below w.heap.size w wr.drew.drew := hb.drew.drew
              have hbkW : Blk wr.drew.drew w.heap.size 38 #[.int .i64 m.p.toInt, .int .u64 (m.s.toNat : Int), .int .u64 (m.o.toNat : Int)] := hbk.drew.drew
              have hoW : OwnM wr.drew.drew (w.heap.size + 1) _ L := ho.drew.drew
              clear c0 e0
              generalize wr.drew.drew = wa at d0 d1 d2 hbW hbkW hoW ⊢
              have hbs3 : w.heap.size + 1 ≤ wa.heap.size := hbkW.lt
              have hrow2 := Mk.row_one [x]
              have hnew2 := Marks.new wa 38 [x] #[.int .i64 x.p.toInt, .int .u64 (x.s.toNat : Int), .int .u64 (x.o.toNat : Int)] (0, 0) rfl
              have ho4 := hoW.alloc (.cells #[.int .i64 x.p.toInt, .int .u64 (x.s.toNat : Int), .int .u64 (x.o.toNat : Int)] 38)
              go_wp2_with (first
                | (at_builtin; refine app_list marks_ty rfl rfl ho4 rfl hnew2 rfl hrow2 (by simp; omega) (by simp; omega) ?_; intro v2 w2 hown1 hg2 _))
              have hb2 : Below w.heap.size w w2 := (hbW.alloc hbW.size _).grown hg2 (by have := hbW.size; simp; omega) (fun j hj => by have := own_ge ho4 j hj; omega)
              have hbk2 : Blk w2 w.heap.size 38 #[.int .i64 m.p.toInt, .int .u64 (m.s.toNat : Int), .int .u64 (m.o.toNat : Int)] := (hbkW.alloc _).grown hg2 (fun h => by have := own_ge ho4 _ h.symm; omega)
              go_roundw
              case rel => exact ⟨k + 1, by omega, by go_num, by rw [HE.out], hb2, hbk2, by rw [HE.out]; exact OwnM.snoc (w := wr) hown1 rfl⟩
              case measure => simp [intOf]; omega
        · obtain rfl : k = ms.length := by omega
          have HS := Lib.hid (stI_all ms m)
          generalize stI ms m ms.length = st at ho hle HS ⊢
          obtain ⟨L, put⟩ := st
          simp only at ho hle
          obtain ⟨A1, c1', rfl, hc1, hc2⟩ := ho.form
          cases put with
          | true =>
            go_wp2_with fail
            go_ret2
            rw [HFIN.out]
            exact ⟨⟨_, rfl, by rw [HS.out]; exact ho.less (by omega)⟩, hb⟩
          | false =>
            have e0 : wr.cell? ⟨w.heap.size, 0, none⟩ = some (.int .i64 m.p.toInt) := hbk.cell 0
            have e1 : wr.cell? ⟨w.heap.size, 1, none⟩ = some (.int .u64 (m.s.toNat : Int)) := hbk.cell 1
            have e2 : wr.cell? ⟨w.heap.size, 2, none⟩ = some (.int .u64 (m.o.toNat : Int)) := hbk.cell 2
            have hrow := Mk.row_one [m]
            have hnew := Marks.new wr 38 [m] #[.int .i64 m.p.toInt, .int .u64 (m.s.toNat : Int), .int .u64 (m.o.toNat : Int)] (0, 0) rfl
            have ho2 := ho.alloc (.cells #[.int .i64 m.p.toInt, .int .u64 (m.s.toNat : Int), .int .u64 (m.o.toNat : Int)] 38)
            go_wp2_with (first
              | (at_builtin; refine app_list marks_ty rfl rfl ho2 rfl hnew rfl hrow (by simp; omega) (by simp; omega) ?_; intro v1 w1 hown1 hg1 _))
            go_ret2
            rw [HFIN.out]
            exact ⟨⟨_, rfl, by rw [HS.out]; exact (OwnM.snoc (w := wr) hown1 rfl).less (by omega)⟩, (hb.alloc hb.size _).grown hg1 (by have := hb.size; simp; omega) (fun j hj => by have := own_ge ho2 j hj; omega)⟩
  | none =>
    rw [hl] at HLAST
    by_cases hs : 6 ≤ ms.length
    · have HFIN : Hid (r = none) := by
        show _ = _
        rw [hr, goR, hl]; simp [hs]
      clear hr hl
      go_enter Try.func46, Try.ntmps46
      go_wp2_with fail
      refine HLAST.out.mono ?_
      rintro e w1 ⟨rfl, hb1⟩
      rw [lastV_none]
      have hbw1 : Below w.heap.size w w1 := below_call (below_new _ _) (by simp) hb1
      go_wp2_with fail
      go_ret2
      rw [HFIN.out]
      exact ⟨rfl, hbw1.alloc hbw1.size _⟩
    · have HFIN : Hid (r = some (insR ms m)) := by
        show _ = _
        rw [hr, goR, hl]; simp [hs]
      clear hr hl
      go_enter Try.func46, Try.ntmps46
      go_wp2_with fail
      refine HLAST.out.mono ?_
      rintro e w1 ⟨rfl, hb1⟩
      rw [lastV_none]
      have hbk1 := (Blk.new w 38 #[.int .i64 m.p.toInt, .int .u64 (m.s.toNat : Int), .int .u64 (m.o.toNat : Int)]).below hb1 (by simp)
      have hbw1 : Below w.heap.size w w1 := below_call (below_new _ _) (by simp) hb1
      have g0 : (w1.alloc (.cells #[.int .i64 0, .int .u64 0, .int .u64 0] 38)).cell? ⟨w.heap.size, 0, none⟩ = some (.int .i64 m.p.toInt) := (hbk1.alloc _).cell 0
      have g1 : (w1.alloc (.cells #[.int .i64 0, .int .u64 0, .int .u64 0] 38)).cell? ⟨w.heap.size, 1, none⟩ = some (.int .u64 (m.s.toNat : Int)) := (hbk1.alloc _).cell 1
      have g2 : (w1.alloc (.cells #[.int .i64 0, .int .u64 0, .int .u64 0] 38)).cell? ⟨w.heap.size, 2, none⟩ = some (.int .u64 (m.o.toNat : Int)) := (hbk1.alloc _).cell 2
      have hne1 : w.heap.size ≠ w1.heap.size := by have := hbk1.lt; omega
      go_wp2_with fail
      clear g0 g1 g2 HLAST
      go_loopw [6, 7, 10] (fun v put i wr => ∃ k : Nat, k ≤ ms.length ∧ i = .int .i64 k ∧ put = .bool (stI ms m k).2 ∧ Below w.heap.size w wr ∧ Blk wr w.heap.size 38 #[.int .i64 m.p.toInt, .int .u64 (m.s.toNat : Int), .int .u64 (m.o.toNat : Int)] ∧ OwnM wr (w.heap.size + 1) v (stI ms m k).1) (fun _ _ i _ => ms.length - (intOf i).toNat)
      case atStart => exact ⟨0, by omega, rfl, rfl, hbw1.alloc hbw1.size _, hbk1.alloc _, OwnM.nil_ _ _⟩
      case round =>
        obtain ⟨k, hk, rfl, rfl, hb, hbk, ho⟩ := hrel
        have hle := stI_len ms m k hk
        have hbs : w.heap.size + 1 ≤ wr.heap.size := hbk.lt
        by_cases hlt : k < ms.length
        · obtain ⟨b, o, rfl, had, c0, c1, c2⟩ := hA.at_ hlt
          have C0 := Lib.hid c0
          have C1 := Lib.hid c1
          have C2 := Lib.hid c2
          clear c0 c1 c2
          have HS := Lib.hid (stI_succ ms m k hlt)
          have hlt' : (k : Int) < (ms.length : Int) := by omega
          have hne : b ≠ w.heap.size := by omega
          generalize ms[k] = x at C0 C1 C2 HS
          generalize stI ms m k = st at ho hle HS ⊢
          obtain ⟨L, put⟩ := st
          simp only at ho hle
          obtain ⟨A1, c1', rfl, hc1, hc2⟩ := ho.form
          have c0 := (hb.cell (p := ⟨b, o + k * 3, none⟩) had).trans C0.out
          have e0 : wr.cell? ⟨w.heap.size, 0, none⟩ = some (.int .i64 m.p.toInt) := hbk.cell 0
          have e1 : wr.cell? ⟨w.heap.size, 1, none⟩ = some (.int .u64 (m.s.toNat : Int)) := hbk.cell 1
          have e2 : wr.cell? ⟨w.heap.size, 2, none⟩ = some (.int .u64 (m.o.toNat : Int)) := hbk.cell 2
          cases put with
          | true =>
            by_cases hx : x.p.toInt = m.p.toInt
            · have HE : Hid (stI ms m (k + 1) = (L, true)) := by
                show _ = _
                rw [HS.out]; simp [stepI, hx]
              have hx' : (x.p.toInt != m.p.toInt) = false := by simp [hx]
              have HX := Lib.hid hx'
              clear hx hx'
              go_wp2_with fail
              refine PF.pf_begin (by kernel_rfl) ?_
              refine PF.pf_take0 0 (by kernel_rfl) rfl (fun _ _ _ _ _ h => h) (by kernel_rfl) (fun u => by go_simp; try rfl) ?_
              try simp only [Act.put, pz0, pz1, pz2]
              refine PF.pf_take0 1 (by kernel_rfl) rfl (fun _ _ _ _ _ h => h) (by kernel_rfl) (fun u => by go_simp; try rfl) ?_
              try simp only [Act.put, pz0, pz1, pz2]
              refine PF.pf_take0 2 (by kernel_rfl) rfl (fun _ _ _ _ _ h => h) (by kernel_rfl) (fun u => by go_simp; try rfl) ?_
              try simp only [Act.put, pz0, pz1, pz2]
              refine PF.pf_skip0 3 (by kernel_rfl) rfl (fun _ _ _ _ _ h => h) (by kernel_rfl) ?_
              try simp only [Act.put, pz0, pz1, pz2]
              refine PF.pf_skip0 4 (by kernel_rfl) rfl (fun _ _ _ _ _ h => h) (by kernel_rfl) ?_
              try simp only [Act.put, pz0, pz1, pz2]
              refine PF.pf_skip0 5 (by kernel_rfl) rfl (fun _ _ _ _ _ h => h) (by kernel_rfl) ?_
              try simp only [Act.put, pz0, pz1, pz2]
              refine PF.pf_skip0 6 (by kernel_rfl) rfl (fun _ _ _ _ _ h => h) (by kernel_rfl) ?_
              try simp only [Act.put, pz0, pz1, pz2]
              refine PF.pf_skip0 7 (by kernel_rfl) rfl (fun _ _ _ _ _ h => h) (by kernel_rfl) ?_
              try simp only [Act.put, pz0, pz1, pz2]
              refine PF.pf_skip0 8 (by kernel_rfl) rfl (fun _ _ _ _ _ h => h) (by kernel_rfl) ?_
              try simp only [Act.put, pz0, pz1, pz2]
              refine PF.pf_skip0 9 (by kernel_rfl) rfl (fun _ _ _ _ _ h => h) (by kernel_rfl) ?_
              try simp only [Act.put, pz0, pz1, pz2]
              refine PF.pf_skip0 10 (by kernel_rfl) rfl (fun _ _ _ _ _ h => h) (by kernel_rfl) ?_
              try simp only [Act.put, pz0, pz1, pz2]
              refine PF.pf_take0 11 (by kernel_rfl) rfl (fun _ _ _ _ _ h => h) (by kernel_rfl) (fun u => by go_simp; try rfl) ?_
              try simp only [Act.put, pz0, pz1, pz2]
              refine PF.pf_done (by kernel_rfl) ?_
              go_wp2_with fail
              refine PF.pf_begin (by kernel_rfl) ?_
              refine PF.pf_take0 0 (by kernel_rfl) rfl (fun _ _ _ _ _ h => h) (by kernel_rfl) (fun u => by go_simp; try rfl) ?_
              try simp only [Act.put, pz0, pz1, pz2]
              refine PF.pf_take0 1 (by kernel_rfl) rfl (fun _ _ _ _ _ h => h) (by kernel_rfl) (fun u => by go_simp; try rfl) ?_
              try simp only [Act.put, pz0, pz1, pz2]
              refine PF.pf_take0 2 (by kernel_rfl) rfl (fun _ _ _ _ _ h => h) (by kernel_rfl) (fun u => by go_simp; try rfl) ?_
              try simp only [Act.put, pz0, pz1, pz2]
              refine PF.pf_take0 3 (by kernel_rfl) rfl (fun _ _ _ _ _ h => h) (by kernel_rfl) (fun u => by go_simp; try rfl) ?_
              try simp only [Act.put, pz0, pz1, pz2]
              refine PF.pf_take1 4 (PF.Same (b) _) (by kernel_rfl) rfl (fun _ _ _ _ _ h => h) (by kernel_rfl) (PF.Same.refl _ _) (fun u hu => by have hcu := hu.cell; go_simp; try rfl) ?_
              try simp only [Act.put, pz0, pz1, pz2]
              refine PF.pf_take0 5 (by kernel_rfl) rfl (fun _ _ _ _ _ h => h) (by kernel_rfl) (fun u => by go_simp; try rfl) ?_
              try simp only [Act.put, pz0, pz1, pz2]
              refine PF.pf_take1 6 (PF.Same (w.heap.size) _) (by kernel_rfl) rfl (fun _ _ _ _ _ h => h) (by kernel_rfl) (PF.Same.refl _ _) (fun u hu => by have hcu := hu.cell; go_simp; try rfl) ?_
              try simp only [Act.put, pz0, pz1, pz2]
              refine PF.pf_take0 7 (by kernel_rfl) rfl (fun _ _ _ _ _ h => h) (by kernel_rfl) (fun u => by go_simp; try rfl) ?_
              try simp only [Act.put, pz0, pz1, pz2]
              refine PF.pf_done (by kernel_rfl) ?_
              rw [HX.out]
              go_wp2_with fail
              go_roundw
              case rel => exact ⟨k + 1, by omega, by go_num, by rw [HE.out], hb.drew.drew, hbk.drew.drew, by rw [HE.out]; exact ho.drew.drew⟩
              case measure => simp [intOf]; omega
            · have HE : Hid (stI ms m (k + 1) = (L ++ [x], true)) := by
                show _ = _
                rw [HS.out]; simp [stepI, hx]
              have hx' : (x.p.toInt != m.p.toInt) = true := by simpa using hx
              have HX := Lib.hid hx'
              clear hx hx'
              go_wp2_with fail
              refine PF.pf_begin (by kernel_rfl) ?_
              refine PF.pf_take0 0 (by kernel_rfl) rfl (fun _ _ _ _ _ h => h) (by kernel_rfl) (fun u => by go_simp; try rfl) ?_
              try simp only [Act.put, pz0, pz1, pz2]
              refine PF.pf_take0 1 (by kernel_rfl) rfl (fun _ _ _ _ _ h => h) (by kernel_rfl) (fun u => by go_simp; try rfl) ?_
              try simp only [Act.put, pz0, pz1, pz2]
              refine PF.pf_take0 2 (by kernel_rfl) rfl (fun _ _ _ _ _ h => h) (by kernel_rfl) (fun u => by go_simp; try rfl) ?_
              try simp only [Act.put, pz0, pz1, pz2]
              refine PF.pf_skip0 3 (by kernel_rfl) rfl (fun _ _ _ _ _ h => h) (by kernel_rfl) ?_
              try simp only [Act.put, pz0, pz1, pz2]
              refine PF.pf_skip0 4 (by kernel_rfl) rfl (fun _ _ _ _ _ h => h) (by kernel_rfl) ?_
              try simp only [Act.put, pz0, pz1, pz2]
              refine PF.pf_skip0 5 (by kernel_rfl) rfl (fun _ _ _ _ _ h => h) (by kernel_rfl) ?_
              try simp only [Act.put, pz0, pz1, pz2]
              refine PF.pf_skip0 6 (by kernel_rfl) rfl (fun _ _ _ _ _ h => h) (by kernel_rfl) ?_
              try simp only [Act.put, pz0, pz1, pz2]
              refine PF.pf_skip0 7 (by kernel_rfl) rfl (fun _ _ _ _ _ h => h) (by kernel_rfl) ?_
              try simp only [Act.put, pz0, pz1, pz2]
              refine PF.pf_skip0 8 (by kernel_rfl) rfl (fun _ _ _ _ _ h => h) (by kernel_rfl) ?_
              try simp only [Act.put, pz0, pz1, pz2]
              refine PF.pf_skip0 9 (by kernel_rfl) rfl (fun _ _ _ _ _ h => h) (by kernel_rfl) ?_
              try simp only [Act.put, pz0, pz1, pz2]
              refine PF.pf_skip0 10 (by kernel_rfl) rfl (fun _ _ _ _ _ h => h) (by kernel_rfl) ?_
              try simp only [Act.put, pz0, pz1, pz2]
              refine PF.pf_take0 11 (by kernel_rfl) rfl (fun _ _ _ _ _ h => h) (by kernel_rfl) (fun u => by go_simp; try rfl) ?_
              try simp only [Act.put, pz0, pz1, pz2]
              refine PF.pf_done (by kernel_rfl) ?_
              go_wp2_with fail
              refine PF.pf_begin (by kernel_rfl) ?_
              refine PF.pf_take0 0 (by kernel_rfl) rfl (fun _ _ _ _ _ h => h) (by kernel_rfl) (fun u => by go_simp; try rfl) ?_
              try simp only [Act.put, pz0, pz1, pz2]
              refine PF.pf_take0 1 (by kernel_rfl) rfl (fun _ _ _ _ _ h => h) (by kernel_rfl) (fun u => by go_simp; try rfl) ?_
              try simp only [Act.put, pz0, pz1, pz2]
              refine PF.pf_take0 2 (by kernel_rfl) rfl (fun _ _ _ _ _ h => h) (by kernel_rfl) (fun u => by go_simp; try rfl) ?_
              try simp only [Act.put, pz0, pz1, pz2]
              refine PF.pf_take0 3 (by kernel_rfl) rfl (fun _ _ _ _ _ h => h) (by kernel_rfl) (fun u => by go_simp; try rfl) ?_
              try simp only [Act.put, pz0, pz1, pz2]
              refine PF.pf_take1 4 (PF.Same (b) _) (by kernel_rfl) rfl (fun _ _ _ _ _ h => h) (by kernel_rfl) (PF.Same.refl _ _) (fun u hu => by have hcu := hu.cell; go_simp; try rfl) ?_
              try simp only [Act.put, pz0, pz1, pz2]
              refine PF.pf_take0 5 (by kernel_rfl) rfl (fun _ _ _ _ _ h => h) (by kernel_rfl) (fun u => by go_simp; try rfl) ?_
              try simp only [Act.put, pz0, pz1, pz2]
              refine PF.pf_take1 6 (PF.Same (w.heap.size) _) (by kernel_rfl) rfl (fun _ _ _ _ _ h => h) (by kernel_rfl) (PF.Same.refl _ _) (fun u hu => by have hcu := hu.cell; go_simp; try rfl) ?_
              try simp only [Act.put, pz0, pz1, pz2]
              refine PF.pf_take0 7 (by kernel_rfl) rfl (fun _ _ _ _ _ h => h) (by kernel_rfl) (fun u => by go_simp; try rfl) ?_
              try simp only [Act.put, pz0, pz1, pz2]
              refine PF.pf_done (by kernel_rfl) ?_
              rw [HX.out]
              have d0 : wr.drew.drew.cell? ⟨b, o + k * 3, none⟩ = some (.int .i64 x.p.toInt) := c0
              have d1 : wr.drew.drew.cell? ⟨b, o + k * 3 + 1, none⟩ = some (.int .u64 (x.s.toNat : Int)) := (hb.cell (p := ⟨b, o + k * 3 + 1, none⟩) had).trans C1.out
              have d2 : wr.drew.drew.cell? ⟨b, o + k * 3 + 2, none⟩ = some (.int .u64 (x.o.toNat : Int)) := (hb.cell (p := ⟨b, o + k * 3 + 2, none⟩) had).trans C2.out
              have hbW : Below w.heap.size w wr.drew.drew := hb.drew.drew
              have hbkW : Blk wr.drew.drew w.heap.size 38 #[.int .i64 m.p.toInt, .int .u64 (m.s.toNat : Int), .int .u64 (m.o.toNat : Int)] := hbk.drew.drew
              have hoW : OwnM wr.drew.drew (w.heap.size + 1) _ L := ho.drew.drew
              clear c0 e0
              generalize wr.drew.drew = wa at d0 d1 d2 hbW hbkW hoW ⊢
              have hbs3 : w.heap.size + 1 ≤ wa.heap.size := hbkW.lt
              have hrow2 := Mk.row_one [x]
              have hnew2 := Marks.new wa 38 [x] #[.int .i64 x.p.toInt, .int .u64 (x.s.toNat : Int), .int .u64 (x.o.toNat : Int)] (0, 0) rfl
              have ho4 := hoW.alloc (.cells #[.int .i64 x.p.toInt, .int .u64 (x.s.toNat : Int), .int .u64 (x.o.toNat : Int)] 38)
              go_wp2_with (first
                | (at_builtin; refine app_list marks_ty rfl rfl ho4 rfl hnew2 rfl hrow2 (by simp; omega) (by simp; omega) ?_; intro v2 w2 hown1 hg2 _))
              have hb2 : Below w.heap.size w w2 := (hbW.alloc hbW.size _).grown hg2 (by have := hbW.size; simp; omega) (fun j hj => by have := own_ge ho4 j hj; omega)
              have hbk2 : Blk w2 w.heap.size 38 #[.int .i64 m.p.toInt, .int .u64 (m.s.toNat : Int), .int .u64 (m.o.toNat : Int)] := (hbkW.alloc _).grown hg2 (fun h => by have := own_ge ho4 _ h.symm; omega)
              go_roundw
              case rel => exact ⟨k + 1, by omega, by go_num, by rw [HE.out], hb2, hbk2, by rw [HE.out]; exact OwnM.snoc (w := wr) hown1 rfl⟩
              case measure => simp [intOf]; omega
          | false =>
            by_cases hge : m.p.toInt ≤ x.p.toInt
            · have hrow := Mk.row_one [m]
              have hnew := Marks.new wr.drew 38 [m] #[.int .i64 m.p.toInt, .int .u64 (m.s.toNat : Int), .int .u64 (m.o.toNat : Int)] (0, 0) rfl
              have ho2 := (OwnM.drew ho).alloc (.cells #[.int .i64 m.p.toInt, .int .u64 (m.s.toNat : Int), .int .u64 (m.o.toNat : Int)] 38)
              have hd : decide (m.p.toInt ≤ x.p.toInt) = true := by simpa using hge
              have HGE := Lib.hid hge
              have HD := Lib.hid hd
              clear hge hd
              go_wp2_with fail
              refine PF.pf_begin (by kernel_rfl) ?_
              refine PF.pf_take0 0 (by kernel_rfl) rfl (fun _ _ _ _ _ h => h) (by kernel_rfl) (fun u => by go_simp; try rfl) ?_
              try simp only [Act.put, pz0, pz1, pz2]
              refine PF.pf_take0 1 (by kernel_rfl) rfl (fun _ _ _ _ _ h => h) (by kernel_rfl) (fun u => by go_simp; try rfl) ?_
              try simp only [Act.put, pz0, pz1, pz2]
              refine PF.pf_take0 2 (by kernel_rfl) rfl (fun _ _ _ _ _ h => h) (by kernel_rfl) (fun u => by go_simp; try rfl) ?_
              try simp only [Act.put, pz0, pz1, pz2]
              refine PF.pf_take0 3 (by kernel_rfl) rfl (fun _ _ _ _ _ h => h) (by kernel_rfl) (fun u => by go_simp; try rfl) ?_
              try simp only [Act.put, pz0, pz1, pz2]
              refine PF.pf_take0 4 (by kernel_rfl) rfl (fun _ _ _ _ _ h => h) (by kernel_rfl) (fun u => by go_simp; try rfl) ?_
              try simp only [Act.put, pz0, pz1, pz2]
              refine PF.pf_take0 5 (by kernel_rfl) rfl (fun _ _ _ _ _ h => h) (by kernel_rfl) (fun u => by go_simp; try rfl) ?_
              try simp only [Act.put, pz0, pz1, pz2]
              refine PF.pf_take0 6 (by kernel_rfl) rfl (fun _ _ _ _ _ h => h) (by kernel_rfl) (fun u => by go_simp; try rfl) ?_
              try simp only [Act.put, pz0, pz1, pz2]
              refine PF.pf_take1 7 (PF.Same (b) _) (by kernel_rfl) rfl (fun _ _ _ _ _ h => h) (by kernel_rfl) (PF.Same.refl _ _) (fun u hu => by have hcu := hu.cell; go_simp; try rfl) ?_
              try simp only [Act.put, pz0, pz1, pz2]
              refine PF.pf_take0 8 (by kernel_rfl) rfl (fun _ _ _ _ _ h => h) (by kernel_rfl) (fun u => by go_simp; try rfl) ?_
              try simp only [Act.put, pz0, pz1, pz2]
              refine PF.pf_take1 9 (PF.Same (w.heap.size) _) (by kernel_rfl) rfl (fun _ _ _ _ _ h => h) (by kernel_rfl) (PF.Same.refl _ _) (fun u hu => by have hcu := hu.cell; go_simp; try rfl) ?_
              try simp only [Act.put, pz0, pz1, pz2]
              refine PF.pf_take0 10 (by kernel_rfl) rfl (fun _ _ _ _ _ h => h) (by kernel_rfl) (fun u => by go_simp; try rfl) ?_
              try simp only [Act.put, pz0, pz1, pz2]
              refine PF.pf_take0 11 (by kernel_rfl) rfl (fun _ _ _ _ _ h => h) (by kernel_rfl) (fun u => by go_simp; try rfl) ?_
              try simp only [Act.put, pz0, pz1, pz2]
              refine PF.pf_done (by kernel_rfl) ?_
              rw [HD.out]
              go_wp2_with (first
                | (at_builtin; refine app_list marks_ty rfl rfl ho2 rfl hnew rfl hrow (by simp; omega) (by simp; omega) ?_; intro v1 w1 hown1 hg1 _))
              have hb2 : Below w.heap.size w w1 := (hb.drew.alloc hb.size _).grown hg1 (by have := hb.size; simp; omega) (fun j hj => by have := own_ge ho2 j hj; omega)
              have hbk2 : Blk w1 w.heap.size 38 #[.int .i64 m.p.toInt, .int .u64 (m.s.toNat : Int), .int .u64 (m.o.toNat : Int)] := (hbk.drew.alloc _).grown hg1 (fun h => by have := own_ge ho2 _ h.symm; omega)
              have ho3 : OwnM w1 (w.heap.size + 1) v1 (L ++ [m]) := OwnM.snoc (w := wr) hown1 rfl
              clear c0 e0 e1 e2 hb hbk ho2 hg1 hown1 hnew hc1 hc2
              have hbs2 : w.heap.size + 1 ≤ w1.heap.size := hbk2.lt
              obtain ⟨A2, c2', rfl, hc1, hc2⟩ := ho3.form
              have c0 := (hb2.cell (p := ⟨b, o + k * 3, none⟩) had).trans C0.out
              have e0 : w1.cell? ⟨w.heap.size, 0, none⟩ = some (.int .i64 m.p.toInt) := hbk2.cell 0
              by_cases hx : x.p.toInt = m.p.toInt
              · have HE : Hid (stI ms m (k + 1) = (L ++ [m], true)) := by
                  show _ = _
                  rw [HS.out]; simp [stepI, hx]
                have hx' : (x.p.toInt != m.p.toInt) = false := by simp [hx]
                have HX := Lib.hid hx'
                clear hx hx'
                go_wp2_with fail
                refine PF.pf_begin (by kernel_rfl) ?_
                refine PF.pf_take0 0 (by kernel_rfl) rfl (fun _ _ _ _ _ h => h) (by kernel_rfl) (fun u => by go_simp; try rfl) ?_
                try simp only [Act.put, pz0, pz1, pz2]
                refine PF.pf_take0 1 (by kernel_rfl) rfl (fun _ _ _ _ _ h => h) (by kernel_rfl) (fun u => by go_simp; try rfl) ?_
                try simp only [Act.put, pz0, pz1, pz2]
                refine PF.pf_take0 2 (by kernel_rfl) rfl (fun _ _ _ _ _ h => h) (by kernel_rfl) (fun u => by go_simp; try rfl) ?_
                try simp only [Act.put, pz0, pz1, pz2]
                refine PF.pf_take0 3 (by kernel_rfl) rfl (fun _ _ _ _ _ h => h) (by kernel_rfl) (fun u => by go_simp; try rfl) ?_
                try simp only [Act.put, pz0, pz1, pz2]
                refine PF.pf_take1 4 (PF.Same (b) _) (by kernel_rfl) rfl (fun _ _ _ _ _ h => h) (by kernel_rfl) (PF.Same.refl _ _) (fun u hu => by have hcu := hu.cell; go_simp; try rfl) ?_
                try simp only [Act.put, pz0, pz1, pz2]
                refine PF.pf_take0 5 (by kernel_rfl) rfl (fun _ _ _ _ _ h => h) (by kernel_rfl) (fun u => by go_simp; try rfl) ?_
                try simp only [Act.put, pz0, pz1, pz2]
                refine PF.pf_take1 6 (PF.Same (w.heap.size) _) (by kernel_rfl) rfl (fun _ _ _ _ _ h => h) (by kernel_rfl) (PF.Same.refl _ _) (fun u hu => by have hcu := hu.cell; go_simp; try rfl) ?_
                try simp only [Act.put, pz0, pz1, pz2]
                refine PF.pf_take0 7 (by kernel_rfl) rfl (fun _ _ _ _ _ h => h) (by kernel_rfl) (fun u => by go_simp; try rfl) ?_
                try simp only [Act.put, pz0, pz1, pz2]
                refine PF.pf_done (by kernel_rfl) ?_
                rw [HX.out]
                go_wp2_with fail
                go_roundw
                case rel => exact ⟨k + 1, by omega, by go_num, by rw [HE.out], hb2.drew, hbk2.drew, by rw [HE.out]; exact ho3.drew⟩
                case measure => simp [intOf]; omega
              · have HE : Hid (stI ms m (k + 1) = (L ++ [m] ++ [x], true)) := by
                  show _ = _
                  rw [HS.out]; simp [stepI, hx, HGE.out]
                have hx' : (x.p.toInt != m.p.toInt) = true := by simpa using hx
                have HX := Lib.hid hx'
                clear hx hx'
                have hl2 : (L ++ [m]).length ≤ 2 * k + 1 := by simp; omega
                generalize L ++ [m] = L2 at ho3 hc1 HE hl2 ⊢
                go_wp2_with fail
                refine PF.pf_begin (by kernel_rfl) ?_
                refine PF.pf_take0 0 (by kernel_rfl) rfl (fun _ _ _ _ _ h => h) (by kernel_rfl) (fun u => by go_simp; try rfl) ?_
                try simp only [Act.put, pz0, pz1, pz2]
                refine PF.pf_take0 1 (by kernel_rfl) rfl (fun _ _ _ _ _ h => h) (by kernel_rfl) (fun u => by go_simp; try rfl) ?_
                try simp only [Act.put, pz0, pz1, pz2]
                refine PF.pf_take0 2 (by kernel_rfl) rfl (fun _ _ _ _ _ h => h) (by kernel_rfl) (fun u => by go_simp; try rfl) ?_
                try simp only [Act.put, pz0, pz1, pz2]
                refine PF.pf_take0 3 (by kernel_rfl) rfl (fun _ _ _ _ _ h => h) (by kernel_rfl) (fun u => by go_simp; try rfl) ?_
                try simp only [Act.put, pz0, pz1, pz2]
                refine PF.pf_take1 4 (PF.Same (b) _) (by kernel_rfl) rfl (fun _ _ _ _ _ h => h) (by kernel_rfl) (PF.Same.refl _ _) (fun u hu => by have hcu := hu.cell; go_simp; try rfl) ?_
                try simp only [Act.put, pz0, pz1, pz2]
                refine PF.pf_take0 5 (by kernel_rfl) rfl (fun _ _ _ _ _ h => h) (by kernel_rfl) (fun u => by go_simp; try rfl) ?_
                try simp only [Act.put, pz0, pz1, pz2]
                refine PF.pf_take1 6 (PF.Same (w.heap.size) _) (by kernel_rfl) rfl (fun _ _ _ _ _ h => h) (by kernel_rfl) (PF.Same.refl _ _) (fun u hu => by have hcu := hu.cell; go_simp; try rfl) ?_
                try simp only [Act.put, pz0, pz1, pz2]
                refine PF.pf_take0 7 (by kernel_rfl) rfl (fun _ _ _ _ _ h => h) (by kernel_rfl) (fun u => by go_simp; try rfl) ?_
                try simp only [Act.put, pz0, pz1, pz2]
                refine PF.pf_done (by kernel_rfl) ?_
                rw [HX.out]
                have d0 : w1.drew.cell? ⟨b, o + k * 3, none⟩ = some (.int .i64 x.p.toInt) := c0
                have d1 : w1.drew.cell? ⟨b, o + k * 3 + 1, none⟩ = some (.int .u64 (x.s.toNat : Int)) := (hb2.cell (p := ⟨b, o + k * 3 + 1, none⟩) had).trans C1.out
                have d2 : w1.drew.cell? ⟨b, o + k * 3 + 2, none⟩ = some (.int .u64 (x.o.toNat : Int)) := (hb2.cell (p := ⟨b, o + k * 3 + 2, none⟩) had).trans C2.out
                have hbW : Below w.heap.size w w1.drew := hb2.drew
                have hbkW : Blk w1.drew w.heap.size 38 #[.int .i64 m.p.toInt, .int .u64 (m.s.toNat : Int), .int .u64 (m.o.toNat : Int)] := hbk2.drew
                have hoW : OwnM w1.drew (w.heap.size + 1) _ L2 := ho3.drew
                clear c0 e0
                generalize w1.drew = wa at d0 d1 d2 hbW hbkW hoW ⊢
                have hbs3 : w.heap.size + 1 ≤ wa.heap.size := hbkW.lt
                have hrow2 := Mk.row_one [x]
                have hnew2 := Marks.new wa 38 [x] #[.int .i64 x.p.toInt, .int .u64 (x.s.toNat : Int), .int .u64 (x.o.toNat : Int)] (0, 0) rfl
                have ho4 := hoW.alloc (.cells #[.int .i64 x.p.toInt, .int .u64 (x.s.toNat : Int), .int .u64 (x.o.toNat : Int)] 38)
                go_wp2_with (first
                  | (at_builtin; refine app_list marks_ty rfl rfl ho4 rfl hnew2 rfl hrow2 (by simp; omega) (by simp; omega) ?_; intro v2 w2 hown1 hg2 _))
                have hb2 : Below w.heap.size w w2 := (hbW.alloc hbW.size _).grown hg2 (by have := hbW.size; simp; omega) (fun j hj => by have := own_ge ho4 j hj; omega)
                have hbk2 : Blk w2 w.heap.size 38 #[.int .i64 m.p.toInt, .int .u64 (m.s.toNat : Int), .int .u64 (m.o.toNat : Int)] := (hbkW.alloc _).grown hg2 (fun h => by have := own_ge ho4 _ h.symm; omega)
                go_roundw
                case rel => exact ⟨k + 1, by omega, by go_num, by rw [HE.out], hb2, hbk2, by rw [HE.out]; exact OwnM.snoc (w := wr) hown1 rfl⟩
                case measure => simp [intOf]; omega
            · have hd : decide (m.p.toInt ≤ x.p.toInt) = false := by simpa using hge
              have hx' : (x.p.toInt != m.p.toInt) = true := by rw [bne_iff_ne]; omega
              have HE : Hid (stI ms m (k + 1) = (L ++ [x], false)) := by
                show _ = _
                rw [HS.out]; simp [stepI, hge, show ¬ x.p.toInt = m.p.toInt by omega]
              have HX := Lib.hid hx'
              have HD := Lib.hid hd
              clear hge hd hx'
              go_wp2_with fail
              refine PF.pf_begin (by kernel_rfl) ?_
              refine PF.pf_take0 0 (by kernel_rfl) rfl (fun _ _ _ _ _ h => h) (by kernel_rfl) (fun u => by go_simp; try rfl) ?_
              try simp only [Act.put, pz0, pz1, pz2]
              refine PF.pf_take0 1 (by kernel_rfl) rfl (fun _ _ _ _ _ h => h) (by kernel_rfl) (fun u => by go_simp; try rfl) ?_
              try simp only [Act.put, pz0, pz1, pz2]
              refine PF.pf_take0 2 (by kernel_rfl) rfl (fun _ _ _ _ _ h => h) (by kernel_rfl) (fun u => by go_simp; try rfl) ?_
              try simp only [Act.put, pz0, pz1, pz2]
              refine PF.pf_take0 3 (by kernel_rfl) rfl (fun _ _ _ _ _ h => h) (by kernel_rfl) (fun u => by go_simp; try rfl) ?_
              try simp only [Act.put, pz0, pz1, pz2]
              refine PF.pf_take0 4 (by kernel_rfl) rfl (fun _ _ _ _ _ h => h) (by kernel_rfl) (fun u => by go_simp; try rfl) ?_
              try simp only [Act.put, pz0, pz1, pz2]
              refine PF.pf_take0 5 (by kernel_rfl) rfl (fun _ _ _ _ _ h => h) (by kernel_rfl) (fun u => by go_simp; try rfl) ?_
              try simp only [Act.put, pz0, pz1, pz2]
              refine PF.pf_take0 6 (by kernel_rfl) rfl (fun _ _ _ _ _ h => h) (by kernel_rfl) (fun u => by go_simp; try rfl) ?_
              try simp only [Act.put, pz0, pz1, pz2]
              refine PF.pf_take1 7 (PF.Same (b) _) (by kernel_rfl) rfl (fun _ _ _ _ _ h => h) (by kernel_rfl) (PF.Same.refl _ _) (fun u hu => by have hcu := hu.cell; go_simp; try rfl) ?_
              try simp only [Act.put, pz0, pz1, pz2]
              refine PF.pf_take0 8 (by kernel_rfl) rfl (fun _ _ _ _ _ h => h) (by kernel_rfl) (fun u => by go_simp; try rfl) ?_
              try simp only [Act.put, pz0, pz1, pz2]
              refine PF.pf_take1 9 (PF.Same (w.heap.size) _) (by kernel_rfl) rfl (fun _ _ _ _ _ h => h) (by kernel_rfl) (PF.Same.refl _ _) (fun u hu => by have hcu := hu.cell; go_simp; try rfl) ?_
              try simp only [Act.put, pz0, pz1, pz2]
              refine PF.pf_take0 10 (by kernel_rfl) rfl (fun _ _ _ _ _ h => h) (by kernel_rfl) (fun u => by go_simp; try rfl) ?_
              try simp only [Act.put, pz0, pz1, pz2]
              refine PF.pf_take0 11 (by kernel_rfl) rfl (fun _ _ _ _ _ h => h) (by kernel_rfl) (fun u => by go_simp; try rfl) ?_
              try simp only [Act.put, pz0, pz1, pz2]
              refine PF.pf_done (by kernel_rfl) ?_
              rw [HD.out]
              go_wp2_with fail
              refine PF.pf_begin (by kernel_rfl) ?_
              refine PF.pf_take0 0 (by kernel_rfl) rfl (fun _ _ _ _ _ h => h) (by kernel_rfl) (fun u => by go_simp; try rfl) ?_
              try simp only [Act.put, pz0, pz1, pz2]
              refine PF.pf_take0 1 (by kernel_rfl) rfl (fun _ _ _ _ _ h => h) (by kernel_rfl) (fun u => by go_simp; try rfl) ?_
              try simp only [Act.put, pz0, pz1, pz2]
              refine PF.pf_take0 2 (by kernel_rfl) rfl (fun _ _ _ _ _ h => h) (by kernel_rfl) (fun u => by go_simp; try rfl) ?_
              try simp only [Act.put, pz0, pz1, pz2]
              refine PF.pf_take0 3 (by kernel_rfl) rfl (fun _ _ _ _ _ h => h) (by kernel_rfl) (fun u => by go_simp; try rfl) ?_
              try simp only [Act.put, pz0, pz1, pz2]
              refine PF.pf_take1 4 (PF.Same (b) _) (by kernel_rfl) rfl (fun _ _ _ _ _ h => h) (by kernel_rfl) (PF.Same.refl _ _) (fun u hu => by have hcu := hu.cell; go_simp; try rfl) ?_
              try simp only [Act.put, pz0, pz1, pz2]
              refine PF.pf_take0 5 (by kernel_rfl) rfl (fun _ _ _ _ _ h => h) (by kernel_rfl) (fun u => by go_simp; try rfl) ?_
              try simp only [Act.put, pz0, pz1, pz2]
              refine PF.pf_take1 6 (PF.Same (w.heap.size) _) (by kernel_rfl) rfl (fun _ _ _ _ _ h => h) (by kernel_rfl) (PF.Same.refl _ _) (fun u hu => by have hcu := hu.cell; go_simp; try rfl) ?_
              try simp only [Act.put, pz0, pz1, pz2]
              refine PF.pf_take0 7 (by kernel_rfl) rfl (fun _ _ _ _ _ h => h) (by kernel_rfl) (fun u => by go_simp; try rfl) ?_
              try simp only [Act.put, pz0, pz1, pz2]
              refine PF.pf_done (by kernel_rfl) ?_
              rw [HX.out]
              have d0 : wr.drew.drew.cell? ⟨b, o + k * 3, none⟩ = some (.int .i64 x.p.toInt) := c0
              have d1 : wr.drew.drew.cell? ⟨b, o + k * 3 + 1, none⟩ = some (.int .u64 (x.s.toNat : Int)) := (hb.cell (p := ⟨b, o + k * 3 + 1, none⟩) had).trans C1.out
              have d2 : wr.drew.drew.cell? ⟨b, o + k * 3 + 2, none⟩ = some (.int .u64 (x.o.toNat : Int)) := (hb.cell (p := ⟨b, o + k * 3 + 2, none⟩) had).trans C2.out
              have hbW : Below w.heap.size w wr.drew.drew := hb.drew.drew
              have hbkW : Blk wr.drew.drew w.heap.size 38 #[.int .i64 m.p.toInt, .int .u64 (m.s.toNat : Int), .int .u64 (m.o.toNat : Int)] := hbk.drew.drew
              have hoW : OwnM wr.drew.drew (w.heap.size + 1) _ L := ho.drew.drew
              clear c0 e0
              generalize wr.drew.drew = wa at d0 d1 d2 hbW hbkW hoW ⊢
              have hbs3 : w.heap.size + 1 ≤ wa.heap.size := hbkW.lt
              have hrow2 := Mk.row_one [x]
              have hnew2 := Marks.new wa 38 [x] #[.int .i64 x.p.toInt, .int .u64 (x.s.toNat : Int), .int .u64 (x.o.toNat : Int)] (0, 0) rfl
              have ho4 := hoW.alloc (.cells #[.int .i64 x.p.toInt, .int .u64 (x.s.toNat : Int), .int .u64 (x.o.toNat : Int)] 38)
              go_wp2_with (first
                | (at_builtin; refine app_list marks_ty rfl rfl ho4 rfl hnew2 rfl hrow2 (by simp; omega) (by simp; omega) ?_; intro v2 w2 hown1 hg2 _))
              have hb2 : Below w.heap.size w w2 := (hbW.alloc hbW.size _).grown hg2 (by have := hbW.size; simp; omega) (fun j hj => by have := own_ge ho4 j hj; omega)
              have hbk2 : Blk w2 w.heap.size 38 #[.int .i64 m.p.toInt, .int .u64 (m.s.toNat : Int), .int .u64 (m.o.toNat : Int)] := (hbkW.alloc _).grown hg2 (fun h => by have := own_ge ho4 _ h.symm; omega)
              go_roundw
              case rel => exact ⟨k + 1, by omega, by go_num, by rw [HE.out], hb2, hbk2, by rw [HE.out]; exact OwnM.snoc (w := wr) hown1 rfl⟩
              case measure => simp [intOf]; omega
        · obtain rfl : k = ms.length := by omega
          have HS := Lib.hid (stI_all ms m)
          generalize stI ms m ms.length = st at ho hle HS ⊢
          obtain ⟨L, put⟩ := st
          simp only at ho hle
          obtain ⟨A1, c1', rfl, hc1, hc2⟩ := ho.form
          cases put with
          | true =>
            go_wp2_with fail
            go_ret2
            rw [HFIN.out]
            exact ⟨⟨_, rfl, by rw [HS.out]; exact ho.less (by omega)⟩, hb⟩
          | false =>
            have e0 : wr.cell? ⟨w.heap.size, 0, none⟩ = some (.int .i64 m.p.toInt) := hbk.cell 0
            have e1 : wr.cell? ⟨w.heap.size, 1, none⟩ = some (.int .u64 (m.s.toNat : Int)) := hbk.cell 1
            have e2 : wr.cell? ⟨w.heap.size, 2, none⟩ = some (.int .u64 (m.o.toNat : Int)) := hbk.cell 2
            have hrow := Mk.row_one [m]
            have hnew := Marks.new wr 38 [m] #[.int .i64 m.p.toInt, .int .u64 (m.s.toNat : Int), .int .u64 (m.o.toNat : Int)] (0, 0) rfl
            have ho2 := ho.alloc (.cells #[.int .i64 m.p.toInt, .int .u64 (m.s.toNat : Int), .int .u64 (m.o.toNat : Int)] 38)
            go_wp2_with (first
              | (at_builtin; refine app_list marks_ty rfl rfl ho2 rfl hnew rfl hrow (by simp; omega) (by simp; omega) ?_; intro v1 w1 hown1 hg1 _))
            go_ret2
            rw [HFIN.out]
            exact ⟨⟨_, rfl, by rw [HS.out]; exact (OwnM.snoc (w := wr) hown1 rfl).less (by omega)⟩, (hb.alloc hb.size _).grown hg1 (by have := hb.size; simp; omega) (fun j hj => by have := own_ge ho2 j hj; omega)⟩
end Go.Proofs.Ytgdbknbpnlpdnaa
