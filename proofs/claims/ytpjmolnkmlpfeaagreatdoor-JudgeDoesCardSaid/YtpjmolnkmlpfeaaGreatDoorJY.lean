/- Joined texts: JuEq, JuI. -/
import Derived.Test.YtpjmolnkmlpfeaaGreatDoorJR
import Derived.Test.YtpjmolnkmlpfeaaGreatDoorJC
import Derived.Test.YtpjmolnkmlpfeaaGreatDoorJX
/- Rows of bytes, of numbers, compared (as WireP, without the packets). -/
set_option linter.unusedVariables false
set_option linter.unusedSimpArgs false
namespace Go.Proofs.YtpjmolnkmlpfeaaGreatDoor
set_option maxRecDepth 100000
open Go.RowKit

theorem same_more {α : Type} {xs ys : List α} {k : Nat} (h1 : k < xs.length) (h2 : k < ys.length) (ht : xs.take k = ys.take k) (he : xs[k] = ys[k]) : xs.take (k + 1) = ys.take (k + 1) := by
 rw [List.take_succ_eq_append_getElem h1, List.take_succ_eq_append_getElem h2, ht, he]
abbrev Keeps (w : World) (A : Option Addr) (xs : List Nat) : Prop := Reads w 1 A xs.length (xs.map u64v)
theorem Keeps.flat {w : World} {A : Option Addr} {l : List Nat} (h : Keeps w A l) (hn : 0 < l.length) : ∃ b o, A = some ⟨b, o, none⟩ ∧ b < w.heap.size ∧ ∀ j (hj : j < l.length), w.cell? ⟨b, o + j, none⟩ = some (.int .u64 (l[j] : Int)) := by
 obtain ⟨b, o, e, hb, hc⟩ := Reads.flat h hn (by decide)
 refine ⟨b, o, e, hb, fun j hj => hc j _ ?_⟩
 rw [List.getElem?_map, List.getElem?_eq_getElem hj]
 rfl
set_option maxHeartbeats 1000000 in
theorem eqb_any (A B : Option Addr) (c d : Nat) (xs ys : List UInt8) (w : World) (hA : Bytes w A xs) (hB : Bytes w B ys) (hn : xs.length ≤ 9223372036854775806) (hm : ys.length ≤ 9223372036854775806) :
  Calls Tryz.prog 57 #[.slice A xs.length c, .slice B ys.length d] w fun e w' => e = .returned (.bool (decide (xs = ys))) ∧ ∃ q, w' = w.drewN q := by
 by_cases hl : xs.length = ys.length
 ·have hd : ((xs.length : Int) != (ys.length : Int)) = false := by simp [hl]
  have hd2 : (xs.length != ys.length) = false := by simp [hl]
  have HL := Lib.hid hl
  clear hl
  go_enter Tryz.func57, Tryz.ntmps57
  go_wp2_with fail
  clear hd hd2
  go_loopw [13] (fun i wr => ∃ k q : Nat, k ≤ xs.length ∧ i = .int .i64 k ∧ xs.take k = ys.take k ∧ wr = w.drewN q) (fun i _ => xs.length - (intOf i).toNat)
  case atStart => exact ⟨0, 0, by omega, rfl, rfl, rfl⟩
  case round =>
   obtain ⟨k, q, hk, rfl, htk, rfl⟩ := hrel
   have HT := Lib.hid htk
   clear htk
   by_cases hlt : k < xs.length
   ·have hlt2 : k < ys.length := by have := HL.out; omega
    have hlt3 : (k : Int) < (ys.length : Int) := by omega
    obtain ⟨b, o, rfl, hbl, hc⟩ := Bytes.flat hA (by omega)
    obtain ⟨b', o', rfl, hbl', hc'⟩ := Bytes.flat hB (by omega)
    have c0 := hc k hlt
    have d0 := hc' k hlt2
    have HS := Lib.hid (same_more hlt hlt2 HT.out)
    have HNE : Hid (xs[k] ≠ ys[k] → xs ≠ ys) := fun h e => h (by subst e; rfl)
    generalize xs[k] = x at c0 HS HNE
    generalize ys[k] = y at d0 HS HNE
    clear hc hc'
    by_cases he : x = y
    ·subst he
     have HS2 := Lib.hid (HS.out rfl)
     clear HS HNE
     go_wp2_with fail
     refine PF.b (by kernel_rfl) (fun _ _ _ _ _ h => h) ?_
     refine PF.t 0 (by kernel_rfl) rfl (by go_simp; try rfl) ?_
     try simp only [pz]
     refine PF.t 1 (by kernel_rfl) rfl (by go_simp; try rfl) ?_
     try simp only [pz]
     refine PF.t 2 (by kernel_rfl) rfl (by go_simp; try rfl) ?_
     try simp only [pz]
     refine PF.m 3 (b) (by kernel_rfl) rfl (fun hcu => by go_simp; try rfl) ?_
     try simp only [pz]
     refine PF.t 4 (by kernel_rfl) rfl (by go_simp; try rfl) ?_
     try simp only [pz]
     refine PF.t 5 (by kernel_rfl) rfl (by go_simp; try rfl) ?_
     try simp only [pz]
     refine PF.t 6 (by kernel_rfl) rfl (by go_simp; try rfl) ?_
     try simp only [pz]
     refine PF.m 7 (b') (by kernel_rfl) rfl (fun hcu => by go_simp; try rfl) ?_
     try simp only [pz]
     refine PF.t 8 (by kernel_rfl) rfl (by go_simp; try rfl) ?_
     try simp only [pz]
     refine PF.d (by kernel_rfl) ?_
     go_wp2_with fail
     go_roundw
     case rel => exact ⟨k + 1, q + 1, by omega, by go_num, HS2.out, rfl⟩
     case measure => simp [intOf]; omega
    ·have e1 : ((x.toNat : Int) != (y.toNat : Int)) = true := by simp; intro h; exact he (UInt8.toNat_inj.1 (by omega))
     have e2 : (x.toNat != y.toNat) = true := by simp; intro h; exact he (UInt8.toNat_inj.1 (by omega))
     have e3 : ¬ x.toNat = y.toNat := by intro h; exact he (UInt8.toNat_inj.1 (by omega))
     have HE := Lib.hid he
     clear he
     go_wp2_with fail
     refine PF.b (by kernel_rfl) (fun _ _ _ _ _ h => h) ?_
     refine PF.t 0 (by kernel_rfl) rfl (by go_simp; try rfl) ?_
     try simp only [pz]
     refine PF.t 1 (by kernel_rfl) rfl (by go_simp; try rfl) ?_
     try simp only [pz]
     refine PF.t 2 (by kernel_rfl) rfl (by go_simp; try rfl) ?_
     try simp only [pz]
     refine PF.m 3 (b) (by kernel_rfl) rfl (fun hcu => by go_simp; try rfl) ?_
     try simp only [pz]
     refine PF.t 4 (by kernel_rfl) rfl (by go_simp; try rfl) ?_
     try simp only [pz]
     refine PF.t 5 (by kernel_rfl) rfl (by go_simp; try rfl) ?_
     try simp only [pz]
     refine PF.t 6 (by kernel_rfl) rfl (by go_simp; try rfl) ?_
     try simp only [pz]
     refine PF.m 7 (b') (by kernel_rfl) rfl (fun hcu => by go_simp; try rfl) ?_
     try simp only [pz]
     refine PF.t 8 (by kernel_rfl) rfl (by go_simp; try rfl) ?_
     try simp only [pz]
     refine PF.d (by kernel_rfl) ?_
     go_wp2_with fail
     go_ret
     exact ⟨ret_bool (by symm; rw [decide_eq_false_iff_not]; exact HNE.out HE.out), q + 1, rfl⟩
   ·obtain rfl : k = xs.length := by omega
    go_wp2_with fail
    go_ret
    exact ⟨ret_bool (by symm; rw [decide_eq_true_iff]; have h := HT.out; rw [List.take_length] at h; rw [h, HL.out, List.take_length]), q, rfl⟩
 ·have hd : ((xs.length : Int) != (ys.length : Int)) = true := by simp; omega
  have hd2 : (xs.length != ys.length) = true := by simp; omega
  have HL := Lib.hid hl
  clear hl
  go_enter Tryz.func57, Tryz.ntmps57
  go_wp2_with fail
  go_ret
  exact ⟨ret_bool (by symm; rw [decide_eq_false_iff_not]; exact fun e => HL.out (by rw [e])), 0, rfl⟩
set_option maxHeartbeats 1000000 in
theorem eqk_any (A B : Option Addr) (c d : Nat) (xs ys : List Nat) (w : World) (hA : Keeps w A xs) (hB : Keeps w B ys) (hn : xs.length ≤ 9223372036854775806) (hm : ys.length ≤ 9223372036854775806) :
  Calls Tryz.prog 43 #[.slice A xs.length c, .slice B ys.length d] w fun e w' => e = .returned (.bool (decide (xs = ys))) ∧ ∃ q, w' = w.drewN q := by
 by_cases hl : xs.length = ys.length
 ·have hd : ((xs.length : Int) != (ys.length : Int)) = false := by simp [hl]
  have hd2 : (xs.length != ys.length) = false := by simp [hl]
  have HL := Lib.hid hl
  clear hl
  go_enter Tryz.func43, Tryz.ntmps43
  go_wp2_with fail
  clear hd hd2
  go_loopw [13] (fun i wr => ∃ k q : Nat, k ≤ xs.length ∧ i = .int .i64 k ∧ xs.take k = ys.take k ∧ wr = w.drewN q) (fun i _ => xs.length - (intOf i).toNat)
  case atStart => exact ⟨0, 0, by omega, rfl, rfl, rfl⟩
  case round =>
   obtain ⟨k, q, hk, rfl, htk, rfl⟩ := hrel
   have HT := Lib.hid htk
   clear htk
   by_cases hlt : k < xs.length
   ·have hlt2 : k < ys.length := by have := HL.out; omega
    have hlt3 : (k : Int) < (ys.length : Int) := by omega
    obtain ⟨b, o, rfl, hbl, hc⟩ := Keeps.flat hA (by omega)
    obtain ⟨b', o', rfl, hbl', hc'⟩ := Keeps.flat hB (by omega)
    have c0 := hc k hlt
    have d0 := hc' k hlt2
    have HS := Lib.hid (same_more hlt hlt2 HT.out)
    have HNE : Hid (xs[k] ≠ ys[k] → xs ≠ ys) := fun h e => h (by subst e; rfl)
    generalize xs[k] = x at c0 HS HNE
    generalize ys[k] = y at d0 HS HNE
    clear hc hc'
    by_cases he : x = y
    ·subst he
     have HS2 := Lib.hid (HS.out rfl)
     clear HS HNE
     go_wp2_with fail
     refine PF.b (by kernel_rfl) (fun _ _ _ _ _ h => h) ?_
     refine PF.t 0 (by kernel_rfl) rfl (by go_simp; try rfl) ?_
     try simp only [pz]
     refine PF.t 1 (by kernel_rfl) rfl (by go_simp; try rfl) ?_
     try simp only [pz]
     refine PF.t 2 (by kernel_rfl) rfl (by go_simp; try rfl) ?_
     try simp only [pz]
     refine PF.m 3 (b) (by kernel_rfl) rfl (fun hcu => by go_simp; try rfl) ?_
     try simp only [pz]
     refine PF.t 4 (by kernel_rfl) rfl (by go_simp; try rfl) ?_
     try simp only [pz]
     refine PF.t 5 (by kernel_rfl) rfl (by go_simp; try rfl) ?_
     try simp only [pz]
     refine PF.t 6 (by kernel_rfl) rfl (by go_simp; try rfl) ?_
     try simp only [pz]
     refine PF.m 7 (b') (by kernel_rfl) rfl (fun hcu => by go_simp; try rfl) ?_
     try simp only [pz]
     refine PF.t 8 (by kernel_rfl) rfl (by go_simp; try rfl) ?_
     try simp only [pz]
     refine PF.d (by kernel_rfl) ?_
     go_wp2_with fail
     go_roundw
     case rel => exact ⟨k + 1, q + 1, by omega, by go_num, HS2.out, rfl⟩
     case measure => simp [intOf]; omega
    ·have e1 : ((x : Int) != (y : Int)) = true := by simp; intro h; exact he (by omega)
     have e2 : (x != y) = true := by simp; intro h; exact he (by omega)
     have e3 : ¬ x = y := by intro h; exact he (by omega)
     have HE := Lib.hid he
     clear he
     go_wp2_with fail
     refine PF.b (by kernel_rfl) (fun _ _ _ _ _ h => h) ?_
     refine PF.t 0 (by kernel_rfl) rfl (by go_simp; try rfl) ?_
     try simp only [pz]
     refine PF.t 1 (by kernel_rfl) rfl (by go_simp; try rfl) ?_
     try simp only [pz]
     refine PF.t 2 (by kernel_rfl) rfl (by go_simp; try rfl) ?_
     try simp only [pz]
     refine PF.m 3 (b) (by kernel_rfl) rfl (fun hcu => by go_simp; try rfl) ?_
     try simp only [pz]
     refine PF.t 4 (by kernel_rfl) rfl (by go_simp; try rfl) ?_
     try simp only [pz]
     refine PF.t 5 (by kernel_rfl) rfl (by go_simp; try rfl) ?_
     try simp only [pz]
     refine PF.t 6 (by kernel_rfl) rfl (by go_simp; try rfl) ?_
     try simp only [pz]
     refine PF.m 7 (b') (by kernel_rfl) rfl (fun hcu => by go_simp; try rfl) ?_
     try simp only [pz]
     refine PF.t 8 (by kernel_rfl) rfl (by go_simp; try rfl) ?_
     try simp only [pz]
     refine PF.d (by kernel_rfl) ?_
     go_wp2_with fail
     go_ret
     exact ⟨ret_bool (by symm; rw [decide_eq_false_iff_not]; exact HNE.out HE.out), q + 1, rfl⟩
   ·obtain rfl : k = xs.length := by omega
    go_wp2_with fail
    go_ret
    exact ⟨ret_bool (by symm; rw [decide_eq_true_iff]; have h := HT.out; rw [List.take_length] at h; rw [h, HL.out, List.take_length]), q, rfl⟩
 ·have hd : ((xs.length : Int) != (ys.length : Int)) = true := by simp; omega
  have hd2 : (xs.length != ys.length) = true := by simp; omega
  have HL := Lib.hid hl
  clear hl
  go_enter Tryz.func43, Tryz.ntmps43
  go_wp2_with fail
  go_ret
  exact ⟨ret_bool (by symm; rw [decide_eq_false_iff_not]; exact fun e => HL.out (by rw [e])), 0, rfl⟩
end Go.Proofs.YtpjmolnkmlpfeaaGreatDoor

/- Whether two entries are the same; what a publish does. -/
namespace Go.Proofs.YtpjmolnkmlpfeaaGreatDoor
set_option maxRecDepth 100000
open Go.RowKit

set_option maxHeartbeats 4000000 in
theorem esame_any {K K' : Nat → Prop} {w : World} {a b : Ent} {va vb : Value} (ha : SlB K w va a.body) (hb : SlB K' w vb b.body) (hna : a.body.length ≤ 1000000) (hnb : b.body.length ≤ 140737488351232) :
  Calls Tryz.prog 45 #[.agg (enL (a, va)).toArray, .agg (enL (b, vb)).toArray] w fun e w' => e = .returned (.bool (decide (a = b))) ∧ Below w.heap.size w w' := by
 obtain ⟨A, c, rfl, hA, hA1, hA2, _⟩ := ha
 obtain ⟨B, d, rfl, hB, hB1, hB2, _⟩ := hb
 have h1 : Blk ((w.alloc (.cells (enL (a, .slice A a.body.length c)).toArray 73)).alloc (.cells (enL (b, .slice B b.body.length d)).toArray 73)) w.heap.size 73 (enL (a, .slice A a.body.length c)).toArray := (Blk.new _ _ _).alloc _
 have h2 : Blk ((w.alloc (.cells (enL (a, .slice A a.body.length c)).toArray 73)).alloc (.cells (enL (b, .slice B b.body.length d)).toArray 73)) (w.heap.size + 1) 73 (enL (b, .slice B b.body.length d)).toArray := by
  have := Blk.new (w.alloc (.cells (enL (a, .slice A a.body.length c)).toArray 73)) 73 (enL (b, .slice B b.body.length d)).toArray
  rwa [alloc_size] at this
 have hT : Below w.heap.size w ((w.alloc (.cells (enL (a, .slice A a.body.length c)).toArray 73)).alloc (.cells (enL (b, .slice B b.body.length d)).toArray 73)) := ((Below.refl _ _).alloc (Nat.le_refl _) _).alloc (by simp) _
 have a0 := (h1.cell 0).trans (rfl : _ = some (Value.int .i64 a.prod))
 have a1 := (h1.cell 1).trans (rfl : _ = some (Value.int .u64 (a.seq : Int)))
 have a2 := (h1.cell 2).trans (rfl : _ = some (Value.slice A a.body.length c))
 have b0 := (h2.cell 0).trans (rfl : _ = some (Value.int .i64 b.prod))
 have b1 := (h2.cell 1).trans (rfl : _ = some (Value.int .u64 (b.seq : Int)))
 have b2 := (h2.cell 2).trans (rfl : _ = some (Value.slice B b.body.length d))
 have HT := Lib.hid hT
 have HE := Lib.hid (eqb_any A B c d a.body b.body _ (hA.below hT) (hB.below hT) (by omega) (by omega))
 clear h1 h2 hT hA hB hA1 hA2 hB1 hB2 hna hnb
 by_cases hp : a.prod = b.prod
 ·have p0 : decide (a.prod = b.prod) = true := decide_eq_true hp
  have p1 : (a.prod == b.prod) = true := beq_iff_eq.2 hp
  by_cases hs : a.seq = b.seq
  ·have s0 : decide (a.seq = b.seq) = true := decide_eq_true hs
   have s1 : (a.seq == b.seq) = true := beq_iff_eq.2 hs
   have s2 : ((a.seq : Int) == (b.seq : Int)) = true := beq_iff_eq.2 (by omega)
   have HR : Hid (decide (a = b) = decide (a.body = b.body)) := by
    show _ = _
    by_cases h : a.body = b.body
    ·rw [decide_eq_true h, decide_eq_true (Ent.ext' hp hs h)]
    ·rw [decide_eq_false h, decide_eq_false fun e => h (by rw [e])]
   clear hp hs
   go_enter Tryz.func45, Tryz.ntmps45
   go_wp2_with fail
   refine HE.out.mono ?_
   rintro e w1 ⟨rfl, q, hq⟩
   have HQ := Lib.hid hq
   clear hq
   go_wp2_with fail
   go_ret
   refine ⟨by rw [HR.out]; rfl, ?_⟩
   rw [HQ.out]
   exact below_drewN HT.out q
  ·have s0 : decide (a.seq = b.seq) = false := decide_eq_false hs
   have s1 : (a.seq == b.seq) = false := beq_eq_false_iff_ne.2 hs
   have s2 : ((a.seq : Int) == (b.seq : Int)) = false := beq_eq_false_iff_ne.2 (by omega)
   have HR : Hid (decide (a = b) = false) := decide_eq_false fun e => hs (by rw [e])
   clear hp hs
   go_enter Tryz.func45, Tryz.ntmps45
   go_wp2_with fail
   go_ret
   exact ⟨by rw [HR.out]; rfl, HT.out⟩
 ·have p0 : decide (a.prod = b.prod) = false := decide_eq_false hp
  have p1 : (a.prod == b.prod) = false := beq_eq_false_iff_ne.2 hp
  have HR : Hid (decide (a = b) = false) := decide_eq_false fun e => hp (by rw [e])
  clear hp
  go_enter Tryz.func45, Tryz.ntmps45
  go_wp2_with fail
  go_ret
  exact ⟨by rw [HR.out]; rfl, HT.out⟩
end Go.Proofs.YtpjmolnkmlpfeaaGreatDoor
