/- Joined texts: JdB, JdL, JdM. -/
import Derived.Test.YtpjmolnkmlpfeaaGreatDoorJX
import Derived.Test.YtpjmolnkmlpfeaaGreatDoorJuE
import Derived.Test.YtpjmolnkmlpfeaaGreatDoorJQ
/- The laws' large; spoil: a model that was answered is written over. -/
set_option linter.unusedVariables false
set_option linter.unusedSimpArgs false
namespace Go.Proofs.YtpjmolnkmlpfeaaGreatDoor
set_option maxRecDepth 100000
open Go.RowKit

set_option maxHeartbeats 4000000 in
theorem large_any {K : Nat → Prop} {w : World} {vl vc : Value} {M : Mdl} (h : MdF K w vl vc M) (hb : ∀ e ∈ M.log, e.body.length ≤ 140737488351232) (hc : M.cur.length * 8 ≤ 140737488351232) (hl : M.log.length * 40 ≤ 140737488351232) :
  Calls Tryz.prog 20 #[.agg (mdL M vl vc).toArray] w fun e w' => (∃ b, e = .returned (.bool b) ∧ (b = false → M.log.length ≤ 3000 ∧ ∀ e ∈ M.log, e.body.length ≤ 1000000)) ∧ Below w.heap.size w w' := by
 obtain ⟨⟨A, c, E, rfl, hE, hr, hall, _⟩, ⟨A2, c2, rfl, hr2, _⟩⟩ := h
 have hlE : M.log.length = E.length := by rw [← hE, List.length_map]
 obtain ⟨nc, hnc⟩ : ∃ nc, nc = M.cur.length := ⟨_, rfl⟩
 have HBE : Hid (∀ p ∈ E, p.1.body.length ≤ 140737488351232) := fun p hp => hb _ (by rw [← hE]; exact List.mem_map.2 ⟨p, hp, rfl⟩)
 have HME : Hid (∀ e ∈ M.log, ∃ p ∈ E, p.1 = e) := fun e he => by rw [← hE] at he; exact List.mem_map.1 he
 have HLE := Lib.hid hlE
 have hE40 : E.length ≤ 3518437208781 := by omega
 have hnc8 : nc ≤ 17592186043904 := by omega
 rw [← hnc]
 have hB1 : Blk (w.alloc (.cells (mdL M (.slice A E.length c) (.slice A2 nc c2)).toArray 45)) w.heap.size 45 (mdL M (.slice A E.length c) (.slice A2 nc c2)).toArray := Blk.new _ _ _
 have hT := below_new w (.cells (mdL M (.slice A E.length c) (.slice A2 nc c2)).toArray 45)
 have HR := Lib.hid (hr.below hT)
 have HALL := Lib.hid hall
 have m0 := (hB1.cell 0).trans (rfl : _ = some (Value.slice A E.length c))
 have m2 := (hB1.cell 2).trans (rfl : _ = some (Value.slice A2 nc c2))
 have HT := Lib.hid hT
 clear hb hc hl hE hr hall hr2 hlE hnc hB1 hT
 go_enter Tryz.func20, Tryz.ntmps20
 go_wp2_with fail
 generalize w.alloc (.cells (mdL M (.slice A E.length c) (.slice A2 nc c2)).toArray 45) = w1 at HR HT m0 m2 ⊢
 go_loopw [3, 4] (fun nv iv wr => wr = w1 ∧ ∃ k s : Nat, k ≤ E.length ∧ iv = .int .i64 k ∧ nv = .int .i64 s ∧ k ≤ s ∧ s ≤ 17592186043904 ∧ ∀ j (hj : j < E.length), j < k → E[j].1.body.length / 64 ≤ s) (fun _ i _ => E.length - (intOf i).toNat)
 case atStart => exact ⟨rfl, 0, nc, by omega, rfl, rfl, by omega, hnc8, fun j _ h => absurd h (by omega)⟩
 case round =>
  obtain ⟨rfl, k, s, hk, rfl, rfl, hks, hs, hno⟩ := hrel
  have HNO := Lib.hid hno
  clear hno
  by_cases hlt : k < E.length
  ·by_cases hs3 : s ≤ 3000
   ·obtain ⟨b, o, rfl, hbl, c0, c1, c2'⟩ := en_cells HR.out hlt
    have hx := HBE.out _ (List.getElem_mem hlt)
    obtain ⟨Dk, dk, eD, _⟩ := HALL.out _ (List.getElem_mem hlt)
    rw [eD] at c2'
    obtain ⟨n, hn⟩ : ∃ n, n = E[k].1.body.length := ⟨_, rfl⟩
    rw [← hn] at c2' hx
    have HSN : Hid (∀ j (hj : j < E.length), j < k + 1 → E[j].1.body.length / 64 ≤ s + (1 + n / 64)) := fun j hj h => by
     rcases Nat.lt_succ_iff_lt_or_eq.1 h with h | rfl
     ·exact Nat.le_trans (HNO.out j hj h) (by omega)
     ·rw [← hn]; omega
    have d1 : decide (s ≤ 3000) = true := decide_eq_true hs3
    have d2 : decide ((s : Int) ≤ 3000) = true := decide_eq_true (by omega)
    have hq : ((n : Int)).tdiv 64 = ((n / 64 : Nat) : Int) := rfl
    obtain ⟨qn, hqn⟩ : ∃ qn, qn = n / 64 := ⟨_, rfl⟩
    rw [← hqn] at hq HSN
    have hq2 : qn ≤ 2199023255500 := by rw [hqn]; omega
    have hw1 : IntKind.i64.wrap (1 + (qn : Int)) = 1 + (qn : Int) := by rw [IntKind.wrap_i64]; omega
    have hw2 : IntKind.i64.wrap ((s : Int) + (1 + (qn : Int))) = (s : Int) + (1 + (qn : Int)) := by rw [IntKind.wrap_i64]; omega
    have hwk : IntKind.i64.wrap ((k : Int) + 1) = (k : Int) + 1 := by rw [IntKind.wrap_i64]; omega
    have hlti : (k : Int) < (E.length : Int) := by omega
    clear hqn hn eD c0 c1
    go_wp2_with fail
    go_roundw
    case rel => exact ⟨trivial, k + 1, s + (1 + qn), hlt, by go_num, by go_num, by omega, by omega, HSN.out⟩
    case measure => simp [intOf]; omega
   ·have d1 : decide (s ≤ 3000) = false := decide_eq_false hs3
    have d2 : decide ((s : Int) ≤ 3000) = false := decide_eq_false (by omega)
    have d3 : decide (3000 < s) = true := decide_eq_true (by omega)
    have d4 : decide ((3000 : Int) < (s : Int)) = true := decide_eq_true (by omega)
    have hlti : (k : Int) < (E.length : Int) := by omega
    clear hs3
    go_wp2_with fail
    go_ret
    exact ⟨⟨true, rfl, fun h => by cases h⟩, HT.out⟩
  ·obtain rfl : k = E.length := by omega
   by_cases hs3 : s ≤ 3000
   ·have d3 : decide (3000 < s) = false := decide_eq_false (by omega)
    have d4 : decide ((3000 : Int) < (s : Int)) = false := decide_eq_false (by omega)
    have HF : Hid (M.log.length ≤ 3000 ∧ ∀ e ∈ M.log, e.body.length ≤ 1000000) := by
     refine ⟨by have := HLE.out; omega, fun e he => ?_⟩
     obtain ⟨p, hp, rfl⟩ := HME.out e he
     obtain ⟨j, hj, rfl⟩ := List.mem_iff_getElem.1 hp
     have := HNO.out j hj hj
     omega
    clear hs3
    go_wp2_with fail
    go_ret
    exact ⟨⟨false, rfl, fun _ => HF.out⟩, HT.out⟩
   ·have d3 : decide (3000 < s) = true := decide_eq_true (by omega)
    have d4 : decide ((3000 : Int) < (s : Int)) = true := decide_eq_true (by omega)
    clear hs3
    go_wp2_with fail
    go_ret
    exact ⟨⟨true, rfl, fun h => by cases h⟩, HT.out⟩
set_option maxHeartbeats 8000000 in
theorem spoil_any {K : Nat → Prop} {w : World} {vl vc : Value} {t : Nat} {vs : List (Value × Nat)} {m : Nat} (h : ShE K w vl vs) (h2 : ShU K w vc m) (hn : vs.length ≤ 1000000) (hm : m ≤ 1000000) (hb : ∀ p ∈ vs, p.2 ≤ 1000000) (hK : ∀ b, K b → b < w.heap.size) :
  Calls Tryz.prog 25 #[.agg #[vl, .int .u64 (t : Int), vc]] w fun e w' => e = .returned (.tuple #[]) ∧ Mod K w w' := by
 obtain ⟨A, c, rfl, hA⟩ := id h
 obtain ⟨A2, c2, rfl, hA2⟩ := id h2
 have hB1 : Blk (w.alloc (.cells #[.slice A vs.length c, .int .u64 (t : Int), .slice A2 m c2] 45)) w.heap.size 45 #[.slice A vs.length c, .int .u64 (t : Int), .slice A2 m c2] := Blk.new _ _ _
 have hT := below_new w (.cells #[.slice A vs.length c, .int .u64 (t : Int), .slice A2 m c2] 45)
 have HMD : Hid (Mod K w (w.alloc (.cells #[.slice A vs.length c, .int .u64 (t : Int), .slice A2 m c2] 45))) := Mod.below hT (Nat.le_refl _)
 have HE : Hid (ShE K (w.alloc (.cells #[.slice A vs.length c, .int .u64 (t : Int), .slice A2 m c2] 45)) (.slice A vs.length c) vs) := by
  refine ⟨A, c, rfl, fun h0 => ?_⟩
  obtain ⟨b, o, ea, hk, hbl, hf, hc⟩ := hA h0
  refine ⟨b, o, ea, hk, by have := hT.size; omega, fun o' => (frozen_below hT hbl).trans (hf o'), fun j hj => ?_⟩
  obtain ⟨⟨x, hx⟩, ⟨z, hz⟩, hp⟩ := hc j hj
  refine ⟨⟨x, (hT.cell (p := ⟨b, o + j * 3, none⟩) hbl).trans hx⟩, ⟨z, (hT.cell (p := ⟨b, o + j * 3 + 1, none⟩) hbl).trans hz⟩, fun p e => ⟨(hT.cell (p := ⟨b, o + j * 3 + 2, none⟩) hbl).trans (hp p e).1, ?_⟩⟩
  obtain ⟨A', c', e', h'⟩ := (hp p e).2
  refine ⟨A', c', e', fun h0 => ?_⟩
  obtain ⟨b', o', ea', hk', hbl', hf', hc'⟩ := h' h0
  refine ⟨b', o', ea', hk', by have := hT.size; omega, fun o2 => (frozen_below hT hbl').trans (hf' o2), fun j hj => ?_⟩
  obtain ⟨x, hx⟩ := hc' j hj
  exact ⟨x, (hT.cell (p := ⟨b', o' + j * 1, none⟩) hbl').trans hx⟩
 have HU : Hid (ShU K (w.alloc (.cells #[.slice A vs.length c, .int .u64 (t : Int), .slice A2 m c2] 45)) (.slice A2 m c2) m) := by
  refine ⟨A2, c2, rfl, fun h0 => ?_⟩
  obtain ⟨b, o, ea, hk, hbl, hf, hc⟩ := hA2 h0
  refine ⟨b, o, ea, hk, by have := hT.size; omega, fun o' => (frozen_below hT hbl).trans (hf o'), fun j hj => ?_⟩
  obtain ⟨x, hx⟩ := hc j hj
  exact ⟨x, (hT.cell (p := ⟨b, o + j * 1, none⟩) hbl).trans hx⟩
 have HB := Lib.hid hB1
 have HK := Lib.hid hK
 have HBD := Lib.hid hb
 clear h h2 hA hA2 hB1 hT hK hb
 go_enter Tryz.func25, Tryz.ntmps25
 go_wp2_with fail
 generalize w.alloc (.cells #[.slice A vs.length c, .int .u64 (t : Int), .slice A2 m c2] 45) = w1 at HMD HE HU HB ⊢
 go_loopw [2] (fun iv wr => ∃ i : Nat, i ≤ vs.length ∧ iv = .int .i64 i ∧ Blk wr w.heap.size 45 #[.slice A vs.length c, .int .u64 (t : Int), .slice A2 m c2] ∧ ShE K wr (.slice A vs.length c) vs ∧ ShU K wr (.slice A2 m c2) m ∧ Mod K w wr) (fun iv _ => vs.length - (intOf iv).toNat)
 case atStart => exact ⟨0, by omega, rfl, HB.out, HE.out, HU.out, HMD.out⟩
 case round =>
  obtain ⟨i, hi, rfl, hB, hE, hU, hM⟩ := hrel
  obtain ⟨wo, rfl⟩ : ∃ wo : World, wo = wr := ⟨_, rfl⟩
  have m0 := (hB.cell 0).trans (rfl : _ = some (Value.slice A vs.length c))
  have m2 := (hB.cell 2).trans (rfl : _ = some (Value.slice A2 m c2))
  have HB := Lib.hid hB
  have HE := Lib.hid hE
  have HU := Lib.hid hU
  have HMD := Lib.hid hM
  clear hB hE hU hM
  by_cases hlt : i < vs.length
  ·obtain ⟨A', c', e', hA'⟩ := HE.out
   injection e' with e1' _ e2'
   subst e1' e2'
   obtain ⟨b, o, rfl, _⟩ := hA' (by omega)
   have hpm := HBD.out _ (List.getElem_mem hlt)
   have hget : vs[i]? = some vs[i] := List.getElem?_eq_getElem hlt
   generalize vs[i] = p at hpm hget
   obtain ⟨pv, pn⟩ := p
   have hpm : pn ≤ 1000000 := hpm
   have HGT := Lib.hid hget
   have hlti : (i : Int) < (vs.length : Int) := by omega
   have hwi : IntKind.i64.wrap ((i : Int) + 1) = (i : Int) + 1 := by rw [IntKind.wrap_i64]; omega
   have HEI : Hid (∀ W, ShE K W (.slice (some ⟨b, o, none⟩) vs.length c) vs → (K b ∧ b < W.heap.size ∧ (∀ o', W.frozen? ⟨b, o', none⟩ = false)) ∧ (∃ x : Int, W.cell? ⟨b, o + i * 3, none⟩ = some (.int .i64 x)) ∧ W.cell? ⟨b, o + i * 3 + 2, none⟩ = some pv ∧ ShB (fun b' => K b' ∧ b' ≠ b) W pv pn) := fun W h => by
    obtain ⟨A', c', e', hA'⟩ := h
    injection e' with e1' _ e2'
    subst e1' e2'
    obtain ⟨b', o', e, hk, hbl, hf, hc⟩ := hA' (by omega)
    injection e with e
    injection e with e1 e2
    subst e1 e2
    obtain ⟨hx, _, hp⟩ := hc i hlt
    exact ⟨⟨hk, hbl, hf⟩, hx, (hp _ HGT.out).1, (hp _ HGT.out).2⟩
   obtain ⟨_, _, _, hsh⟩ := HEI.out wo HE.out
   obtain ⟨A', c', rfl, _⟩ := hsh
   clear hget hA'
   go_wp2_with fail
   clear m0 m2
   go_loopw [3] (fun jv wq => ∃ j : Nat, j ≤ pn ∧ jv = .int .i64 j ∧ Blk wq w.heap.size 45 #[.slice (some ⟨b, o, none⟩) vs.length c, .int .u64 (t : Int), .slice A2 m c2] ∧ ShE K wq (.slice (some ⟨b, o, none⟩) vs.length c) vs ∧ ShU K wq (.slice A2 m c2) m ∧ Mod K w wq) (fun jv _ => pn - (intOf jv).toNat)
   case atStart => exact ⟨0, by omega, rfl, HB.out, HE.out, HU.out, HMD.out⟩
   case round =>
    obtain ⟨j, hj, rfl, hB, hE, hU, hM⟩ := hrel
    obtain ⟨wq, rfl⟩ : ∃ wo : World, wo = wr := ⟨_, rfl⟩
    have m0 := (hB.cell 0).trans (rfl : _ = some (Value.slice (some ⟨b, o, none⟩) vs.length c))
    have HB := Lib.hid hB
    have HE := Lib.hid hE
    have HU := Lib.hid hU
    have HMD := Lib.hid hM
    obtain ⟨⟨hkb, hbl, hfb⟩, ⟨x, hx⟩, hp2, hshb⟩ := HEI.out wq hE
    have HKB : Hid (K b ∧ b < w.heap.size) := ⟨hkb, HK.out b hkb⟩
    have hfx := hfb (o + i * 3)
    clear hB hE hU hM
    by_cases hjl : j < pn
    ·obtain ⟨A3, c3, e3, h3⟩ := hshb
     injection e3 with e31 _ e32
     subst e31 e32
     obtain ⟨b', o', rfl, hk', hbl', hf', hc'⟩ := h3 (by omega)
     obtain ⟨y, hy⟩ := hc' j hjl
     rw [Nat.mul_one] at hy
     have hfy := hf' (o' + j)
     have hjli : (j : Int) < (pn : Int) := by omega
     have hwj : IntKind.i64.wrap ((j : Int) + 1) = (j : Int) + 1 := by rw [IntKind.wrap_i64]; omega
     have HN : Hid (b' ≠ b ∧ b' < w.heap.size ∧ K b') := ⟨hk'.2, HK.out _ hk'.1, hk'.1⟩
     have HY := Lib.hid hy
     clear hc' hf' hk' h3 hkb hfb hx hfx
     go_wp2_with fail
     go_roundw
     case rel => exact ⟨j + 1, hjl, by go_num, one_set HB.out (by have := HN.out.2.1; show b' ≠ _; omega) _, HE.out.byte (fun b2 o2 c2 e h0 => by injection e with e; injection e with e; injection e with e; rw [← e]; exact HN.out.1) _, HU.out.other (by decide) HY.out _, HMD.out.set (p := ⟨b', o' + j, none⟩) (fun _ => HN.out.2.2) _⟩
     case measure => simp [intOf]; omega
    ·obtain rfl : j = pn := by omega
     have HX := Lib.hid hx
     clear hshb hkb hfb
     go_wp2_with fail
     go_roundw
     case rel => exact ⟨i + 1, hlt, by go_num, one_set HB.out (by have := HKB.out.2; show b ≠ _; omega) _, HE.out.prod rfl hlt _, HU.out.other (by decide) HX.out _, HMD.out.set (p := ⟨b, o + i * 3, none⟩) (fun _ => HKB.out.1) _⟩
     case measure => simp [intOf]; omega
  ·obtain rfl : i = vs.length := by omega
   clear hi hlt
   go_wp2_with fail
   clear m0 m2
   go_loopw [4] (fun jv wq => ∃ j : Nat, j ≤ m ∧ jv = .int .i64 j ∧ Blk wq w.heap.size 45 #[.slice A vs.length c, .int .u64 (t : Int), .slice A2 m c2] ∧ ShU K wq (.slice A2 m c2) m ∧ Mod K w wq) (fun jv _ => m - (intOf jv).toNat)
   case atStart => exact ⟨0, by omega, rfl, HB.out, HU.out, HMD.out⟩
   case round =>
    obtain ⟨j, hj, rfl, hB, hU, hM⟩ := hrel
    obtain ⟨wq, rfl⟩ : ∃ wo : World, wo = wr := ⟨_, rfl⟩
    have m2 := (hB.cell 2).trans (rfl : _ = some (Value.slice A2 m c2))
    have HB := Lib.hid hB
    have HU := Lib.hid hU
    have HMD := Lib.hid hM
    clear hB hU hM
    by_cases hjl : j < m
    ·obtain ⟨A3, c3, e3, h3⟩ := HU.out
     injection e3 with e31 _ e32
     subst e31 e32
     obtain ⟨b', o', rfl, hk', hbl', hf', hc'⟩ := h3 (by omega)
     obtain ⟨y, hy⟩ := hc' j hjl
     rw [Nat.mul_one] at hy
     have hfy := hf' (o' + j)
     have hjli : (j : Int) < (m : Int) := by omega
     have hwj : IntKind.i64.wrap ((j : Int) + 1) = (j : Int) + 1 := by rw [IntKind.wrap_i64]; omega
     have HN : Hid (b' < w.heap.size ∧ K b') := ⟨HK.out _ hk', hk'⟩
     clear hc' hf' hk' h3
     go_wp2_with fail
     go_roundw
     case rel => exact ⟨j + 1, hjl, by go_num, one_set HB.out (by have := HN.out.1; show b' ≠ _; omega) _, HU.out.set ⟨b', o' + j, none⟩ _, HMD.out.set (p := ⟨b', o' + j, none⟩) (fun _ => HN.out.2) _⟩
     case measure => simp [intOf]; omega
    ·obtain rfl : j = m := by omega
     go_wp2_with fail
     refine bodyPost_end (results_none rfl _ _ _) rfl ?_
     exact ⟨rfl, HMD.out⟩
end Go.Proofs.YtpjmolnkmlpfeaaGreatDoor

/- A model of one's own is written over. -/
namespace Go.Proofs.YtpjmolnkmlpfeaaGreatDoor
set_option maxRecDepth 100000
open Go.RowKit

theorem spoilW {K : Nat → Prop} {w : World} {vl vc : Value} {M : Mdl} (h : MdW K w vl vc M) (hn : M.log.length ≤ 1000000) (hc : M.cur.length ≤ 1000000) (hbl : ∀ e ∈ M.log, e.body.length ≤ 1000000) :
  Calls Tryz.prog 25 #[.agg (mdL M vl vc).toArray] w fun e w' => e = .returned (.tuple #[]) ∧ Mod K w w' := by
 have h' := h.weak (K' := fun b => K b ∧ b < w.heap.size) fun b hb hk => ⟨hk, hb⟩
 obtain ⟨⟨h1, vs, h2⟩, h3, m, h4⟩ := h'
 obtain ⟨A, c, E, e1, hE, hr, hall, _⟩ := id h1
 obtain ⟨A', c', e2, hS⟩ := id h2
 obtain ⟨A3, c3, e3, _⟩ := id h3
 obtain ⟨A4, c4, e4, _⟩ := id h4
 have hi := Value.slice.inj (e1.symm.trans e2)
 have hm : M.cur.length = m := (Value.slice.inj (e3.symm.trans e4)).2.1
 have hlE : M.log.length = E.length := by rw [← hE, List.length_map]
 refine (spoil_any (t := M.trim) h2 h4 (by omega) (by omega) (fun p hp => ?_) (fun b hb => hb.2)).mono fun e w' hh => ⟨hh.1, hh.2.mono fun b _ hb => hb.1⟩
 obtain ⟨j, hj, rfl⟩ := List.mem_iff_getElem.1 hp
 obtain ⟨b, o, eA, _, _, _, hcell⟩ := hS (by omega)
 obtain ⟨_, _, hc2⟩ := hcell j hj
 obtain ⟨q1, q2⟩ := hc2 vs[j] (List.getElem?_eq_getElem hj)
 have hj' : j < E.length := by omega
 obtain ⟨b', o', eA', _, _, _, c2⟩ := en_cells hr hj'
 rw [hi.1, eA] at eA'
 injection eA' with eA'
 injection eA' with e5 e6
 subst e5 e6
 rw [q1] at c2
 injection c2 with c2
 obtain ⟨A5, c5, e7, _⟩ := hall _ (List.getElem_mem hj')
 obtain ⟨A6, c6, e8, _⟩ := q2
 rw [← c2] at e7
 rw [(Value.slice.inj (e8.symm.trans e7)).2.1]
 exact hbl _ (by rw [← hE]; exact List.mem_map.2 ⟨_, List.getElem_mem hj', rfl⟩)
end Go.Proofs.YtpjmolnkmlpfeaaGreatDoor

/- How big a model gets by a call. -/
namespace Go.Proofs.YtpjmolnkmlpfeaaGreatDoor
set_option maxRecDepth 100000

def Okm (n : Nat) (X : Mdl) : Prop := X.log.length ≤ n + 1 ∧ X.cur.length ≤ 3 ∧ ∀ e ∈ X.log, e.body.length ≤ 1000000
section
variable {n : Nat} {M : Mdl} {C : Cal} {R : Rep}
theorem ok_ownJ (hn : M.log.length ≤ n) (hb : ∀ e ∈ M.log, e.body.length ≤ 1000000) : Okm n (ownM M) := ⟨Nat.le_succ_of_le hn, by show (own3 M.cur).length ≤ 3; simp [own3], hb⟩
theorem ok_withJ (hn : M.log.length ≤ n) (hb : ∀ e ∈ M.log, e.body.length ≤ 1000000) (hc : C.body.length ≤ 1000000) : Okm n (withM (ownM M) C) := by
 refine ⟨?_, by show (own3 M.cur).length ≤ 3; simp [own3], fun e he => ?_⟩
 ·show (M.log ++ [_]).length ≤ n + 1
  rw [List.length_append]
  simpa using hn
 ·rcases List.mem_append.1 (show e ∈ M.log ++ [_] from he) with h | h
  ·exact hb e h
  ·rw [List.mem_singleton.1 h]; exact hc
theorem ok_trimJ (hn : M.log.length ≤ n) (hb : ∀ e ∈ M.log, e.body.length ≤ 1000000) (x : Nat) : Okm n { ownM M with trim := x } := ok_ownJ hn hb
theorem ok_setJ (hn : M.log.length ≤ n) (hb : ∀ e ∈ M.log, e.body.length ≤ 1000000) (x : Nat) : Okm n (setC (ownM M) C x) := by
 refine ⟨Nat.le_succ_of_le hn, ?_, hb⟩
 show ((own3 M.cur).set _ _).length ≤ 3
 simp [own3]
theorem does_okJ (hn : M.log.length ≤ n) (hb : ∀ e ∈ M.log, e.body.length ≤ 1000000) (hc : C.body.length ≤ 1000000) : Okm n ((doesM M C R).getD zMdl) := by
 have hz : Okm n zMdl := ⟨Nat.zero_le _, Nat.zero_le _, fun e he => by cases he⟩
 have ho := ok_ownJ hn hb
 have hw := ok_withJ (C := C) hn hb hc
 have ht := fun x => ok_trimJ hn hb x
 have hs := fun x => ok_setJ (C := C) hn hb x
 unfold doesM doesO publishM
 repeat' split
 all_goals first | exact hz | exact ho | exact hw | exact ht _ | exact hs _
theorem might_okJ (hn : M.log.length ≤ n) (hb : ∀ e ∈ M.log, e.body.length ≤ 1000000) (hc : C.body.length ≤ 1000000) : ∀ X ∈ mightM M C, Okm n X := by
 intro X hX
 unfold mightM mightO at hX
 split at hX
 ·split at hX
  ·rw [List.mem_singleton.1 hX]; exact ok_withJ hn hb hc
  ·cases hX
 ·split at hX
  ·obtain ⟨i, _, rfl⟩ := List.mem_map.1 hX
   exact ok_trimJ hn hb _
  ·split at hX
   ·split at hX
    ·rw [List.mem_singleton.1 hX]; exact ok_setJ hn hb _
    ·cases hX
   ·cases hX
end
end Go.Proofs.YtpjmolnkmlpfeaaGreatDoor
