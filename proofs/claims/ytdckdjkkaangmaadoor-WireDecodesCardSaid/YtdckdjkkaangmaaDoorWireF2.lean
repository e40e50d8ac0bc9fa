/- What was answered is written over. -/
import Derived.Test.YtdckdjkkaangmaaDoorJF
namespace Go.Proofs.YtdckdjkkaangmaaDoor
set_option linter.unusedVariables false
set_option linter.unusedSimpArgs false
set_option maxRecDepth 100000
open Go.RowKit

/-- A row of bytes, a row of numbers, that may be written. -/
def U8R (w : World) (A : Option Addr) (n : Nat) : Prop := 0 < n → ∃ g, A = some ⟨g, 0, none⟩ ∧ g < w.heap.size ∧ ∀ i, i < n → (∃ x : UInt8, w.cell? ⟨g, i, none⟩ = some (bv x)) ∧ w.frozen? ⟨g, i, none⟩ = false
def U64R (w : World) (A : Option Addr) (n : Nat) : Prop := 0 < n → ∃ g, A = some ⟨g, 0, none⟩ ∧ g < w.heap.size ∧ ∀ i, i < n → (∃ x : Int, w.cell? ⟨g, i, none⟩ = some (.int .u64 x)) ∧ w.frozen? ⟨g, i, none⟩ = false
theorem TxO.u8r {w : World} {B C : Nat} {A : Option Addr} {b : List UInt8} (h : TxO w B C A b) : U8R w A b.length := by
  intro hn
  obtain ⟨h1, h2⟩ := h
  obtain ⟨g, o, rfl, hg, hc⟩ := h1.flat hn
  obtain ⟨_, a2, _, _, a5, a6⟩ := h2 _ rfl
  simp only at a2 a6
  subst a2
  exact ⟨g, rfl, hg, fun i hi => ⟨⟨b[i], by have := hc i hi; rw [Nat.zero_add] at this; exact this⟩, a6 i hi⟩⟩
theorem KpO.u64r {w : World} {C : Nat} {A : Option Addr} {ks : List Nat} (h : KpO w C A ks) : U64R w A ks.length := by
  intro hn
  obtain ⟨h1, h2⟩ := h
  obtain ⟨g, o, rfl, hg, hc⟩ := Reads.flat h1 hn (by decide)
  obtain ⟨_, a2, _, a5, a6⟩ := h2 _ rfl
  simp only at a2 a6
  subst a2
  exact ⟨g, rfl, hg, fun i hi => ⟨⟨(ks[i] : Int), by have := hc i (u64v ks[i]) (by rw [List.getElem?_map, List.getElem?_eq_getElem hi]; rfl); rw [Nat.zero_add] at this; exact this⟩, a6 i hi⟩⟩
theorem cell_put {w : World} {p q : Addr} {u v : Value} (h : w.cell? q = some u) : (w.setCell p v).cell? q = some u ∨ (w.setCell p v).cell? q = some v := by
  by_cases e : p = q
  · subst e
    exact .inr (World.cell?_setCell_same w p v h)
  · exact .inl ((World.cell?_setCell_other w p q v e).trans h)
theorem U8R.put {w : World} {A : Option Addr} {n : Nat} (h : U8R w A n) (p : Addr) (y : UInt8) : U8R (w.setCell p (bv y)) A n := by
  intro hn
  obtain ⟨g, e, hg, hc⟩ := h hn
  refine ⟨g, e, by simpa using hg, fun i hi => ?_⟩
  obtain ⟨⟨x, hx⟩, hf⟩ := hc i hi
  refine ⟨(cell_put (p := p) (v := bv y) hx).elim (fun e => ⟨x, e⟩) fun e => ⟨y, e⟩, ?_⟩
  rw [World.frozen?_setCell]
  exact hf
theorem U64R.put {w : World} {A : Option Addr} {n : Nat} (h : U64R w A n) (p : Addr) (y : Int) : U64R (w.setCell p (.int .u64 y)) A n := by
  intro hn
  obtain ⟨g, e, hg, hc⟩ := h hn
  refine ⟨g, e, by simpa using hg, fun i hi => ?_⟩
  obtain ⟨⟨x, hx⟩, hf⟩ := hc i hi
  refine ⟨(cell_put (p := p) (v := .int .u64 y) hx).elim (fun e => ⟨x, e⟩) fun e => ⟨y, e⟩, ?_⟩
  rw [World.frozen?_setCell]
  exact hf
theorem U64R.mod {S : Nat → Prop} {w w' : World} {A : Option Addr} {n : Nat} (h : U64R w A n) (hm : Mod S w w') (hA : ∀ ad, A = some ad → ¬ S ad.block) : U64R w' A n := by
  intro hn
  obtain ⟨g, e, hg, hc⟩ := h hn
  refine ⟨g, e, Nat.lt_of_lt_of_le hg hm.size, fun i hi => ?_⟩
  obtain ⟨⟨x, hx⟩, hf⟩ := hc i hi
  have hb := hm.block g hg (hA _ e)
  exact ⟨⟨x, (World.cell?_of_block (a := ⟨g, i, none⟩) hb).trans hx⟩, (World.frozen?_of_block (a := ⟨g, i, none⟩) hb).trans hf⟩
theorem U8R.below {w w' : World} {A : Option Addr} {n : Nat} (h : U8R w A n) (hb : Below w.heap.size w w') : U8R w' A n := by
  intro hn
  obtain ⟨g, e, hg, hc⟩ := h hn
  refine ⟨g, e, Nat.lt_of_lt_of_le hg hb.size, fun i hi => ?_⟩
  obtain ⟨⟨x, hx⟩, hf⟩ := hc i hi
  have hk := hb.block g hg
  exact ⟨⟨x, (World.cell?_of_block (a := ⟨g, i, none⟩) hk).trans hx⟩, (World.frozen?_of_block (a := ⟨g, i, none⟩) hk).trans hf⟩
theorem spoil_u8 (x : UInt8) : IntKind.u8.wrap ((x.toNat : Int) + 1) = ((x + 1).toNat : Int) := by
  rw [IntKind.wrap_u8, UInt8.toNat_add]
  have : (1 : UInt8).toNat = 1 := rfl
  rw [this]
  omega
set_option maxRecDepth 100000 in
set_option maxHeartbeats 16000000 in
theorem spoil_any {B : Nat} {w : World} {cs : Array Value} {P : Pk} (h : PkO B w cs P) :
    Calls Tryd.prog 11 #[.agg cs] w fun e w' => e = .returned (.tuple #[]) ∧ Mod (fun b => B ≤ b) w w' := by
  obtain ⟨hv, C, hC, ht, A28, c28, e28, hk⟩ := h
  obtain ⟨A0, c0, e0, t0⟩ := ht 6 (by decide)
  obtain ⟨A1, c1, e1, t1⟩ := ht 18 (by decide)
  obtain ⟨A2, c2, e2, t2⟩ := ht 27 (by decide)
  obtain ⟨A3, c3, e3, t3⟩ := ht 37 (by decide)
  obtain ⟨A4, c4, e4, t4⟩ := ht 46 (by decide)
  obtain ⟨A5, c5, e5, t5⟩ := ht 55 (by decide)
  have hL : ∀ A n c, (Value.slice A n c) ∈ [Value.slice A0 (P.t 6).length c0, .slice A1 (P.t 18).length c1, .slice A2 (P.t 27).length c2, .slice A3 (P.t 37).length c3, .slice A4 (P.t 46).length c4, .slice A5 (P.t 55).length c5] → U8R w A n ∧ n ≤ 1000000 ∧ ∀ ad, A = some ad → B ≤ ad.block ∧ ad.block < C ∧ ad.block < w.heap.size := by
    have aux : ∀ {A : Option Addr} {b : List UInt8}, TxO w B C A b → ∀ ad, A = some ad → B ≤ ad.block ∧ ad.block < C ∧ ad.block < w.heap.size := fun h ad e => by
      obtain ⟨_, _, a3, a4, a5, _⟩ := h.2 ad e
      exact ⟨a3, a4, a5⟩
    have hlen : ∀ o ∈ txtOffs, (P.t o).length ≤ 1000000 := fun o ho => by
      obtain ⟨_, _, _, _, _, _, h⟩ := hv.txts o ho
      exact h
    intro A n c hm
    simp only [List.mem_cons, Value.slice.injEq, List.not_mem_nil, or_false] at hm
    rcases hm with ⟨rfl, rfl, _⟩ | ⟨rfl, rfl, _⟩ | ⟨rfl, rfl, _⟩ | ⟨rfl, rfl, _⟩ | ⟨rfl, rfl, _⟩ | ⟨rfl, rfl, _⟩
    · exact ⟨t0.u8r, hlen 6 (by decide), aux t0⟩
    · exact ⟨t1.u8r, hlen 18 (by decide), aux t1⟩
    · exact ⟨t2.u8r, hlen 27 (by decide), aux t2⟩
    · exact ⟨t3.u8r, hlen 37 (by decide), aux t3⟩
    · exact ⟨t4.u8r, hlen 46 (by decide), aux t4⟩
    · exact ⟨t5.u8r, hlen 55 (by decide), aux t5⟩
  have hK : U64R w A28 P.k.length ∧ P.k.length ≤ 1000000 ∧ ∀ ad, A28 = some ad → C ≤ ad.block ∧ ad.block < w.heap.size := by
    obtain ⟨_, _, _, _, _, _, h⟩ := hv.keep
    exact ⟨hk.u64r, h, fun ad e => by obtain ⟨_, _, a3, a4, _⟩ := hk.2 ad e; exact ⟨a3, a4⟩⟩
  have hB1 : Blk (w.alloc (.cells cs 44)) w.heap.size 44 cs := Blk.new _ _ _
  have a6 := (hB1.cell 6).trans e0
  have a18 := (hB1.cell 18).trans e1
  have a27 := (hB1.cell 27).trans e2
  have a37 := (hB1.cell 37).trans e3
  have a46 := (hB1.cell 46).trans e4
  have a55 := (hB1.cell 55).trans e5
  have hB2 : Blk ((w.alloc (.cells cs 44)).alloc (.cells #[.slice A0 (P.t 6).length c0, .slice A1 (P.t 18).length c1, .slice A2 (P.t 27).length c2, .slice A3 (P.t 37).length c3, .slice A4 (P.t 46).length c4, .slice A5 (P.t 55).length c5] 22)) w.heap.size 44 cs := hB1.alloc _
  have hG2 : Blk ((w.alloc (.cells cs 44)).alloc (.cells #[.slice A0 (P.t 6).length c0, .slice A1 (P.t 18).length c1, .slice A2 (P.t 27).length c2, .slice A3 (P.t 37).length c3, .slice A4 (P.t 46).length c4, .slice A5 (P.t 55).length c5] 22)) (w.heap.size + 1) 22 #[.slice A0 (P.t 6).length c0, .slice A1 (P.t 18).length c1, .slice A2 (P.t 27).length c2, .slice A3 (P.t 37).length c3, .slice A4 (P.t 46).length c4, .slice A5 (P.t 55).length c5] := by simpa using Blk.new (w.alloc (.cells cs 44)) 22 #[.slice A0 (P.t 6).length c0, .slice A1 (P.t 18).length c1, .slice A2 (P.t 27).length c2, .slice A3 (P.t 37).length c3, .slice A4 (P.t 46).length c4, .slice A5 (P.t 55).length c5]
  have hb2 : Below w.heap.size w ((w.alloc (.cells cs 44)).alloc (.cells #[.slice A0 (P.t 6).length c0, .slice A1 (P.t 18).length c1, .slice A2 (P.t 27).length c2, .slice A3 (P.t 37).length c3, .slice A4 (P.t 46).length c4, .slice A5 (P.t 55).length c5] 22)) := (below_new w _).alloc (by simp) _
  have HB2 := Lib.hid hB2
  have HG2 := Lib.hid hG2
  have HT2 := Lib.hid hb2
  have HK := Lib.hid hK
  have HE28 := Lib.hid e28
  have hL2 : ∀ A n c, (Value.slice A n c) ∈ (#[.slice A0 (P.t 6).length c0, .slice A1 (P.t 18).length c1, .slice A2 (P.t 27).length c2, .slice A3 (P.t 37).length c3, .slice A4 (P.t 46).length c4, .slice A5 (P.t 55).length c5] : Array Value) → U8R w A n ∧ n ≤ 1000000 ∧ ∀ ad, A = some ad → B ≤ ad.block ∧ ad.block < C ∧ ad.block < w.heap.size := fun A n c hm => hL A n c (List.mem_toArray.1 hm)
  have HL := Lib.hid hL2
  have hSZ : (#[.slice A0 (P.t 6).length c0, .slice A1 (P.t 18).length c1, .slice A2 (P.t 27).length c2, .slice A3 (P.t 37).length c3, .slice A4 (P.t 46).length c4, .slice A5 (P.t 55).length c5] : Array Value).size = 6 := rfl
  have hAL : ∀ v ∈ (#[.slice A0 (P.t 6).length c0, .slice A1 (P.t 18).length c1, .slice A2 (P.t 27).length c2, .slice A3 (P.t 37).length c3, .slice A4 (P.t 46).length c4, .slice A5 (P.t 55).length c5] : Array Value), ∃ A n c, v = .slice A n c := by
    intro v hv
    have hv := List.mem_toArray.1 hv
    simp only [List.mem_cons, List.not_mem_nil, or_false] at hv
    rcases hv with rfl | rfl | rfl | rfl | rfl | rfl <;> exact ⟨_, _, _, rfl⟩
  have HAL := Lib.hid hAL
  have HSZ := Lib.hid hSZ
  have HC := Lib.hid hC
  clear t0 t1 t2 t3 t4 t5 e0 e1 e2 e3 e4 e5 ht hk hv hB1 hB2 hG2 hb2 hL hL2 hK e28 hAL hSZ hC
  go_enter Tryd.func11, Tryd.ntmps11
  go_wp2_with fail
  clear a6 a18 a27 a37 a46 a55
  generalize ((w.alloc (.cells cs 44)).alloc (.cells #[.slice A0 (P.t 6).length c0, .slice A1 (P.t 18).length c1, .slice A2 (P.t 27).length c2, .slice A3 (P.t 37).length c3, .slice A4 (P.t 46).length c4, .slice A5 (P.t 55).length c5] 22)) = W2 at *
  generalize (#[.slice A0 (P.t 6).length c0, .slice A1 (P.t 18).length c1, .slice A2 (P.t 27).length c2, .slice A3 (P.t 37).length c3, .slice A4 (P.t 46).length c4, .slice A5 (P.t 55).length c5] : Array Value) = R at *
  go_loopw [3] (fun i wr => ∃ k : Nat, k ≤ 6 ∧ i = .int .i64 k ∧ Mod (fun b => B ≤ b ∧ b < C ∧ b < w.heap.size) W2 wr ∧ ∀ A n c, (Value.slice A n c) ∈ R → U8R wr A n) (fun i _ => 6 - (intOf i).toNat)
  case atStart => exact ⟨0, by omega, rfl, Mod.refl _ _, fun A n c hm => (HL.out A n c hm).1.below HT2.out⟩
  case round =>
    obtain ⟨k, hk, rfl, hM, hU⟩ := hrel
    obtain ⟨wo, rfl⟩ : ∃ wo : World, wo = wr := ⟨_, rfl⟩
    by_cases hlt : k < 6
    · have hkR : k < R.size := by rw [HSZ.out]; exact hlt
      have hmem : R[k] ∈ R := by simp
      obtain ⟨A, n, c, hR⟩ := HAL.out _ hmem
      have c0 : wo.cell? ⟨w.heap.size + 1, k, none⟩ = some (.slice A n c) := by rw [(HG2.out.mod hM (fun e => by have := e.2.2; omega)).cell, Array.getElem?_eq_getElem hkR, hR]
      rw [hR] at hmem
      have HRK : Hid (R[k]? = some (.slice A n c)) := (by show _ = _; rw [Array.getElem?_eq_getElem hkR, hR])
      have HM := Lib.hid hM
      have HU := Lib.hid hU
      have HME := Lib.hid hmem
      have hn6 := (HL.out A n c hmem).2.1
      clear hM hU hmem hR hkR
      go_wp2_with fail
      clear c0
      go_loopw [4] (fun i wr => ∃ j : Nat, j ≤ n ∧ i = .int .i64 j ∧ Mod (fun b => B ≤ b ∧ b < C ∧ b < w.heap.size) W2 wr ∧ ∀ A n c, (Value.slice A n c) ∈ R → U8R wr A n) (fun i _ => n - (intOf i).toNat)
      case atStart => exact ⟨0, by omega, rfl, HM.out, HU.out⟩
      case round =>
        obtain ⟨j, hj, rfl, hM, hU⟩ := hrel
        have c0 := ((HG2.out.mod hM (fun e => by have := e.2.2; omega)).cell k).trans HRK.out
        by_cases hjn : j < n
        · obtain ⟨g, rfl, hgl, hcs⟩ := hU A n c HME.out (by omega)
          obtain ⟨⟨x, c1⟩, f1⟩ := hcs j hjn
          have hx := spoil_u8 x
          unfold bv at c1
          have hS := (HL.out _ n c HME.out).2.2 _ rfl
          have HM' := Lib.hid (Mod.set hM (p := ⟨g, j, none⟩) (fun _ => hS) (bv (x + 1)))
          have HU' := Lib.hid (fun A' n' c' hm => (hU A' n' c' hm).put ⟨g, j, none⟩ (x + 1))
          unfold bv at HM' HU'
          generalize x + 1 = y at hx HM' HU'
          clear hM hU hcs hS hgl
          go_wp2_with fail
          go_roundw
          case rel => exact ⟨j + 1, by omega, by go_num, HM'.out, HU'.out⟩
          case measure => simp [intOf]; omega
        · obtain rfl : j = n := by omega
          have HM' := Lib.hid hM
          have HU' := Lib.hid hU
          clear hM hU
          go_wp2_with fail
          go_roundw
          case rel => exact ⟨k + 1, by omega, by go_num, HM'.out, HU'.out⟩
          case measure => simp [intOf]; omega
    · obtain rfl : k = 6 := by omega
      have HM := Lib.hid hM
      have HU64 := Lib.hid (((HK.out.1.mod (Mod.below (S := fun _ => False) HT2.out (Nat.le_refl _)) (fun ad e h => h)).mod hM (fun ad e h => by have := (HK.out.2.2 ad e).1; have := h.2.1; omega)))
      have hn28 := HK.out.2.1
      clear hM hU
      go_wp2_with fail
      go_loopw [5] (fun i wr => ∃ j : Nat, j ≤ P.k.length ∧ i = .int .i64 j ∧ Mod (fun b => B ≤ b ∧ b < w.heap.size) W2 wr ∧ U64R wr A28 P.k.length) (fun i _ => P.k.length - (intOf i).toNat)
      case atStart => exact ⟨0, by omega, rfl, HM.out.mono fun b _ e => ⟨e.1, e.2.2⟩, HU64.out⟩
      case round =>
        obtain ⟨j, hj, rfl, hM, hU⟩ := hrel
        have c0 := ((HB2.out.mod hM (fun e => by have := e.2; omega)).cell 28).trans HE28.out
        by_cases hjn : j < P.k.length
        · obtain ⟨g, e, hgl, hcs⟩ := hU (by omega)
          obtain ⟨⟨x, c1⟩, f1⟩ := hcs j hjn
          have hS := HK.out.2.2 _ e
          subst e
          have HM' := Lib.hid (Mod.set hM (p := ⟨g, j, none⟩) (fun _ => ⟨Nat.le_trans HC.out hS.1, hS.2⟩) (.int .u64 (IntKind.u64.wrap (x + 1))))
          have HU' := Lib.hid (hU.put ⟨g, j, none⟩ (IntKind.u64.wrap (x + 1)))
          clear hM hU hcs hS hgl
          go_wp2_with fail
          go_roundw
          case rel => exact ⟨j + 1, by omega, by go_num, by simpa using HM'.out, by simpa using HU'.out⟩
          case measure => simp [intOf]; omega
        · obtain rfl : j = P.k.length := by omega
          have HM' := Lib.hid hM
          clear hM hU
          go_wp2_with fail
          go_end0
          exact ⟨rfl, (Mod.below HT2.out (Nat.le_refl _)).trans (HM'.out.mono fun b _ e => e.1)⟩
end Go.Proofs.YtdckdjkkaangmaaDoor
