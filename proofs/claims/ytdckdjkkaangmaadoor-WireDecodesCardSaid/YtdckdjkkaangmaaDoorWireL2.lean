/- A packet on its own, walked. -/
import Derived.Test.YtdckdjkkaangmaaDoorWireK2
namespace Go.Proofs.YtdckdjkkaangmaaDoor
set_option linter.unusedVariables false
set_option linter.unusedSimpArgs false
set_option maxRecDepth 100000
open Go.RowKit

theorem results_blk {P : Program} {fn : Func} {p : Tmp} {ty : TypeId} (h : fn.results = #[.cell p ty]) (tmps : Array Value) {w : World} {g : Nat} {t : TypeId} {cs : Array Value} (hB : Blk w g t cs) {d : TypeDesc}
    (hp : tmps.getD p undef = .pointer (some ⟨g, 0, none⟩)) (hu : P.underlying ty = some d) (hd : (match d with | .struct _ | .array _ _ => true | _ => false) = true) (hi : (P.info? ty).map (·.size) = some cs.size) :
    (results fn tmps).run P w = .ok (.agg cs) w := results_cell_row h tmps w g t cs _ d hp hB hu hd hi
theorem pk_size {cs : Array Value} (h : cs.size = 56) : (Tryd.prog.info? 44).map (·.size) = some cs.size := by rw [h]; exact info_pk
theorem OwnT.fin {B : Nat} {w w1 : World} {cs cs' : Array Value} {P : Pk} (h : OwnT B w cs cs' P 6) (hP : PkV w cs P) (hB : B ≤ w.heap.size) (hb : Below w.heap.size w w1) {pb : Nat} (hpb : pb < B) {A : Option Addr} {c : Nat} (ho : w1.ownsRow w.heap.size 24 1 (.slice A P.k.length c) P.k.length (P.k.map u64v)) :
    PkO B (w1.setCell ⟨pb, 28, none⟩ (.slice A P.k.length c)) (cs'.setIfInBounds 28 (.slice A P.k.length c)) P := by
  have hm : Mod (fun b => b = pb) w (w1.setCell ⟨pb, 28, none⟩ (.slice A P.k.length c)) := Mod.set (S := fun b => b = pb) (Mod.below hb (Nat.le_refl _)) (p := ⟨pb, 28, none⟩) (fun _ => rfl) _
  have hm1 : Mod (fun b => b = pb) w1 (w1.setCell ⟨pb, 28, none⟩ (.slice A P.k.length c)) := Mod.set (S := fun b => b = pb) (Mod.refl _ _) (p := ⟨pb, 28, none⟩) (fun _ => rfl) _
  have hlt : 28 < cs'.size := by rw [h.size]; omega
  have hs := hb.size
  have hk := (KpO.own ho).mod hm1 fun k h1 h2 e => by omega
  have hT : ∀ o ∈ txtOffs, TxOwn B w.heap.size (w1.setCell ⟨pb, 28, none⟩ (.slice A P.k.length c)) (cs'.setIfInBounds 28 (.slice A P.k.length c)) P o := fun o hoo => by
    obtain ⟨j, hj, rfl⟩ := txtOff_all hoo
    exact (h.done j hj hj).mod hm (fun k h1 h2 e => by omega) (Nat.le_refl _) (by rw [set_get hlt, if_neg ((txt_apart _ hoo).2.2.1)])
  obtain ⟨_, _, e1, hc1, hc2⟩ := own_slice ho
  injection e1 with e1 e2 e3
  subst e1 e3
  have hget : ∀ o, o ∉ txtOffs → o ≠ 28 → (cs'.setIfInBounds 28 (.slice A P.k.length c))[o]? = cs[o]? := fun o h1 h2 => by rw [set_get hlt, if_neg h2]; exact h.same o h1
  have h28 : (cs'.setIfInBounds 28 (.slice A P.k.length c))[28]? = some (.slice A P.k.length c) := by rw [set_get hlt, if_pos rfl]
  refine ⟨⟨by rw [Array.size_setIfInBounds]; exact h.size, ?_, fun o ho => ?_, fun o ho => ?_, fun o ho => ?_, ⟨A, c, h28, hk.1, hc1, by simpa [maxLen] using hc2, ?_⟩, hP.keeps, fun A' n' c' e ad ea => ?_⟩, w.heap.size, hB, fun o ho => ?_, A, c, h28, hk⟩
  · rw [hget 0 (by decide) (by decide)]
    exact hP.kind
  · rw [hget o (offs_apart.2 o ho).2.1 (offs_apart.2 o ho).2.2.1]
    exact hP.ints o ho
  · rw [hget o (offs_apart.1 o ho).2.1 (offs_apart.1 o ho).2.2.1]
    exact hP.nums o ho
  · obtain ⟨A, c, e, h1, h2, h3⟩ := hT o ho
    obtain ⟨_, _, _, _, _, _, h4⟩ := hP.txts o ho
    exact ⟨A, c, e, h3.1, h1, h2, h4⟩
  · obtain ⟨_, _, _, _, _, _, h4⟩ := hP.keep
    exact h4
  · rw [h28] at e
    injection e with e
    injection e with e
    exact (hk.2 ad (e.trans ea)).2.2.2.1
  · obtain ⟨A, c, e, h1, h2, h3⟩ := hT o ho
    exact ⟨A, c, e, h3⟩
set_option maxRecDepth 100000 in
set_option maxHeartbeats 16000000 in
theorem own_any {w : World} {cs : Array Value} {P : Pk} (hP : PkV w cs P) :
    Calls Tryd.prog 18 #[.agg cs] w fun e w' => (∃ cs', e = .returned (.agg cs') ∧ PkO w.heap.size w' cs' P) ∧ Below w.heap.size w w' := by
  have hB1 : Blk (w.alloc (.cells cs 44)) w.heap.size 44 cs := Blk.new _ _ _
  have hbt := below_new w (.cells cs 44)
  have HP := Lib.hid hP
  have hs1 : (w.alloc (.cells cs 44)).heap.size = w.heap.size + 1 := by simp
  go_enter Tryd.func18, Tryd.ntmps18
  go_wp2_with (refine wpList_alloc_blk rfl rfl zero_pk ?_; rintro g w1 hg hG hb1; refine Hid.out ?_)
  refine Lib.hid ?_
  have HG := Lib.hid hG
  have HB := Lib.hid (hB1.below hb1 hB1.lt)
  have HT := Lib.hid (below_call hbt (by omega) hb1)
  have HGL : Hid (g = w.heap.size + 1 ∧ w.heap.size + 2 ≤ w1.heap.size) := ⟨by omega, by have := hG.lt; omega⟩
  clear hB1 hbt hP hs1 hG hb1 hg
  have hR : Blk (w1.alloc (.cells #[.pointer (some ⟨w.heap.size, 6, none⟩), .pointer (some ⟨w.heap.size, 18, none⟩), .pointer (some ⟨w.heap.size, 27, none⟩), .pointer (some ⟨w.heap.size, 37, none⟩), .pointer (some ⟨w.heap.size, 46, none⟩), .pointer (some ⟨w.heap.size, 55, none⟩)] 94)) w1.heap.size 94 #[.pointer (some ⟨w.heap.size, 6, none⟩), .pointer (some ⟨w.heap.size, 18, none⟩), .pointer (some ⟨w.heap.size, 27, none⟩), .pointer (some ⟨w.heap.size, 37, none⟩), .pointer (some ⟨w.heap.size, 46, none⟩), .pointer (some ⟨w.heap.size, 55, none⟩)] := Blk.new _ _ _
  have hb2 := below_new w1 (.cells #[.pointer (some ⟨w.heap.size, 6, none⟩), .pointer (some ⟨w.heap.size, 18, none⟩), .pointer (some ⟨w.heap.size, 27, none⟩), .pointer (some ⟨w.heap.size, 37, none⟩), .pointer (some ⟨w.heap.size, 46, none⟩), .pointer (some ⟨w.heap.size, 55, none⟩)] 94)
  have hkr : ∀ k, k < 6 → (#[.pointer (some ⟨w.heap.size, 6, none⟩), .pointer (some ⟨w.heap.size, 18, none⟩), .pointer (some ⟨w.heap.size, 27, none⟩), .pointer (some ⟨w.heap.size, 37, none⟩), .pointer (some ⟨w.heap.size, 46, none⟩), .pointer (some ⟨w.heap.size, 55, none⟩)] : Array Value)[k]? = some (.pointer (some ⟨w.heap.size, txtOff k, none⟩)) := by
    intro k hk
    have : k = 0 ∨ k = 1 ∨ k = 2 ∨ k = 3 ∨ k = 4 ∨ k = 5 := by omega
    rcases this with rfl | rfl | rfl | rfl | rfl | rfl <;> rfl
  have HR := Lib.hid hR
  have HB2 := Lib.hid hb2
  have HKR := Lib.hid hkr
  have HS2 : Hid ((w1.alloc (.cells #[.pointer (some ⟨w.heap.size, 6, none⟩), .pointer (some ⟨w.heap.size, 18, none⟩), .pointer (some ⟨w.heap.size, 27, none⟩), .pointer (some ⟨w.heap.size, 37, none⟩), .pointer (some ⟨w.heap.size, 46, none⟩), .pointer (some ⟨w.heap.size, 55, none⟩)] 94)).heap.size = w1.heap.size + 1) := (by show _ = _; simp)
  clear hR hb2 hkr
  go_wp2_with fail
  generalize w1.alloc (.cells #[.pointer (some ⟨w.heap.size, 6, none⟩), .pointer (some ⟨w.heap.size, 18, none⟩), .pointer (some ⟨w.heap.size, 27, none⟩), .pointer (some ⟨w.heap.size, 37, none⟩), .pointer (some ⟨w.heap.size, 46, none⟩), .pointer (some ⟨w.heap.size, 55, none⟩)] 94) = w2 at *
  generalize (#[.pointer (some ⟨w.heap.size, 6, none⟩), .pointer (some ⟨w.heap.size, 18, none⟩), .pointer (some ⟨w.heap.size, 27, none⟩), .pointer (some ⟨w.heap.size, 37, none⟩), .pointer (some ⟨w.heap.size, 46, none⟩), .pointer (some ⟨w.heap.size, 55, none⟩)] : Array Value) = R at *
  have HTT := Lib.hid (below_call HT.out HT.out.size HB2.out)
  have HBB := Lib.hid (HB.out.below HB2.out HB.out.lt)
  have HGG := Lib.hid (HG.out.below HB2.out HG.out.lt)
  go_loopw [19] (fun i wr => ∃ (k : Nat) (cs' : Array Value), k ≤ 6 ∧ i = .int .i64 k ∧ OwnT w2.heap.size wr cs cs' P k ∧ Blk wr w.heap.size 44 cs' ∧ Mod (fun b => b = w.heap.size) w2 wr) (fun i _ => 6 - (intOf i).toNat)
  case atStart => exact ⟨0, cs, by omega, rfl, ⟨HP.out.size, fun _ _ => rfl, fun j h _ => by omega, fun _ _ _ => rfl⟩, HBB.out, Mod.refl _ _⟩
  case round =>
    obtain ⟨k, cs', hk, rfl, hO, hB, hM⟩ := hrel
    have hbw : Below w.heap.size w wr := HTT.out.trans (hM.to_below HTT.out.size fun b hb e => by omega)
    by_cases hlt : k < 6
    · have c0 : wr.cell? ⟨w1.heap.size, k, none⟩ = some (.pointer (some ⟨w.heap.size, txtOff k, none⟩)) := ((HR.out.mod hM (fun e => by have := HGL.out.2; omega)).cell k).trans (HKR.out k hlt)
      obtain ⟨A, c, e1, hby, _, _, hl⟩ := (HP.out.below hbw).txts _ (txtOff_mem hlt)
      have c1 := (hB.cell (txtOff k)).trans ((hO.rest k (Nat.le_refl _) hlt).trans e1)
      have f1 := hB.free (txtOff k)
      have HC := Lib.hid (sclone_any A c (P.t (txtOff k)) wr hby (by omega))
      have HO := Lib.hid hO
      have HBw := Lib.hid hB
      have HM := Lib.hid hM
      clear e1 hby hl hO hB hM hbw
      generalize hT : P.t (txtOff k) = tx at *
      generalize ho : txtOff k = o at *
      go_wp2_with fail
      refine HC.out.mono ?_
      rintro e w3 ⟨⟨A3, c3, rfl, ho3⟩, hb3⟩
      have hB3 := HBw.out.below hb3 HBw.out.lt
      have hlc : o < cs'.size := by rw [← ho, HO.out.size]; exact (txt_apart _ (txtOff_mem hlt)).2.2.2.2
      have c3' := hB3.cell o
      rw [Array.getElem?_eq_getElem hlc] at c3'
      have f3 := hB3.free o
      have hs2 : w2.heap.size ≤ wr.heap.size := HM.out.size
      have HO3 := Lib.hid (HO.out.step (pb := w.heap.size) (A := A3) (c := c3) hlt hb3 (by have := HGL.out.2; have := HS2.out; omega) hs2 (by rw [ho, hT]; exact ho3))
      have HB3 := Lib.hid (hB3.put o (.slice A3 tx.length c3))
      have HM3 : Hid (Mod (fun b => b = w.heap.size) w2 (w3.setCell ⟨w.heap.size, o, none⟩ (.slice A3 tx.length c3))) := Mod.set (S := fun b => b = w.heap.size) (HM.out.trans (Mod.below hb3 (Nat.le_refl _))) (p := ⟨w.heap.size, o, none⟩) (fun _ => rfl) _
      rw [ho, hT] at HO3
      generalize cs'[o] = u at c3'
      clear c0 c1 f1 ho3 hb3 hB3 hlc hs2
      go_wp2_with fail
      go_roundw
      case rel => exact ⟨k + 1, _, by omega, by go_num, HO3.out, HB3.out, HM3.out⟩
      case measure => simp [intOf]; omega
    · obtain rfl : k = 6 := by omega
      obtain ⟨A, c, e1, hby, _, _, hl⟩ := (HP.out.below hbw).keep
      have h28 : cs'[28]? = cs[28]? := hO.same 28 (by decide)
      have c1 := (hB.cell 28).trans (h28.trans e1)
      have HC := Lib.hid (kclone_any A c P.k wr hby hl)
      have HO := Lib.hid hO
      have HBw := Lib.hid hB
      have HM := Lib.hid hM
      have HPV := Lib.hid (HP.out.below hbw)
      have HBW := Lib.hid hbw
      clear e1 hby hl hO hB hM hbw h28
      go_wp2_with fail
      refine HC.out.mono ?_
      rintro e w3 ⟨⟨A3, c3, rfl, ho3⟩, hb3⟩
      have hB3 := HBw.out.below hb3 HBw.out.lt
      have c3' := hB3.cell 28
      have h28 : 28 < cs'.size := by rw [HO.out.size]; omega
      rw [Array.getElem?_eq_getElem h28] at c3'
      have f3 := hB3.free 28
      have hs2 : w2.heap.size ≤ wr.heap.size := HM.out.size
      have HF := Lib.hid (HO.out.fin HPV.out hs2 hb3 (pb := w.heap.size) (by have := HGL.out.2; have := HS2.out; omega) ho3)
      have HB4 := Lib.hid (hB3.put 28 (.slice A3 P.k.length c3))
      have hM4 : Mod (fun b => b = w.heap.size) w2 (w3.setCell ⟨w.heap.size, 28, none⟩ (.slice A3 P.k.length c3)) := Mod.set (S := fun b => b = w.heap.size) (HM.out.trans (Mod.below hb3 (Nat.le_refl _))) (p := ⟨w.heap.size, 28, none⟩) (fun _ => rfl) _
      have HG4 := Lib.hid (HGG.out.mod hM4 fun e => by have := HGL.out.1; omega)
      have HT4 : Hid (Below w.heap.size w (w3.setCell ⟨w.heap.size, 28, none⟩ (.slice A3 P.k.length c3))) := HTT.out.trans (hM4.to_below HTT.out.size fun b hb e => by omega)
      generalize cs'[28] = u at c3'
      have HSZ : Hid ((cs'.setIfInBounds 28 (.slice A3 P.k.length c3)).size = 56) := (by show _ = _; rw [Array.size_setIfInBounds]; exact HO.out.size)
      clear c1 ho3 hb3 hB3 h28 hs2 hM4
      go_wp2_with (refine wpList_load_blk rfl (ty := 44) rfl rfl HB4.out Tryd.underlying44 rfl (pk_size HSZ.out) ?_; refine Hid.out ?_)
      refine Lib.hid ?_
      go_wp2_with (refine wpList_store_blk rfl rfl rfl rfl HG4.out (by rw [HSZ.out]; rfl) (pk_size HSZ.out) HF.out.pk.one ?_; rintro w5 hB5 hm5; refine Hid.out ?_)
      refine Lib.hid ?_
      go_wp2_with fail
      refine bodyPost_ret (v := .agg (cs'.setIfInBounds 28 (.slice A3 P.k.length c3))) (results_blk Tryd.results18 _ hB5 rfl Tryd.underlying44 rfl (pk_size HSZ.out)) rfl ?_
      have hgl := HGL.out
      have hs2 := HS2.out
      exact ⟨⟨_, rfl, (HF.out.mod hm5 fun k h1 h2 e => by omega).low (by omega)⟩, HT4.out.trans (hm5.to_below HT4.out.size fun b hb e => by omega)⟩
end Go.Proofs.YtdckdjkkaangmaaDoor
