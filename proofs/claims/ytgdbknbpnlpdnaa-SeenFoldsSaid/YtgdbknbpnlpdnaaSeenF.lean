/- DeleteFunc at marks, on a row of the call's own. -/
import Derived.Test.YtgdbknbpnlpdnaaSeenE
namespace Go.Proofs.Ytgdbknbpnlpdnaa
set_option linter.unusedVariables false
set_option linter.unusedSimpArgs false
open Go.RowKit

/-- A predicate on marks that hangs on K alone, which calls and a turn of the row keep. -/
structure PredK (g : Nat) (lb : Array Value) (p : Mk → Bool) (row : Option Nat) (K : World → Prop) : Prop where
  run : ∀ (W : World) (x : Mk), K W → Calls Try.prog g (#[x.val] ++ lb) W fun e w' => e = .returned (.bool (p x)) ∧ Below W.heap.size W w'
  call : ∀ W W' : World, K W → Below W.heap.size W W' → K W'
  own : ∀ W W' : World, K W → W.grownBy W' row → K W'
theorem PredK.toM {g : Nat} {lb : Array Value} {p : Mk → Bool} {row : Option Nat} {K : World → Prop} (h : PredK g lb p row K) {w : World} (hK : K w) : PredM g lb p w := fun W x hb =>
  (h.run W x (h.call w W hK hb)).mono fun _ _ ⟨he, hb2⟩ => ⟨he, below_call hb hb.size hb2⟩
theorem findI_cases {α : Type} (p : α → Bool) (l : List α) : (findI p l = -1 ∧ l.filter (fun x => !p x) = l) ∨ ∃ k, k < l.length ∧ findI p l = (k : Int) ∧ (l.take (k + 1)).filter (fun x => !p x) = l.take k := by
  unfold findI
  split
  · rename_i i h
    obtain ⟨hi, h1, h2⟩ := List.findIdx?_eq_some_iff_getElem.1 h
    refine .inr ⟨i, hi, rfl, ?_⟩
    rw [List.take_succ_eq_append_getElem hi, List.filter_append]
    have e1 : [l[i]].filter (fun x => !p x) = [] := by simp [h1]
    rw [e1, List.append_nil, List.filter_eq_self]
    intro x hx
    obtain ⟨j, hj, rfl⟩ := List.mem_take_iff_getElem.1 hx
    have := h2 j (by omega)
    simpa using this
  · rename_i h
    refine .inl ⟨rfl, ?_⟩
    rw [List.findIdx?_eq_none_iff] at h
    rw [List.filter_eq_self]
    intro x hx
    simp [h x hx]
theorem take_set_snoc {α : Type} (l : List α) (i : Nat) (x : α) (hi : i < l.length) : (l.set i x).take (i + 1) = l.take i ++ [x] := by
  rw [List.take_succ_eq_append_getElem (by simpa using hi)]
  simp [List.take_set_of_le]
theorem drop_set_lt {α : Type} (l : List α) (i j : Nat) (x : α) (h : i < j) : (l.set i x).drop j = l.drop j := by
  rw [List.drop_set]
  simp [show i < j by omega]

def DelPost (base : Nat) (ms : List Mk) (e : Ending) (w' : World) : Prop := ∃ v, e = .returned v ∧ OwnM w' base v ms
set_option maxRecDepth 100000 in
set_option maxHeartbeats 1000000 in
theorem delete_any (A : Option Addr) (n c base : Nat) (ms : List Mk) (hn : n = ms.length) (p : Mk → Bool) (gf : Nat) (lb : Array Value) (eg : ∀ args w, (callFunc gf args).run Try.prog w = .ok (.enter gf args) w) (K : World → Prop)
    (w : World) (hown : OwnM w base (.slice A n c) ms) (hp : PredK gf lb p (A.map (·.block)) K) (hK : K w) (hm : ms.length ≤ 1000000) (hbase : base ≤ w.heap.size) :
    Calls Try.prog 50 #[.slice A n c, .func (.func gf) #[] lb] w fun e w' => DelPost base (ms.filter fun x => !p x) e w' ∧ w.grownBy w' (A.map (·.block)) := by
  subst hn
  have hidx := indexM A c ms p gf lb eg w hown.marks (by omega) (hp.toM hK)
  rcases findI_cases p ms with ⟨hf, hfil⟩ | ⟨k0, hk0, hf, hfil⟩
  · rw [hf] at hidx
    rw [hfil]
    have HOWN := Lib.hid hown
    clear hf hfil hp hK hown
    go_enter Try.func50, Try.ntmps50
    go_wp2_with (go_at_call 61; refine hidx.mono ?_; clear hidx; rintro e w1 ⟨rfl, hb1⟩)
    go_ret
    have hgr := World.grownBy_of_below hb1
    exact ⟨⟨_, rfl, HOWN.out.call hb1⟩, ⟨hgr.os, hgr.tape, hgr.output, hgr.size, fun k hk _ => hgr.block k hk (by simp)⟩⟩
  · obtain ⟨g, c', e, hg, hgw, hc1, hc2⟩ := hown.ptr (by omega)
    injection e with e1 _ e2
    subst e1 e2
    simp only [maxLen] at hc2
    rw [hf] at hidx
    have HFIL := Lib.hid hfil
    have hd : ((k0 : Int) == -1) = false := beq_eq_false_iff_ne.2 (by omega)
    have HOWN := Lib.hid hown
    have HPK := Lib.hid hp
    have HK := Lib.hid hK
    clear hf hfil hp hK hown
    go_enter Try.func50, Try.ntmps50
    go_wp2_with (go_at_call 61; refine hidx.mono ?_; clear hidx; rintro e w1 ⟨rfl, hb1⟩)
    go_loopw [5, 6] (fun s5 s6 wr => ∃ i j : Nat, s5 = .int .i64 i ∧ s6 = .int .i64 j ∧ i < j ∧ j ≤ ms.length ∧ w.grownBy wr (some g) ∧ K wr ∧ ∃ ms', ms'.length = ms.length ∧ OwnM wr base (.slice (some ⟨g, 0, none⟩) ms'.length c) ms' ∧ ms'.take i = (ms.take j).filter (fun x => !p x) ∧ ms'.drop j = ms.drop j) (fun _ s6 _ => ms.length - (intOf s6).toNat)
    case atStart =>
      have hgr := World.grownBy_of_below hb1
      exact ⟨k0, k0 + 1, rfl, by go_num, by omega, by omega, ⟨hgr.os, hgr.tape, hgr.output, hgr.size, fun k hk _ => hgr.block k hk (by simp)⟩, HPK.out.call _ _ HK.out hb1, ms, rfl, HOWN.out.call hb1, HFIL.out.symm, rfl⟩
    case round =>
      obtain ⟨i, j, rfl, rfl, hij, hj, hgr, hKr, ms', hl, ho, ht, hdr⟩ := hrel
      clear hb1 hgw hd
      have HG := Lib.hid hgr
      have HT := Lib.hid ht
      have HDR := Lib.hid hdr
      have HL := Lib.hid hl
      clear hgr ht hdr
      have hbw : base ≤ wr.heap.size := Nat.le_trans hbase HG.out.size
      by_cases hlt : j < ms.length
      · have hj' : j < ms'.length := by omega
        have hi' : i < ms'.length := by omega
        obtain ⟨c0, c1, c2, _, hgw, _⟩ := ho.at_ hj'
        have HX : Hid (ms'[j] = ms[j]) := by
          have := HDR.out
          rw [List.drop_eq_getElem_cons hj', List.drop_eq_getElem_cons hlt] at this
          exact (List.cons.inj this).1
        have HTK := Lib.hid (List.take_succ_eq_append_getElem hlt)
        have HDS : Hid (ms'.drop (j + 1) = ms.drop (j + 1)) := by
          have := HDR.out
          rw [List.drop_eq_getElem_cons hj', List.drop_eq_getElem_cons hlt] at this
          exact (List.cons.inj this).2
        rw [← HX.out] at HTK
        clear HX
        generalize hx : ms'[j] = x at c0 c1 c2 HTK
        clear hx hl
        have hcall := fun W (h : K W) => HPK.out.run W x h
        have HCALL := Lib.hid hcall
        clear hcall
        have hKa : K (wr.alloc (.cells #[.int .i64 x.p.toInt, .int .u64 (x.s.toNat : Int), .int .u64 (x.o.toNat : Int)] 38)) := HPK.out.call _ _ hKr (below_new _ _)
        go_wp2_with fail
        refine (HPK.out.run _ x hKa).mono ?_
        rintro e w2 ⟨rfl, hb2⟩
        have hbk := (Blk.new wr 38 #[.int .i64 x.p.toInt, .int .u64 (x.s.toNat : Int), .int .u64 (x.o.toNat : Int)]).below hb2 (by simp)
        have hK2 := HPK.out.call _ _ hKa hb2
        have ho2 := (ho.alloc (.cells #[.int .i64 x.p.toInt, .int .u64 (x.s.toNat : Int), .int .u64 (x.o.toNat : Int)] 38)).call hb2
        have hg2 : wr.grownBy w2 (some g) := only_trans (only_alloc (only_refl _ _) _) (by have h := World.grownBy_of_below hb2; exact ⟨h.os, h.tape, h.output, h.size, fun k hk _ => h.block k hk (by simp)⟩)
        have hg3 := Lib.hid (only_trans HG.out hg2)
        have hbw2 : base ≤ w2.heap.size := Nat.le_trans hbw hg2.size
        have hgw2 := (ho2.at_ hj').2.2.2.2.1
        clear ho c0 c1 c2 hKa hKr hb2
        cases hpx : p x with
        | true =>
          have HF : Hid ((ms.take (j + 1)).filter (fun x => !p x) = (ms.take j).filter (fun x => !p x)) := by
            show _ = _
            rw [HTK.out, List.filter_append]
            simp [hpx]
          clear hpx
          go_wp2_with fail
          go_roundw
          case rel => exact ⟨i, j + 1, rfl, by go_num, by omega, by omega, hg3.out, hK2, ms', HL.out, ho2, by rw [HF.out]; exact HT.out, HDS.out⟩
          case measure => simp [intOf]; omega
        | false =>
          have HF : Hid ((ms.take (j + 1)).filter (fun x => !p x) = (ms.take j).filter (fun x => !p x) ++ [x]) := by
            show _ = _
            rw [HTK.out, List.filter_append]
            simp [hpx]
          clear hpx
          obtain ⟨d0, d1, d2, hfr, _, _⟩ := ho2.at_ hi'
          have f0 := hfr (i * 3)
          have f1 := hfr (i * 3 + 1)
          have f2 := hfr (i * 3 + 2)
          have e0 : w2.cell? ⟨wr.heap.size, 0, none⟩ = some (.int .i64 x.p.toInt) := hbk.cell 0
          have e1 : w2.cell? ⟨wr.heap.size, 1, none⟩ = some (.int .u64 (x.s.toNat : Int)) := hbk.cell 1
          have e2 : w2.cell? ⟨wr.heap.size, 2, none⟩ = some (.int .u64 (x.o.toNat : Int)) := hbk.cell 2
          have HSET := Lib.hid (ho2.set i x)
          generalize ms'[i] = y at d0 d1 d2
          have hi2 : (i : Int) < (ms.length : Int) := by omega
          clear hfr ho2
          go_wp2_with fail
          go_roundw
          case rel => exact ⟨i + 1, j + 1, by go_num, by go_num, by omega, by omega, only_trans hg3.out HSET.out.2, HPK.out.own _ _ hK2 HSET.out.2, ms'.set i x, by rw [List.length_set]; exact HL.out, by have := HSET.out.1; rw [List.length_set]; exact this, by rw [take_set_snoc _ _ _ hi', HT.out, HF.out], by rw [drop_set_lt _ _ _ _ (by omega)]; exact HDS.out⟩
          case measure => simp [intOf]; omega
      · obtain rfl : j = ms.length := by omega
        have hca : ¬ c = i := by omega
        have ho3 : wr.ownsRow base 38 3 (.slice (some ⟨g, 0, none⟩) ms.length c) ms.length (Mk.row ms') := by unfold OwnM at ho; rw [hl] at ho; exact ho
        obtain ⟨w3, hcl, ho4, hg4⟩ := own_clear (P := Try.prog) (size := 3) (i := i) Try.underlying25 zero_mark rfl (by decide) (by decide) ho3 (by omega) (c - i) 0
        have HR : Hid (OwnM w3 base (.slice (some ⟨g, 0, none⟩) i c) (ms.filter fun x => !p x)) := by
          have h1 := HT.out
          rw [List.take_length] at h1
          have h2 : (ms.filter fun x => !p x).length = i := by rw [← h1, List.length_take]; omega
          rw [Mk.row_take, h1] at ho4
          show OwnM _ _ _ _
          unfold OwnM
          rw [h2]
          exact ho4
        clear hl ho ho3 ho4
        go_wp2_with fail
        go_ret
        exact ⟨⟨_, rfl, HR.out⟩, only_trans HG.out hg4⟩
end Go.Proofs.Ytgdbknbpnlpdnaa
