/- Fold's loop: each mark goes in, its producer's older one goes. -/
import Derived.Test.YtgdbknbpnlpdnaaFoldB
import Derived.Test.YtgdbknbpnlpdnaaSeenK
namespace Go.Proofs.Ytgdbknbpnlpdnaa
set_option linter.unusedVariables false
set_option linter.unusedSimpArgs false
open Go.RowKit

set_option maxHeartbeats 400000 in
theorem fold1_any (x m : Mk) (gb : Nat) (W : World) (hb : Blk W gb 38 (Mk.cells m).toArray) :
    Calls Try.prog 53 (#[x.val] ++ #[.pointer (some ⟨gb, 0, none⟩)]) W fun e w' => e = .returned (.bool (x.p.toInt == m.p.toInt)) ∧ Below W.heap.size W w' := by
  have hbx := hb.alloc (.cells #[.int .i64 x.p.toInt, .int .u64 (x.s.toNat : Int), .int .u64 (x.o.toNat : Int)] 38)
  have c0 : (W.alloc (.cells #[.int .i64 x.p.toInt, .int .u64 (x.s.toNat : Int), .int .u64 (x.o.toNat : Int)] 38)).cell? ⟨gb, 0, none⟩ = some (.int .i64 m.p.toInt) := (hbx.cell 0).trans rfl
  have d0 : (W.alloc (.cells #[.int .i64 x.p.toInt, .int .u64 (x.s.toNat : Int), .int .u64 (x.o.toNat : Int)] 38)).cell? ⟨W.heap.size, 0, none⟩ = some (.int .i64 x.p.toInt) := ((Blk.new _ _ _).cell 0).trans rfl
  have HB := Lib.hid (below_new W (.cells #[.int .i64 x.p.toInt, .int .u64 (x.s.toNat : Int), .int .u64 (x.o.toNat : Int)] 38))
  clear hb hbx
  show Calls Try.prog 53 #[.agg #[.int .i64 x.p.toInt, .int .u64 (x.s.toNat : Int), .int .u64 (x.o.toNat : Int)], .pointer (some ⟨gb, 0, none⟩)] W _
  go_enter Try.func53, Try.ntmps53
  go_wp2_with fail
  go_ret
  exact ⟨rfl, HB.out⟩
/-- The marks that are ahead of an offset. -/
def aheadF (q : UInt64) (L : List Mk) : List Mk := L.filter fun m => decide (m.o.toNat < q.toNat)
theorem aheadF_in {q : UInt64} {L : List Mk} {k : Nat} (hk : k < L.length) (h : L[k].o.toNat < q.toNat) : foldF (aheadF q (L.take (k + 1))) = stepF (foldF (aheadF q (L.take k))) L[k] := by
  unfold aheadF
  rw [filter_snoc _ L k hk, if_pos (decide_eq_true h), foldF_snoc]
theorem aheadF_out {q : UInt64} {L : List Mk} {k : Nat} (hk : k < L.length) (h : ¬ L[k].o.toNat < q.toNat) : aheadF q (L.take (k + 1)) = aheadF q (L.take k) := by
  unfold aheadF
  rw [filter_snoc _ L k hk, if_neg (by rw [decide_eq_false h]; decide), List.append_nil]
theorem aheadF_len (q : UInt64) (L : List Mk) (k : Nat) : (foldF (aheadF q (L.take k))).length ≤ L.length := by
  refine Nat.le_trans (foldF_len _ _ rfl) (Nat.le_trans (List.length_filter_le _ _) ?_)
  rw [List.length_take]
  exact Nat.min_le_right _ _
theorem aheadF_len2 (q : UInt64) (L : List Mk) (k : Nat) : (foldF (aheadF q (L.take k))).length ≤ k := by
  refine Nat.le_trans (foldF_len _ _ rfl) (Nat.le_trans (List.length_filter_le _ _) ?_)
  rw [List.length_take]
  exact Nat.min_le_left _ _
/-- What the row's sort must do. -/
def SortsM (w : World) (A : Option Addr) (c : Nat) (ms : List Mk) (B : Nat) : Prop :=
  Calls Try.prog 54 #[.slice A ms.length c, .func (.func 55) #[] #[]] w fun e w' =>
    e = .returned (.tuple #[]) ∧ ∃ S, S.Perm ms ∧ (S.Pairwise fun a b => a.p.toInt ≤ b.p.toInt) ∧ OwnM w' B (.slice A ms.length c) S ∧ Below B w w'
set_option maxHeartbeats 4000000 in
theorem fold_any (hsort : ∀ (w : World) (A : Option Addr) (c : Nat) (ms : List Mk) (B : Nat), OwnM w B (.slice A ms.length c) ms → B ≤ w.heap.size → ms.length ≤ 1000000 → SortsM w A c ms B)
    (A : Option Addr) (c : Nat) (ms : List Mk) (B : Option Addr) (d : Nat) (ns : List Mk) (q : UInt64) (w : World) (hA : Marks w A ms) (hB : Marks w B ns) (hn : ms.length ≤ 100000) (hm : ns.length ≤ 100000) :
    Calls Try.prog 29 #[.slice A ms.length c, .slice B ns.length d, .int .u64 (q.toNat : Int)] w fun e w' => (∃ v S, e = .returned v ∧ FoldOf (aheadF q (ms ++ ns)) S ∧ S.length ≤ 200000 ∧ OwnM w' w.heap.size v S) ∧ Below w.heap.size w w' := by
  have eg : ∀ args w, (callFunc 53 args).run Try.prog w = .ok (.enter 53 args) w := enters_of Try.func53 (by kernel_rfl) rfl
  have EG := Lib.hid eg
  have HB0 := Lib.hid (below_new w (.cells #[.slice A ms.length c, .slice B ns.length d] 25))
  have HCAT := Lib.hid (concat_any A c ms B d ns w.heap.size 25 _ (Blk.new w 25 #[.slice A ms.length c, .slice B ns.length d]) (hA.below HB0.out) (hB.below HB0.out) hn hm)
  have HL : Hid ((ms ++ ns).length ≤ 200000) := by show _ ≤ _; rw [List.length_append]; omega
  generalize ms ++ ns = L at HCAT HL ⊢
  clear hA hB hn hm eg
  go_enter Try.func29, Try.ntmps29
  go_wp2_with fail
  refine HCAT.out.mono ?_
  rintro e w1 ⟨⟨vL, rfl, hoL⟩, hb1⟩
  have HB1 := Lib.hid (below_call HB0.out HB0.out.size hb1)
  obtain ⟨AL, cL, rfl, _, _⟩ := hoL.form
  have HOL := Lib.hid hoL.marks
  clear hoL hb1 HCAT HB0
  go_wp2_with fail
  go_loopw [7, 15] (fun v i wr => ∃ k : Nat, k ≤ L.length ∧ i = .int .i64 (k : Int) ∧ OwnM wr w1.heap.size v (foldF (aheadF q (L.take k))) ∧ Below w1.heap.size w1 wr) (fun _ i _ => L.length - (intOf i).toNat)
  case atStart => exact ⟨0, by omega, rfl, OwnM.nil_ _ _, Below.refl _ _⟩
  case round =>
    obtain ⟨k, hk, rfl, ho, hb⟩ := hrel
    have hlen := aheadF_len q L k
    by_cases hlt : k < L.length
    · have hkb : k < 200000 := by have := HL.out; omega
      obtain ⟨b, o, rfl, had, c0, c1, c2⟩ := HOL.out.at_ hlt
      replace c0 := (hb.cell (p := ⟨b, o + k * 3, none⟩) had).trans c0
      replace c1 := (hb.cell (p := ⟨b, o + k * 3 + 1, none⟩) had).trans c1
      replace c2 := (hb.cell (p := ⟨b, o + k * 3 + 2, none⟩) had).trans c2
      have HIN := Lib.hid (fun h => aheadF_in (q := q) (k := k) hlt h)
      have HOUT := Lib.hid (fun h => aheadF_out (q := q) (k := k) hlt h)
      generalize L[k] = m at c0 c1 c2 HIN HOUT
      have HLL := Lib.hid hlen
      by_cases hq : m.o.toNat < q.toNat
      · have HIN2 := Lib.hid (HIN.out hq)
        have q0 : decide ((q.toNat : Int) ≤ (m.o.toNat : Int)) = false := decide_eq_false (by omega)
        have q1 : decide (q.toNat ≤ m.o.toNat) = false := decide_eq_false (by omega)
        clear HIN HOUT hlen
        generalize foldF (aheadF q (L.take k)) = out at ho HIN2 HLL
        obtain ⟨A1, k1, rfl, _, _⟩ := ho.form
        have hbk : Blk (wr.alloc (.cells #[.int .i64 m.p.toInt, .int .u64 (m.s.toNat : Int), .int .u64 (m.o.toNat : Int)] 38)) wr.heap.size 38 (Mk.cells m).toArray := Blk.new _ _ _
        have ho2 := ho.alloc (.cells #[.int .i64 m.p.toInt, .int .u64 (m.s.toNat : Int), .int .u64 (m.o.toNat : Int)] 38)
        have hpk : PredK 53 #[.pointer (some ⟨wr.heap.size, 0, none⟩)] (fun x => x.p.toInt == m.p.toInt) (A1.map (·.block)) (fun W => Blk W wr.heap.size 38 (Mk.cells m).toArray) := by
          refine ⟨fun W x hK => fold1_any x m wr.heap.size W hK, fun W W' hK h => hK.below h hK.lt, fun W W' hK h => hK.grown h fun e => ?_⟩
          rcases A1 with _ | ad
          · simp at e
          · simp at e
            have := (ho.lt ad.block (by simp [Value.ownBlock])).2
            omega
        have HDEL := Lib.hid (delete_any A1 out.length k1 w1.heap.size out rfl (fun x => x.p.toInt == m.p.toInt) 53 #[.pointer (some ⟨wr.heap.size, 0, none⟩)] EG.out _ _ ho2 hpk hbk (by have := HLL.out; have := HL.out; omega) (by have := hb.size; simp; omega))
        have HBK := Lib.hid hbk
        have HGE := Lib.hid (own_ge ho)
        have HLT : Hid (∀ k, (Value.slice A1 out.length k1).ownBlock = some k → k < wr.heap.size) := fun k hk => (ho.lt k hk).2
        have HBW := Lib.hid (hb.alloc hb.size (.cells #[.int .i64 m.p.toInt, .int .u64 (m.s.toNat : Int), .int .u64 (m.o.toNat : Int)] 38))
        clear hbk ho ho2 hpk hb
        go_wp2_with fail
        refine HDEL.out.mono ?_
        rintro e w2 ⟨⟨v2, rfl, ho2⟩, hg2⟩
        have hrow : ∀ k, (A1.map (·.block)) = some k → w1.heap.size ≤ k ∧ k < wr.heap.size := fun k hk => by
          rcases A1 with _ | ad
          · simp at hk
          · simp at hk
            exact ⟨HGE.out k (by simp [Value.ownBlock, hk]), HLT.out k (by simp [Value.ownBlock, hk])⟩
        have HB2 := Lib.hid (HBW.out.grown hg2 HBW.out.size fun k hk => (hrow k hk).1)
        have hbk2 := HBK.out.grown hg2 (fun e => by have := (hrow _ e.symm).2; omega)
        have m0 : w2.cell? ⟨wr.heap.size, 0, none⟩ = some (.int .i64 m.p.toInt) := (hbk2.cell 0).trans rfl
        have m1 : w2.cell? ⟨wr.heap.size, 1, none⟩ = some (.int .u64 (m.s.toNat : Int)) := (hbk2.cell 1).trans rfl
        have m2 : w2.cell? ⟨wr.heap.size, 2, none⟩ = some (.int .u64 (m.o.toNat : Int)) := (hbk2.cell 2).trans rfl
        have hfl : (out.filter fun x => !(x.p.toInt == m.p.toInt)).length ≤ 200000 := Nat.le_trans (List.length_filter_le _ _) (by have := HLL.out; have := HL.out; omega)
        obtain ⟨A2, k2, rfl, _, _⟩ := ho2.form
        have ho3 := ho2.alloc (.cells #[.int .i64 m.p.toInt, .int .u64 (m.s.toNat : Int), .int .u64 (m.o.toNat : Int)] 38)
        have hnew := Marks.new w2 38 [m] #[.int .i64 m.p.toInt, .int .u64 (m.s.toNat : Int), .int .u64 (m.o.toNat : Int)] (0, 0) rfl
        have hr1 := Mk.row_one [m]
        have hs2 := HB2.out.size
        clear hbk2 hg2 hrow HDEL HBK ho2
        unfold stepF at HIN2
        generalize (out.filter fun x => !(x.p.toInt == m.p.toInt)) = F at *
        clear c0 c1 c2 q0 q1
        go_wp2_with (at_builtin; refine app_list marks_ty rfl rfl ho3 rfl hnew rfl hr1 (by simp; omega) (by simp; omega) ?_; intro v3 w3 hown3 hg3 _)
        go_roundw
        case rel => exact ⟨k + 1, by omega, by go_num, by rw [HIN2.out]; exact OwnM.snoc (w := w2) hown3 rfl, (HB2.out.alloc HB2.out.size _).grown hg3 (by have := HB2.out.size; simp; omega) (own_ge ho3)⟩
        case measure => simp [intOf]; omega
      · have HO2 := Lib.hid (HOUT.out hq)
        have q0 : decide ((q.toNat : Int) ≤ (m.o.toNat : Int)) = true := decide_eq_true (by omega)
        have q1 : decide (q.toNat ≤ m.o.toNat) = true := decide_eq_true (by omega)
        have HO := Lib.hid ho
        have HBW := Lib.hid (hb.alloc hb.size (.cells #[.int .i64 m.p.toInt, .int .u64 (m.s.toNat : Int), .int .u64 (m.o.toNat : Int)] 38))
        clear HIN HOUT hlen ho hb
        go_wp2_with fail
        go_roundw
        case rel => exact ⟨k + 1, by omega, by go_num, by rw [HO2.out]; exact HO.out.alloc _, HBW.out⟩
        case measure => simp [intOf]; omega
    · obtain rfl : k = L.length := by omega
      rw [List.take_length] at ho hlen
      obtain ⟨A1, k1, rfl, _, _⟩ := ho.form
      have HS := Lib.hid (hsort wr A1 k1 _ w1.heap.size ho hb.size (by have := HL.out; omega))
      have HB2 := Lib.hid hb
      have HLEN := Lib.hid hlen
      have HLS := Lib.hid HB1.out.size
      clear ho hb hlen
      generalize hF : foldF (aheadF q L) = F at *
      unfold SortsM at HS
      have HFF := Lib.hid hF
      clear hF
      go_wp2_with fail
      refine HS.out.mono ?_
      rintro e w5 ⟨rfl, S, hp, hs, ho5, hb5⟩
      have HP := Lib.hid hp
      have HSR := Lib.hid hs
      have hl5 := hp.length_eq
      have HO5 : Hid (OwnM w5 w1.heap.size (.slice A1 F.length k1) S) := ho5
      have HB5 := Lib.hid hb5
      clear hp hs ho5 hb5
      go_wp2_with fail
      go_ret
      refine ⟨⟨_, S, rfl, foldF_sorted (by rw [HFF.out]; exact HP.out) HSR.out, by have := HLEN.out; have := HL.out; omega, HO5.out.less HLS.out⟩, HB1.out.trans ((HB2.out.trans HB5.out).mono HLS.out)⟩
end Go.Proofs.Ytgdbknbpnlpdnaa
