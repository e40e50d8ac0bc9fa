/- Take: the program's and the reference's. -/
import Derived.Test.YtgdbknbpnlpdnaaSeenM
namespace Go.Proofs.Ytgdbknbpnlpdnaa
set_option linter.unusedVariables false
set_option linter.unusedSimpArgs false
open Go.RowKit

def En.zero : En := ⟨0, 0, none, 0, 0⟩
def mkOf (fr : UInt64) (es : List En) (i : Nat) : Mk := ⟨(es.getD i En.zero).p, (es.getD i En.zero).s, fr + UInt64.ofNat i⟩
def marksUp (fr : UInt64) (es : List En) (k : Nat) : List Mk := (List.range k).map (mkOf fr es)
theorem marksUp_succ (fr : UInt64) (es : List En) (k : Nat) : marksUp fr es (k + 1) = marksUp fr es k ++ [mkOf fr es k] := by simp [marksUp, List.range_succ]
theorem marksUp_len (fr : UInt64) (es : List En) (k : Nat) : (marksUp fr es k).length = k := by simp [marksUp]
theorem mkOf_at (fr : UInt64) (es : List En) {k : Nat} (hk : k < es.length) : mkOf fr es k = ⟨es[k].p, es[k].s, fr + UInt64.ofNat k⟩ := by
  unfold mkOf
  rw [List.getD_eq_getElem?_getD, List.getElem?_eq_getElem hk]
  rfl
theorem off_at (fr : UInt64) (k : Nat) (h : fr.toNat + k ≤ 4611686018427387903) : ((fr + UInt64.ofNat k).toNat : Int) = (fr.toNat : Int) + (k : Int) := by
  rw [UInt64.toNat_add, UInt64.toNat_ofNat', Nat.mod_eq_of_lt (a := k) (by omega), Nat.mod_eq_of_lt (by omega)]
  simp
def fitsB (fr : UInt64) (n : Nat) : Bool := decide (n = 0 ∨ (fr.toNat ≤ 4611686018427387903 ∧ n - 1 ≤ 4611686018427387903 - fr.toNat))
def takeS (ms : List Mk) (fr : UInt64) (es : List En) : Option (Option (List Mk)) := if mayB ms && (es.all En.may && fitsB fr es.length) then some (goesS ms (marksUp fr es es.length)) else none
def takeR (ms : List Mk) (fr : UInt64) (es : List En) : Option (Option (List Mk)) := if mayB ms && (es.all En.may && fitsB fr es.length) then some (goesR ms (marksUp fr es es.length)) else none
theorem all_findI (es : List En) : es.all En.may = decide (findI (fun m => !m.may) es < 0) := by
  rw [Bool.eq_iff_iff, decide_eq_true_iff, findI_neg, List.all_eq_true]
  constructor
  · intro h x hx; simp [h x hx]
  · intro h x hx; have := h x hx; simpa using this

set_option maxHeartbeats 1000000 in
theorem take_any (A : Option Addr) (c : Nat) (ms : List Mk) (fr : UInt64) (B : Option Addr) (d : Nat) (es : List En) (w : World) (hA : Marks w A ms) (hB : Entries w B es) (hn : ms.length ≤ 10000) (hm : es.length ≤ 10000) :
    Calls Try.prog 13 #[.slice A ms.length c, .int .u64 (fr.toNat : Int), .slice B es.length d] w fun e w' => OutPost w.heap.size (takeS ms fr es) e w' ∧ Below w.heap.size w w' := by
  obtain ⟨r, hr⟩ : ∃ r, r = takeS ms fr es := ⟨_, rfl⟩
  rw [← hr]
  have hmay := seenmay_any A c ms w hA (by omega)
  have HMAY := Lib.hid hmay
  clear hmay
  have hfr := fr.toNat_lt
  cases hma : mayB ms with
  | false =>
    rw [hma] at HMAY
    have HR : Hid (r = none) := by
      show _ = _
      rw [hr, takeS, hma]; rfl
    clear hr hma
    go_enter Try.func13, Try.ntmps13
    go_wp2_with fail
    refine HMAY.out.mono ?_
    rintro e w1 ⟨rfl, hb1⟩
    go_wp2_with fail
    go_ret2
    exact ⟨OutPost.bad HR.out rfl, hb1⟩
  | true =>
    rw [hma] at HMAY
    have eg : ∀ args w, (callFunc 34 args).run Try.prog w = .ok (.enter 34 args) w := enters_of Try.func34 (by kernel_rfl) rfl
    have EG := Lib.hid eg
    have hall := all_findI es
    clear eg
    have hfirst := fun w1 (hb1 : Below w.heap.size w w1) => firstE B d es (fun m => !m.may) 34 #[] EG.out w1 (hB.below hb1) (by omega) (emayno_pred w1)
    have HFIRST := Lib.hid hfirst
    clear hfirst
    generalize findI (fun m : En => !m.may) es = f at hall HFIRST
    by_cases hf : 0 ≤ f
    · have HR : Hid (r = none) := by
        show _ = _
        rw [hr, takeS, hma, hall, decide_eq_false (by omega)]; rfl
      clear hr hma hall
      go_enter Try.func13, Try.ntmps13
      go_wp2_with fail
      refine HMAY.out.mono ?_
      rintro e w1 ⟨rfl, hb1⟩
      go_wp2_with fail
      refine (HFIRST.out w1 hb1).mono ?_
      rintro e w2 ⟨rfl, hb2⟩
      go_wp2_with fail
      go_ret2
      exact ⟨OutPost.bad HR.out rfl, below_call hb1 hb1.size hb2⟩
    · rw [decide_eq_true (by omega)] at hall
      cases hfit : fitsB fr es.length with
      | false =>
        have HR : Hid (r = none) := by
          show _ = _
          rw [hr, takeS, hma, hall, hfit]; rfl
        have hnf : 0 < es.length ∧ (4611686018427387903 < fr.toNat ∨ 4611686018427387903 - fr.toNat < es.length - 1) := by
          unfold fitsB at hfit
          rw [decide_eq_false_iff_not] at hfit
          omega
        obtain ⟨hn0, hnf⟩ := hnf
        clear hr hma hall hfit
        by_cases hbig : 4611686018427387903 < fr.toNat
        · clear hnf
          go_enter Try.func13, Try.ntmps13
          go_wp2_with fail
          refine HMAY.out.mono ?_
          rintro e w1 ⟨rfl, hb1⟩
          go_wp2_with fail
          refine (HFIRST.out w1 hb1).mono ?_
          rintro e w2 ⟨rfl, hb2⟩
          go_wp2_with fail
          go_ret2
          exact ⟨OutPost.bad HR.out rfl, below_call hb1 hb1.size hb2⟩
        · have hnf2 : 4611686018427387903 - fr.toNat < es.length - 1 := by omega
          have hnf3 : (4611686018427387903 : Int) - (fr.toNat : Int) < (es.length : Int) - 1 := by omega
          clear hnf
          go_enter Try.func13, Try.ntmps13
          go_wp2_with fail
          refine HMAY.out.mono ?_
          rintro e w1 ⟨rfl, hb1⟩
          go_wp2_with fail
          refine (HFIRST.out w1 hb1).mono ?_
          rintro e w2 ⟨rfl, hb2⟩
          go_wp2_with fail
          go_ret2
          exact ⟨OutPost.bad HR.out rfl, below_call hb1 hb1.size hb2⟩
      | true =>
        have HR : Hid (r = some (goesS ms (marksUp fr es es.length))) := by
          show _ = _
          rw [hr, takeS, hma, hall, hfit]; rfl
        have hok : es.length = 0 ∨ (fr.toNat ≤ 4611686018427387903 ∧ es.length - 1 ≤ 4611686018427387903 - fr.toNat) := by
          unfold fitsB at hfit
          rw [decide_eq_true_iff] at hfit
          exact hfit
        have HOK := Lib.hid hok
        clear hr hma hall hfit hok
        have hgo : es.length = 0 ∨ 0 < es.length := by omega
        rcases hgo with h0 | h0
        · have hnil : es.length ≤ 0 := by omega
          have H0 := Lib.hid h0
          clear h0
          go_enter Try.func13, Try.ntmps13
          go_wp2_with fail
          refine HMAY.out.mono ?_
          rintro e w1 ⟨rfl, hb1⟩
          go_wp2_with fail
          refine (HFIRST.out w1 hb1).mono ?_
          rintro e w2 ⟨rfl, hb2⟩
          have hw2 : Below w.heap.size w w2 := below_call hb1 hb1.size hb2
          clear HMAY HFIRST hb1 hb2
          go_wp2_with fail
          go_loopw [9, 38] (fun v i wr => ∃ k : Nat, k ≤ es.length ∧ i = .int .i64 k ∧ Below w.heap.size w wr ∧ OwnM wr w.heap.size v (marksUp fr es k)) (fun _ i _ => es.length - (intOf i).toNat)
          case atStart => exact ⟨0, by omega, rfl, hw2, OwnM.nil_ _ _⟩
          case round =>
            clear hw2
            obtain ⟨k, hk, rfl, hb, ho⟩ := hrel
            have hmu := marksUp_len fr es k
            by_cases hlt : k < es.length
            · exact absurd hlt (by have := H0.out; omega)
            · obtain rfl : k = es.length := by omega
              obtain ⟨A1, c1, rfl, hc1, hc2⟩ := ho.form
              have hgo := goes_any A c ms A1 c1 (marksUp fr es es.length) wr (hA.below hb) ho.marks (by omega) (by omega)
              rw [hmu] at hgo hc1
              have HGO := Lib.hid hgo
              clear hgo hmu ho
              generalize goesS ms (marksUp fr es es.length) = g at HR HGO
              have hlen : (marksUp fr es es.length).length = es.length := marksUp_len _ _ _
              rw [hlen]
              clear hlen
              go_wp2_with fail
              refine HGO.out.mono ?_
              rintro e w3 ⟨hg, hb3⟩
              have hw3 : Below w.heap.size w w3 := below_call hb hb.size hb3
              cases g with
              | none =>
                obtain rfl := hg
                go_wp2_with fail
                go_ret2
                exact ⟨OutPost.full HR.out rfl, hw3⟩
              | some L =>
                obtain ⟨v, rfl, ho⟩ := hg
                obtain ⟨A4, c4, rfl, _, _⟩ := ho.form
                go_wp2_with fail
                go_ret2
                exact ⟨OutPost.good HR.out rfl (ho.less hb.size), hw3⟩
        · have hpos : 0 < es.length := h0
          have h1 : fr.toNat ≤ 4611686018427387903 := by have := HOK.out; omega
          have h2 : (es.length : Int) - 1 ≤ (4611686018427387903 : Int) - (fr.toNat : Int) := by have := HOK.out; omega
          have H0 := Lib.hid h0
          clear h0
          go_enter Try.func13, Try.ntmps13
          go_wp2_with fail
          refine HMAY.out.mono ?_
          rintro e w1 ⟨rfl, hb1⟩
          go_wp2_with fail
          refine (HFIRST.out w1 hb1).mono ?_
          rintro e w2 ⟨rfl, hb2⟩
          have hw2 : Below w.heap.size w w2 := below_call hb1 hb1.size hb2
          clear HMAY HFIRST hb1 hb2
          go_wp2_with fail
          go_loopw [9, 38] (fun v i wr => ∃ k : Nat, k ≤ es.length ∧ i = .int .i64 k ∧ Below w.heap.size w wr ∧ OwnM wr w.heap.size v (marksUp fr es k)) (fun _ i _ => es.length - (intOf i).toNat)
          case atStart => exact ⟨0, by omega, rfl, hw2, OwnM.nil_ _ _⟩
          case round =>
            clear hw2
            obtain ⟨k, hk, rfl, hb, ho⟩ := hrel
            have hmu := marksUp_len fr es k
            by_cases hlt : k < es.length
            · obtain ⟨b, o, rfl, had, c0, c1', c2⟩ := hB.at_ hlt
              replace c0 := (hb.cell (p := ⟨b, o + k * 3, none⟩) had).trans c0
              replace c1' := (hb.cell (p := ⟨b, o + k * 3 + 1, none⟩) had).trans c1'
              replace c2 := (hb.cell (p := ⟨b, o + k * 3 + 2, none⟩) had).trans c2
              have HSU := Lib.hid (marksUp_succ fr es k)
              have hmk := mkOf_at fr es hlt
              have hle : fr.toNat + k ≤ 4611686018427387903 := by have := HOK.out; omega
              have hoff := off_at fr k hle
              generalize es[k] = x at c0 c1' c2 hmk
              have hrow := Mk.row_one [mkOf fr es k]
              have hcs : #[Value.int .i64 x.p.toInt, .int .u64 (x.s.toNat : Int), .int .u64 ((fr.toNat : Int) + (k : Int))] = (Mk.row [mkOf fr es k]).toArray := by
                rw [hmk, ← hoff]; rfl
              have hnew := Marks.new (wr.alloc (.cells #[.int .i64 x.p.toInt, .int .u64 (x.s.toNat : Int), .slice x.A x.n x.c] 30)) 38 [mkOf fr es k] #[.int .i64 x.p.toInt, .int .u64 (x.s.toNat : Int), .int .u64 ((fr.toNat : Int) + (k : Int))] (0, 0) hcs
              rw [alloc_size] at hnew
              have ho2 := (ho.alloc (.cells #[.int .i64 x.p.toInt, .int .u64 (x.s.toNat : Int), .slice x.A x.n x.c] 30)).alloc (.cells #[.int .i64 x.p.toInt, .int .u64 (x.s.toNat : Int), .int .u64 ((fr.toNat : Int) + (k : Int))] 38)
              have hle2 : (fr.toNat : Int) + (k : Int) ≤ 4611686018427387903 := by omega
              clear hoff hmk hcs ho
              generalize mkOf fr es k = mk at HSU hrow hnew
              generalize hL : marksUp fr es k = L at HSU ho2 hmu
              clear hL
              obtain ⟨A1, c1, rfl, hc1, hc2⟩ := ho2.form
              have HMU := Lib.hid hmu
              have hml : L.length ≤ 10000 := by omega
              clear hmu
              have hx1 : (L.length + [mk].length) * 24 ≤ 140737488355328 := by rw [List.length_singleton]; omega
              have hx2 : w.heap.size ≤ ((wr.alloc (.cells #[.int .i64 x.p.toInt, .int .u64 (x.s.toNat : Int), .slice x.A x.n x.c] 30)).alloc (.cells #[.int .i64 x.p.toInt, .int .u64 (x.s.toNat : Int), .int .u64 ((fr.toNat : Int) + (k : Int))] 38)).heap.size := by
                have h5 := hb.size
                rw [alloc_size, alloc_size]
                omega
              go_wp2_with (first
                | (at_builtin; refine app_list marks_ty rfl rfl ho2 rfl hnew rfl hrow hx1 hx2 ?_; intro v3 w3 hown3 hg3 _))
              have hb3 : Below w.heap.size w w3 := ((hb.alloc hb.size _).alloc (by have := hb.size; simp; omega) _).grown hg3 (by have := hb.size; simp; omega) (own_ge ho2)
              have ho3 : OwnM w3 w.heap.size v3 (L ++ [mk]) := OwnM.snoc (w := wr) hown3 rfl
              obtain ⟨A3, c3, rfl, _, _⟩ := ho3.form
              go_roundw
              case rel => exact ⟨k + 1, by omega, by go_num, hb3, by rw [HSU.out]; exact ho3⟩
              case measure => simp [intOf]; omega
            · obtain rfl : k = es.length := by omega
              obtain ⟨A1, c1, rfl, hc1, hc2⟩ := ho.form
              have hgo := goes_any A c ms A1 c1 (marksUp fr es es.length) wr (hA.below hb) ho.marks (by omega) (by omega)
              rw [hmu] at hgo hc1
              have HGO := Lib.hid hgo
              clear hgo hmu ho
              generalize goesS ms (marksUp fr es es.length) = g at HR HGO
              have hlen : (marksUp fr es es.length).length = es.length := marksUp_len _ _ _
              rw [hlen]
              clear hlen
              go_wp2_with fail
              refine HGO.out.mono ?_
              rintro e w3 ⟨hg, hb3⟩
              have hw3 : Below w.heap.size w w3 := below_call hb hb.size hb3
              cases g with
              | none =>
                obtain rfl := hg
                go_wp2_with fail
                go_ret2
                exact ⟨OutPost.full HR.out rfl, hw3⟩
              | some L =>
                obtain ⟨v, rfl, ho⟩ := hg
                obtain ⟨A4, c4, rfl, _, _⟩ := ho.form
                go_wp2_with fail
                go_ret2
                exact ⟨OutPost.good HR.out rfl (ho.less hb.size), hw3⟩
end Go.Proofs.Ytgdbknbpnlpdnaa
