/- The closure that goes through the courses. -/
import Derived.Test.YtpjmolnkmlpfeaaGreatDoorJBE
namespace Go.Proofs.YtpjmolnkmlpfeaaGreatDoor
set_option linter.unusedVariables false
set_option linter.unusedSimpArgs false
set_option maxRecDepth 100000
set_option maxRecDepth 100000
set_option maxRecDepth 100000
open Go.RowKit

/-- What is asked of the closure at a course. -/
def GoesC (G : Ge) (R : Crs → Prop) (c : Crs) : Prop := ∀ (X : Nat → Prop) (w : World) (S L : List Crs) (v : Value), (∀ b, X b → b < w.heap.size) → X G.sb → X G.lb → GoOk G w → GoSt G X w S L → (∀ d ∈ S, R d) → R c → S.length ≤ 3000 → CrV (fun b => ¬ X b) w v c →
 Calls Tryz.prog 61 #[v, .pointer (some ⟨G.bS, 0, none⟩), .pointer (some ⟨G.bX, 0, none⟩), .pointer (some ⟨G.bL, 0, none⟩), .pointer (some ⟨G.bP, 0, none⟩), .pointer (some ⟨G.bO, 0, none⟩), .pointer (some ⟨G.bG, 0, none⟩)] w (GoPost G X R c S L w)
structure GeOk (G : Ge) (R : Crs → Prop) : Prop where
 ok : ∀ d, R d → OkC d
 step : ∀ c d, R c → G.x ∉ c.done → d ∈ succL G.ops G.op c → R d
 body : ∀ p ∈ G.P, p.1.call.body.length ≤ 1000000 ∧ p.1.rep.body.length ≤ 1000000 ∧ p.1.call.at_ < 18446744073709551616
 op : ∀ k ∈ G.op, k < G.P.length
 opl : G.op.length ≤ 100000
 pl : G.P.length ≤ 100000
/-- No panic. -/
def calmPost (Q : Exit → Act → World → Prop) : Exit → Act → World → Prop
 | .normal, a, w => Q .normal a w
 | .ret, a, w => Q .ret a w
 | _, _, _ => False
theorem enter_marks {f : FuncId} {fn : Func} {c : Code} {args : Array Value} {w : World} {R : Ending → World → Prop} (hf : Tryz.prog.funcs[f]? = some fn) (hb : fn.body = some c)
  (h : c.wp Tryz.prog (calmPost (bodyPostM Fence.wide 0 Tryz.prog fn R)) { tmps := args ++ Array.replicate (fn.ntmps - args.size) undef, defers := [] } w) : Calls Tryz.prog f args w R :=
 callsIn_wide.1 (callsIn_of_wp_marks (n := 0) hf hb trivial (wpIn_wide.2 (Code.wp_mono (fun e a w hq => by cases e <;> first | exact hq | exact hq.elim) h)))
theorem mod_set1 (w : World) (g : Nat) (v : Value) : Mod (fun b => b = g) w (w.setCell ⟨g, 0, none⟩ v) := Mod.set (S := fun b => b = g) (Mod.refl _ _) (p := ⟨g, 0, none⟩) (fun _ => rfl) v
/-- The way out. -/
theorem marks_ret {F : Fence} {n : Nat} {P : Program} {fn : Func} {R : Ending → World → Prop} {tmps : Array Value} {Ds : List Nat} {w : World} (hD : ∀ d ∈ Ds, w.heap[d]? = some (.deferred (some []))) (hn : Ds.Nodup)
  (h : ∀ w', Mod (fun b => b ∈ Ds) w w' → ∃ v, (results fn tmps).run P w' = .ok v w' ∧ R (.returned v) w') : bodyPostM F n P fn R .ret ⟨tmps, Ds.map dmark⟩ w := leaves_marks hD hn h
theorem res_bool {fn : Func} (hf : fn.results = #[.cell 8 4]) {tmps : Array Value} {w : World} {g : Nat} {b : Bool} (h : Blk w g 4 #[.bool b]) (hp : tmps.getD 8 undef = .pointer (some ⟨g, 0, none⟩)) : (results fn tmps).run Tryz.prog w = .ok (.bool b) w := by
 have hc : w.cell? ⟨g, 0, none⟩ = some (.bool b) := h.cell 0
 rw [Array.getD_eq_getD_getElem?] at hp
 simp only [results, hf]
 simp [go_sem, hc, hp]
theorem mem_nats {x : Nat} {l : List Nat} : (x : Int) ∈ nats l ↔ x ∈ l := by
 unfold nats
 rw [List.mem_map]
 constructor
 ·rintro ⟨a, ha, e⟩
  have : a = x := by omega
  rw [← this]; exact ha
 ·intro h
  exact ⟨x, h, rfl⟩
theorem nats_filter (x : Nat) (l : List Nat) : (nats l).filter (fun y => !decide (y = (x : Int))) = nats (l.filter fun k => !decide (k = x)) := by
 unfold nats
 rw [List.filter_map]
 congr 1
 refine List.filter_congr fun k _ => ?_
 have : decide ((k : Int) = (x : Int)) = decide (k = x) := decide_eq_decide.2 (by omega)
 simp only [Function.comp, this]
theorem zero_course (w : World) : (zeroValue 99).run Tryz.prog w = .ok (.agg (crL { m := zMdl, done := [] } (.slice none 0 0) (.slice none 0 0) (.slice none 0 0)).toArray) w := (zero_of_info (n := 4) (by kernel_rfl)).1 w
/-- What must not be pointed at. -/
def Xd (X : Nat → Prop) (t : Nat) (Ds : List Nat) (b : Nat) : Prop := X b ∨ b = t ∨ b ∈ Ds
theorem goes_out {G : Ge} {X : Nat → Prop} {R : Crs → Prop} {c : Crs} {S L : List Crs} {w u : World} {b b0 : Bool} {Ds : List Nat} {fn : Func} {tmps : Array Value} (hf : fn.results = #[.cell 8 4]) (hp : tmps.getD 8 undef = .pointer (some ⟨w.heap.size + 1, 0, none⟩))
  (hX : ∀ b, X b → b < w.heap.size) (hXs : X G.sb) (hXl : X G.lb) (h8 : Blk u (w.heap.size + 1) 4 #[.bool b0]) (hD : ∀ d ∈ Ds, w.heap.size + 2 ≤ d ∧ u.heap[d]? = some (.deferred (some []))) (hn : Ds.Nodup) (hm : Mod G.Z w u)
  (hpost : ∀ w', (∀ S' L', GoSt G (Xd X (w.heap.size + 1) Ds) u S' L' → GoSt G X w' S' L') → Mod G.Z w w' → GoPost G X R c S L w (.returned (.bool b)) w') :
  calmPost (bodyPostM Fence.wide 0 Tryz.prog fn (GoPost G X R c S L w)) .ret ⟨tmps, Ds.map dmark⟩ (u.setCell ⟨w.heap.size + 1, 0, none⟩ (.bool b)) := by
 have ht : ∀ d ∈ Ds, d ≠ w.heap.size + 1 := fun d hd e => by have := (hD d hd).1; omega
 have m1 := mod_set1 u (w.heap.size + 1) (.bool b)
 refine marks_ret (fun d hd => mod_at (hD d hd).2 m1 (ht d hd)) hn fun w' hm' => ?_
 have m2 : Mod (fun b => b = w.heap.size + 1 ∨ b ∈ Ds) u w' := (m1.mono fun b _ h => .inl h).trans (hm'.mono fun b _ h => .inr h)
 refine ⟨.bool b, res_bool hf ((h8.put0 (.bool b)).mod hm' fun h => ht _ h rfl) hp, hpost w' (fun S' L' hS => ?_) ?_⟩
 ·have hs := hm.size
  refine (hS.mod m2 (fun b _ h => .inr h) ?_ ?_).weak fun b _ h => .inl h
  ·rintro (e | e)
   ·have := hX _ hXs; omega
   ·have := hX _ hXs; have := (hD _ e).1; omega
  ·rintro (e | e)
   ·have := hX _ hXl; omega
   ·have := hX _ hXl; have := (hD _ e).1; omega
 ·refine hm.join m2 fun b hb h => ?_
  rcases h with h | h
  ·omega
  ·have := (hD _ h).1; omega
theorem goes_fail {G : Ge} {X : Nat → Prop} {R : Crs → Prop} {c : Crs} {S L : List Crs} {w u : World} {Ds : List Nat} {fn : Func} {tmps : Array Value} (hf : fn.results = #[.cell 8 4]) (hp : tmps.getD 8 undef = .pointer (some ⟨w.heap.size + 1, 0, none⟩))
  (h8 : Blk u (w.heap.size + 1) 4 #[.bool false]) (hD : ∀ d ∈ Ds, w.heap.size + 2 ≤ d ∧ u.heap[d]? = some (.deferred (some []))) (hn : Ds.Nodup) (hm : Mod (fun b => G.Z b ∨ b = w.heap.size + 1) w u) (hpost : ∃ S' : List Crs, S'.Nodup ∧ (∀ d ∈ S', R d) ∧ 3000 < S'.length) :
  calmPost (bodyPostM Fence.wide 0 Tryz.prog fn (GoPost G X R c S L w)) .ret ⟨tmps, Ds.map dmark⟩ u := by
 refine marks_ret (fun d hd => (hD d hd).2) hn fun w' hm' => ?_
 refine ⟨.bool false, res_bool hf (h8.mod hm' fun h => by have := (hD _ h).1; omega) hp, ?_, .inr ⟨rfl, hpost⟩⟩
 have h1 : Mod G.Z w u := hm.mono fun b hb h => by
  rcases h with h | h
  ·exact h
  ·omega
 exact h1.join hm' fun b hb h => by have := (hD _ h).1; omega
theorem GoSn.start {G : Ge} {X : Nat → Prop} {w u : World} {S L : List Crs} {n : Nat} (h : GoSn G X w S L n) (hb : Below w.heap.size w u) {Ds : List Nat} (hD : ∀ d ∈ Ds, w.heap.size ≤ d) : GoSn G (Xd X (w.heap.size + 1) Ds) u S L n := by
 refine (h.weak fun b hb h => ?_).below hb
 rcases h with h | h | h
 ·exact h
 ·omega
 ·have := hD b h; omega
set_option maxHeartbeats 4000000 in
theorem goes_step {G : Ge} {R : Crs → Prop} (hG : GeOk G R) {c : Crs} (hIH : ∀ e, freeN G.op e.done < freeN G.op c.done → GoesC G R e) : GoesC G R c := by
 intro X w S L v hX hXs hXl hO hS hSR hRc hSn hv
 obtain ⟨vl, vc, vd, rfl, hc⟩ := hv
 have hok := hG.ok c hRc
 have hxx : ∃ W2, W2 = (w.alloc (.cells (crL c vl vc vd).toArray 99)).alloc (.cells #[.bool false] 4) := ⟨_, rfl⟩
 obtain ⟨W2, hW2⟩ := hxx
 have hb2 : Below w.heap.size w W2 := by rw [hW2]; exact ((Below.refl _ _).alloc (Nat.le_refl _) _).alloc (by simp) _
 have hw := word_any (hc.below hb2) hok
 have HW := Lib.hid hw
 have HG := Lib.hid hG
 have HIH := Lib.hid hIH
 have HH : Hid (X G.sb ∧ X G.lb ∧ (∀ b, X b → b < w.heap.size) ∧ GoOk G w ∧ GoSt G X w S L ∧ (∀ d ∈ S, R d) ∧ R c ∧ S.length ≤ 3000 ∧ CrF (fun b => ¬ X b) w vl vc vd c ∧ OkC c) := ⟨hXs, hXl, hX, hO, hS, hSR, hRc, hSn, hc, hok⟩
 obtain ⟨A, ca, E, e1, _⟩ := hc.1.1
 obtain ⟨A2, c2, e2, _⟩ := hc.1.2
 obtain ⟨A3, c3, e3, _⟩ := hc.2
 clear hG hIH hX hXs hXl hO hS hSR hRc hSn hc hok hb2 hw
 refine enter_marks Tryz.func61 rfl ?_
 simp only [Tryz.ntmps61, List.size_toArray, List.length_cons, List.length_nil, Nat.reduceAdd, Nat.reduceSub, Array.replicate_succ, Array.replicate_zero, List.push_toArray, List.append_toArray, List.nil_append, List.cons_append]
 subst e1 e2 e3
 unfold crL at hW2 HW ⊢
 go_wp2_with fail
 rw [← hW2]
 refine HW.out.mono ?_
 rintro e w3 ⟨rfl, hb3⟩
 have hbb : Below w.heap.size w W2 := by rw [hW2]; exact ((Below.refl _ _).alloc (Nat.le_refl _) _).alloc (by simp) _
 have hb7 : Blk W2 w.heap.size 99 (crL c (.slice A E.length ca) (.slice A2 c.m.cur.length c2) (.slice A3 (nats c.done).length c3)).toArray := by rw [hW2]; exact (Blk.new _ _ _).alloc _
 have hb8 : Blk W2 (w.heap.size + 1) 4 #[.bool false] := by
  have := Blk.new (w.alloc (.cells (crL c (.slice A E.length ca) (.slice A2 c.m.cur.length c2) (.slice A3 (nats c.done).length c3)).toArray 99)) 4 #[.bool false]
  rw [alloc_size] at this
  rw [hW2]; exact this
 have hT3 : Below w.heap.size w w3 := hbb.trans (hb3.mono hbb.size)
 have HB7 := Lib.hid (hb7.below hb3 hb7.lt)
 have HB8 := Lib.hid (hb8.below hb3 hb8.lt)
 have HT3 := Lib.hid hT3
 obtain ⟨hXs, hXl, hX, hO, hS, hSR, hRc, hSn, hc, hok⟩ := HH.out
 have hO3 := hO.mod (mod_below hT3)
 obtain ⟨ES, EL, hms, hml, hsr, hlr, hel⟩ := hS.start hT3 (Ds := []) (by simp)
 have cS := hO3.s.cell 0
 have hlk := hms.look strK Tryz.underlying110 zero_intJ (str_key (n := wordC c) (by have := wordC_len hok; omega))
 have c8 := HB8.out.cell 0
 have f8 := HB8.out.free 0
 clear hb7 hb8 hbb hb3 hT3 hW2 HW
 by_cases hin : c ∈ S
 ·rw [hsr.get c hok, if_pos hin] at hlk
  simp only [Option.getD_some] at hlk
  have HFIN : Hid (c ∈ S) := hin
  clear hms hml hsr hlr hel hO3 hO hS hXs hXl hX hSR hRc hSn hc hok hin
  go_wp2_with fail
  obtain ⟨hXs, hXl, hX, hO, hS, hSR, hRc, hSn, hc, hok⟩ := HH.out
  exact goes_out (Ds := []) Tryz.results61 rfl hX hXs hXl HB8.out (by simp) (by simp) (mod_below HT3.out) fun w' hw' hm' => ⟨hm', .inl ⟨rfl, S, L, hw' _ _ (hS.start HT3.out (by simp)), hSn, HFIN.out, Trv.refl hSR⟩⟩
 ·rw [hsr.get c hok, if_neg hin] at hlk
  simp only [Option.getD_none] at hlk
  have hkey := str_key (n := wordC c) (by have := wordC_len hok; omega)
  have hE : ES.length < 9223372036854775807 := by rw [hsr.len]; omega
  have HMS := Lib.hid hms
  have HML := Lib.hid hml
  have HSR := Lib.hid hsr
  have HLR := Lib.hid hlr
  have HEL := Lib.hid hel
  have HNI : Hid (c ∉ S) := hin
  clear hms hml hsr hlr hel hO3 hO hS hXs hXl hX hSR hRc hSn hc hok hin
  go_wp2_with (at_mapUpdate; refine mw_update (val := .int .i64 1) rfl rfl rfl rfl rfl strK Tryz.underlying110 HMS.out hkey hE ?_; intro w4 hm4 hg4; refine Hid.out ?_)
  obtain ⟨hXs, hXl, hX, hO, hS, hSR, hRc, hSn, hc, hok⟩ := HH.out
  have HM4 : Hid (Mod (fun b => b = G.sb) w3 w4) := mod_ofW hg4
  have hzz : Mod G.Z w3 w4 := HM4.out.mono fun b _ e => .inl e
  have hm04 : Mod G.Z w w4 := (mod_below HT3.out).trans hzz
  have hO4 := hO.mod hm04
  have HM04 := Lib.hid hm04
  have cS := hO4.s.cell 0
  have n1 : ∃ n : Nat, n = S.length + 1 := ⟨_, rfl⟩
  obtain ⟨n1, hn1⟩ := n1
  have hsr4 : SeenR (fput (wordC c) (.int .i64 1) ES) (c :: S) := HSR.out.more (HMS.out.srt strK) hok HNI.out
  have hlen : ∀ ty, (Builtin.len_ #[110] ty #[.map (some G.sb)]).run Tryz.prog w4 = .ok (.int .i64 (n1 : Int)) w4 := fun ty => by
   have := World.ownsMap.len hm4 Tryz.underlying110 ty
   rw [entsW_size, hsr4.len] at this
   rw [hn1]
   exact this
  have HB74 := Lib.hid (HB7.out.mod HM4.out fun e => by have := hX _ hXs; omega)
  have HB84 := Lib.hid (HB8.out.mod HM4.out fun e => by have := hX _ hXs; omega)
  have hlr4 : LeftR (Xd X (w.heap.size + 1) []) w4 EL L := HLR.out.mod HM4.out fun b _ e => .inl (by rw [e]; exact hXs)
  have hst4 : GoSn G (Xd X (w.heap.size + 1) []) w4 (c :: S) L S.length := ⟨_, EL, hm4, HML.out.mod HM4.out (fun e => hO.ne e.symm), hsr4, hlr4, HEL.out⟩
  have HST4 := Lib.hid hst4
  have c8 := HB84.out.cell 0
  have f8 := HB84.out.free 0
  clear hm4 hg4 hzz hm04 hsr4 hlr4 hst4 HMS HML HSR HLR HEL HB7 HB8 hlk hkey hE
  have HN1 := Lib.hid hn1
  by_cases hbig : 3000 < n1
  ·have d1 : decide (3000 < n1) = true := decide_eq_true hbig
   have d2 : decide ((3000 : Int) < (n1 : Int)) = true := decide_eq_true (by omega)
   have HBIG : Hid (3000 < n1) := hbig
   clear hbig hO4 hn1 hXs hXl hX hO hS hSR hRc hSn hc hok
   refine Lib.hid ?_
   go_wp2_with fail
   obtain ⟨hXs, hXl, hX, hO, hS, hSR, hRc, hSn, hc, hok⟩ := HH.out
   refine goes_out (Ds := []) Tryz.results61 rfl hX hXs hXl HB84.out (by simp) (by simp) HM04.out fun w' hw' hm' => ⟨hm', .inr ⟨rfl, c :: S, List.nodup_cons.2 ⟨HNI.out, hS.nodup⟩, fun d hd => ?_, by have := HBIG.out; have := HN1.out; simp; omega⟩⟩
   rcases List.mem_cons.1 hd with rfl | hd
   ·exact hRc
   ·exact hSR d hd
  ·have d1 : decide (3000 < n1) = false := decide_eq_false hbig
   have d2 : decide ((3000 : Int) < (n1 : Int)) = false := decide_eq_false (by omega)
   have HBIG : Hid (n1 ≤ 3000) := by show _ ≤ _; omega
   have HO4 := Lib.hid hO4
   have cX := hO4.x.cell 0
   have k3 := (HB74.out.cell 3).trans (rfl : _ = some (Value.slice A3 (nats c.done).length c3))
   have hcont : Calls Tryz.prog 63 #[.slice A3 (nats c.done).length c3, .int .i64 (G.x : Int)] w4 fun e w' => e = .returned (.bool (decide ((G.x : Int) ∈ nats c.done))) ∧ w' = w4 :=
    contains_any (K := fun b => ¬ X b ∧ b < w.heap.size) ((hc.2.weak fun b hb h => ⟨h, hb⟩).mod HM04.out fun b hb hz => hb.1 (by rcases hz with e | e <;> rw [e] <;> assumption)) (G.x : Int) (by unfold nats; rw [List.length_map]; have := hok.doneN; omega)
   rw [show decide ((G.x : Int) ∈ nats c.done) = decide (G.x ∈ c.done) from decide_eq_decide.2 mem_nats] at hcont
   have HCT := Lib.hid hcont
   clear hbig hn1 hO4 hcont hXs hXl hX hO hS hSR hRc hSn hc hok
   refine Lib.hid ?_
   go_wp2_with fail
   refine HCT.out.mono ?_
   rintro e w5 ⟨rfl, hw5⟩
   obtain ⟨wx, hwx⟩ : ∃ wx, wx = w4 := ⟨_, rfl⟩
   rw [hw5]
   clear hw5 HCT
   by_cases hxd : G.x ∈ c.done
   ·rw [decide_eq_true hxd]
    have HXD := Lib.hid hxd
    have k0 := (HB74.out.cell 0).trans (rfl : _ = some (Value.slice A E.length ca))
    have k1 := (HB74.out.cell 1).trans (rfl : _ = some (Value.int .u64 (c.m.trim : Int)))
    have k2 := (HB74.out.cell 2).trans (rfl : _ = some (Value.slice A2 c.m.cur.length c2))
    have hmf : ∀ (fn : Fn) (first cap : Array Value) (w : World), (Instr.makeFunc fn first cap).run Tryz.prog w = .ok (.func fn first cap) w := fun _ _ _ _ => rfl
    clear hxd hwx hlen
    -- BEGIN R8
    obtain ⟨hXs, hXl, hX, hO, hS, hSR, hRc, hSn, hc, hok⟩ := HH.out
    have hsl : SlI (fun b => ¬ X b ∧ b < w.heap.size) w4 (.slice A3 (nats c.done).length c3) (nats c.done) := (hc.2.weak fun b hb h => ⟨h, hb⟩).mod HM04.out fun b hb hz => hb.1 (by rcases hz with e | e <;> rw [e] <;> assumption)
    have HSLI := Lib.hid hsl
    have HNL : Hid ((nats c.done).length ≤ 1000000) := by show _ ≤ _; unfold nats; rw [List.length_map]; have := hok.doneN; omega
    have HBc : Hid (Below w4.heap.size w4 w4.drew) := (Below.refl _ _).drew
    have HLT : Hid (w.heap.size < w4.heap.size) := HB74.out.lt
    have eg := enters_of Tryz.func65 (by kernel_rfl) rfl
    clear hsl hXs hXl hX hO hS hSR hRc hSn hc hok
    go_wp2_with fail
    refine PF.b (by kernel_rfl) (fun _ _ _ _ _ h => h) ?_
    refine PF.t 0 (by kernel_rfl) rfl (by go_simp; try rfl) ?_
    try simp only [pz]
    refine PF.m 1 (w.heap.size) (by kernel_rfl) rfl (fun hcu => by go_simp; try rfl) ?_
    try simp only [pz]
    refine PF.t 2 (by kernel_rfl) rfl (by go_simp; try rfl) ?_
    try simp only [pz]
    refine PF.m 3 (w.heap.size) (by kernel_rfl) rfl (fun hcu => by go_simp; try rfl) ?_
    try simp only [pz]
    refine PF.t 5 (by kernel_rfl) rfl (by go_simp; try rfl) ?_
    try simp only [pz]
    refine PF.g [4, 8] (by kernel_rfl) rfl (PF.fork_cons ?_ (PF.fork_cons ?_ PF.fork_nil))
    -- number 4 first
    ·refine PF.f (by kernel_rfl) rfl fun K hK => ?_
     go_simp
     refine (iown_any (l := nats c.done) (HSLI.out.below HBc.out) HNL.out).mono ?_
     rintro e w5 ⟨⟨v5, rfl, ho5⟩, hb5⟩
     obtain ⟨A5, c5, e5, _, _⟩ := own_slice ho5
     subst e5
     have HOW := Lib.hid ho5
     have HOB : Hid (∀ b, (Value.slice A5 (nats c.done).length c5).ownBlock = some b → w4.heap.size ≤ b) := fun b hb => Nat.le_trans HBc.out.size (own_ge ho5 b hb)
     have HLB : Hid (w4.heap.size ≤ _) := HBc.out.size
     have HBc := Tt HBc hb5
     clear ho5 hb5
     refine hK (by repeat (first | exact PF.n | refine PF.l ?_ | refine PF.o (by decide +kernel) ?_ | refine PF.y (by exact HBc.out.block _ HLT.out) ?_)) ?_
     clear hK K
     try simp only [pz]
     refine PF.g [6, 8] (by kernel_rfl) rfl (PF.fork_cons ?_ (PF.fork_cons ?_ PF.fork_nil))
     -- number 6 first
     ·refine PF.f (by kernel_rfl) rfl fun K hK => ?_
      go_simp
      refine (delete_any (eqcl_ends G.bX (G.x : Int)) eg HOW.out ((HO4.out.x.below HBc.out HO4.out.x.lt).cell 0) (fun e => by have := HOB.out _ e; have := HO4.out.x.lt; omega) HNL.out).mono ?_
      rintro e w6 ⟨⟨v6, rfl, ho6, hv6⟩, hg6⟩
      obtain ⟨A6, c6, e6, _, _⟩ := own_slice ho6
      rw [nats_filter] at ho6 e6
      subst e6
      have HOD := Lib.hid ho6
      have HV6 := Lib.hid hv6
      have HBc := Lib.hid (HBc.out.grown hg6 HBc.out.size HOB.out)
      clear ho6 hv6 hg6
      refine hK (by repeat (first | exact PF.n | refine PF.l ?_ | refine PF.o (by decide +kernel) ?_ | refine PF.y (by exact HBc.out.block _ HLT.out) ?_)) ?_
      clear hK K
      try simp only [pz]
      refine PF.t 7 (by kernel_rfl) rfl (by go_simp; try rfl) ?_
      try simp only [pz]
      refine PF.e 8 (by kernel_rfl) rfl fun K hK => ?_
      refine wp_alloc_blk rfl zero_course ?_
      intro g8 w8 e8 hB8 hb8
      have HODo := Lib.hid HOD.out
      have HB8 := Lib.hid hB8
      have HG8 : Hid (w4.heap.size ≤ g8 ∧ g8 < w8.heap.size) := ⟨by have := HBc.out.size; omega, hB8.lt⟩
      have HBc := Tt HBc hb8
      have HOD := Lib.hid (own_call HOD.out hb8)
      have HNE : Hid (∀ b, (Value.slice A6 (nats (c.done.filter fun k => !decide (k = G.x))).length c6).ownBlock = some b → b ≠ g8) := fun b hb => by have := (HODo.out.lt b hb).2; omega
      clear e8 hB8 hb8
      refine hK (by repeat (first | exact PF.n | refine PF.l ?_ | refine PF.o (by decide +kernel) ?_ | refine PF.y (by exact HBc.out.block _ HLT.out) ?_)) ?_
      clear hK K
      try simp only [pz]
      refine PF.e 9 (by kernel_rfl) rfl fun K hK => ?_
      refine wp_store_rgB (vs := crL (dropC G.x c) (.slice A E.length ca) (.slice A2 c.m.cur.length c2) (.slice A6 (nats (c.done.filter fun k => !decide (k = G.x))).length c6)) rfl rfl rfl HB8.out (Nat.le_refl _) (info_course rfl) (by intro u hu; simp only [crL, List.mem_cons, List.not_mem_nil, or_false] at hu; rcases hu with rfl | rfl | rfl | rfl <;> rfl) ?_
      intro w9 hB9 hm9
      have hB9 : Blk w9 g8 99 (crL (dropC G.x c) (.slice A E.length ca) (.slice A2 c.m.cur.length c2) (.slice A6 (nats (c.done.filter fun k => !decide (k = G.x))).length c6)).toArray := hB9
      have HB9 := Lib.hid hB9
      have HOD := Lib.hid (own_mod HOD.out hm9 fun b hb e => HNE.out b hb e)
      have HBc := Lib.hid (HBc.out.trans (hm9.to_below HBc.out.size fun b hb e => by have := HG8.out; omega))
      clear hB9 hm9
      refine hK (by repeat (first | exact PF.n | refine PF.l ?_ | refine PF.o (by decide +kernel) ?_ | refine PF.y (by first | rfl | assumption | go_simp) ?_)) ?_
      clear hK K
      try simp only [pz]
      refine PF.d (by kernel_rfl) ?_
      obtain ⟨hXs, hXl, hX, hO, hS, hSR, hRc, hSn, hc, hok⟩ := HH.out
      have hs9 := HBc.out.size
      have hlt := HLT.out
      have hX8 := HB84.out.lt
      have hm09 : Mod G.Z w w9 := HM04.out.trans (mod_below HBc.out)
      have hO9 := hO.mod hm09
      have hokd : OkC (dropC G.x c) := ⟨hok.m, hok.cur3, fun k hk => hok.done k ((List.mem_filter.1 hk).1), Nat.le_trans (List.length_filter_le _ _) hok.doneN, hok.sorted.filter _⟩
      have hnX : ∀ b, w4.heap.size ≤ b → ¬ Xd X (w.heap.size + 1) [] b := fun b hb h => by
       rcases h with h | h | h
       ·have := hX b h; omega
       ·omega
       ·cases h
      have hcr : CrF (fun b => ¬ Xd X (w.heap.size + 1) [] b) w9 (.slice A E.length ca) (.slice A2 c.m.cur.length c2) (.slice A6 (nats (c.done.filter fun k => !decide (k = G.x))).length c6) (dropC G.x c) :=
       ⟨((hc.1.weak fun b hb h => ⟨h, hb⟩).mod hm09 fun b (hb : ¬ X b ∧ b < w.heap.size) hz => hb.1 (by rcases hz with e | e <;> rw [e] <;> assumption)).weak fun b _ hb h => (by
        rcases h with h | h | h
        ·exact hb.1 h
        ·have := hb.2; omega
        ·cases h), (OwI.sli HOD.out).weak fun b _ hb => hnX b (Nat.le_trans (by first | exact Nat.le_refl _ | exact HLB.out) hb)⟩
      have HCR := Lib.hid hcr
      have HOKD := Lib.hid hokd
      have HM09 := Lib.hid hm09
      have cL := hO9.l.cell 0
      have HLL : Hid (G.bL < w9.heap.size) := hO9.l.lt
      have HL8 : Hid (g8 < w9.heap.size) := HB9.out.lt
      have HB89 := Lib.hid (HB84.out.below HBc.out HB84.out.lt)
      have HST9 := Lib.hid (HST4.out.below HBc.out)
      have q0 := (HB9.out.cell 0).trans (rfl : _ = some (Value.slice A E.length ca))
      have q1 := (HB9.out.cell 1).trans (rfl : _ = some (Value.int .u64 (c.m.trim : Int)))
      have q2 := (HB9.out.cell 2).trans (rfl : _ = some (Value.slice A2 c.m.cur.length c2))
      have q3 := (HB9.out.cell 3).trans (rfl : _ = some (Value.slice A6 (nats (c.done.filter fun k => !decide (k = G.x))).length c6))
      clear hs9 hlt hX8 hm09 hO9 hokd hnX hcr hXs hXl hX hO hS hSR hRc hSn hc hok k0 k1 k2 k3 hmf
      go_wp2_with fail
      refine PF.b (by kernel_rfl) (fun _ _ _ _ _ h => h) ?_
      refine PF.m 0 (G.bL) (by kernel_rfl) rfl (fun hcu => by go_simp; try rfl) ?_
      try simp only [pz]
      refine PF.m 1 (g8) (by kernel_rfl) rfl (fun hcu => by go_simp; try rfl) ?_
      try simp only [pz]
      refine PF.m 3 (g8) (by kernel_rfl) rfl (fun hcu => by go_simp; try rfl) ?_
      try simp only [pz]
      refine PF.e 2 (by kernel_rfl) rfl fun K hK => ?_
      go_simp
      refine (word_any (HCR.out.below (Below.refl _ _).drew) HOKD.out).mono ?_
      rintro e w10 ⟨rfl, hb10⟩
      have hbd : Below w9.heap.size w9 w10 := (Below.refl w9.heap.size w9).drew.trans hb10
      obtain ⟨ES4, EL4, hms, hml, hsr, hlr, hel⟩ := HST9.out.below hbd
      obtain ⟨w11, hrun, hml11, hg11⟩ := hml.store strK Tryz.underlying109 (str_key (n := wordC (dropC G.x c)) (by have := wordC_len HOKD.out; omega)) (by have h1 := HBIG.out; have h2 := HN1.out; have h3 := hsr.len; omega) (.agg #[.slice A E.length ca, .int .u64 (c.m.trim : Int), .slice A2 c.m.cur.length c2, .slice A6 (nats (c.done.filter fun k => !decide (k = G.x))).length c6])
      have HBD := Lib.hid hbd
      have HS10 : Hid (MapW 9 w10 G.sb ES4 ∧ MapW 9 w10 G.lb EL4 ∧ SeenR ES4 (c :: S) ∧ LeftR (Xd X (w.heap.size + 1) []) w10 EL4 L ∧ EL4.length ≤ S.length) := ⟨hms, hml, hsr, hlr, hel⟩
      have HML11 := Lib.hid hml11
      have HM11 := Lib.hid (mod_ofW hg11)
      clear hbd hb10 hms hml hsr hlr hel hml11 hg11
      refine hK (by repeat (first | exact PF.n | refine PF.l ?_ | refine PF.o (by decide +kernel) ?_ | refine PF.y (by first | exact HBD.out.block _ HLL.out | exact HBD.out.block _ HL8.out) ?_)) ?_
      clear hK K
      try simp only [pz]
      refine PF.e 4 (by kernel_rfl) rfl fun K hK => ?_
      go_simp
      refine hK (by repeat (first | exact PF.n | refine PF.l ?_ | refine PF.o (by decide +kernel) ?_ | refine PF.y (by first | rfl | assumption | go_simp) ?_)) ?_
      clear hK K
      try simp only [pz]
      refine PF.d (by kernel_rfl) ?_
      have hT11 : Mod (fun b => b = G.lb) w9 w11 := (mod_below HBD.out).trans HM11.out
      obtain ⟨hXs, hXl, hX, hO, hS, hSR, hRc, hSn, hc, hok⟩ := HH.out
      obtain ⟨hms, hml, hsr, hlr, hel⟩ := HS10.out
      have hB11 : Blk w11 (w.heap.size + 1) 4 #[.bool false] := HB89.out.mod hT11 fun e => by have := hX _ hXl; omega
      have hst11 : GoSt G (Xd X (w.heap.size + 1) []) w11 (c :: S) (dropC G.x c :: L) :=
       ⟨ES4, _, hms.mod HM11.out hO.ne, HML11.out, hsr, (hlr.put (hml.srt strK) HOKD.out ⟨_, _, _, rfl, HCR.out.below HBD.out⟩).mod HM11.out fun b _ e => .inl (by rw [e]; exact hXl), by have := fput_le (wordC (dropC G.x c)) (.agg #[.slice A E.length ca, .int .u64 (c.m.trim : Int), .slice A2 c.m.cur.length c2, .slice A6 (nats (c.done.filter fun k => !decide (k = G.x))).length c6]) EL4; simp only [List.length_cons]; omega⟩
      have HST11 := Lib.hid hst11
      have HB11 := Lib.hid hB11
      have HM011 : Hid (Mod G.Z w w11) := HM09.out.trans (hT11.mono fun b _ e => .inr e)
      have c8 := hB11.cell 0
      have f8 := hB11.free 0
      clear hT11 hXs hXl hX hO hS hSR hRc hSn hc hok hms hml hsr hlr hel hB11 hst11
      go_wp2_with fail
      obtain ⟨hXs, hXl, hX, hO, hS, hSR, hRc, hSn, hc, hok⟩ := HH.out
      exact goes_out (Ds := []) Tryz.results61 rfl hX hXs hXl HB11.out (by simp) (by simp) HM011.out fun w' hw' hm' => ⟨hm', .inl ⟨rfl, c :: S, dropC G.x c :: L, hw' _ _ HST11.out, by have := HBIG.out; have := HN1.out; simp; omega, by simp, Trv.put hSR hRc HXD.out (fun l => by simp)⟩⟩
     -- number 8 first
     ·refine PF.f (by kernel_rfl) rfl fun K hK => ?_
      refine wp_alloc_blk rfl zero_course ?_
      intro g8 w8 e8 hB8 hb8
      have HOWo := Lib.hid HOW.out
      have HB8 := Lib.hid hB8
      have HG8 : Hid (w4.heap.size ≤ g8 ∧ g8 < w8.heap.size) := ⟨by have := HBc.out.size; omega, hB8.lt⟩
      have HBc := Tt HBc hb8
      have HOW := Lib.hid (own_call HOW.out hb8)
      have HNE : Hid (∀ b, (Value.slice A5 (nats c.done).length c5).ownBlock = some b → b ≠ g8) := fun b hb => by have := (HOWo.out.lt b hb).2; omega
      clear e8 hB8 hb8
      refine hK (by repeat (first | exact PF.n | refine PF.l ?_ | refine PF.o (by decide +kernel) ?_ | refine PF.y (by exact HBc.out.block _ HLT.out) ?_)) ?_
      clear hK K
      try simp only [pz]
      refine PF.e 6 (by kernel_rfl) rfl fun K hK => ?_
      go_simp
      refine (delete_any (eqcl_ends G.bX (G.x : Int)) eg HOW.out ((HO4.out.x.below HBc.out HO4.out.x.lt).cell 0) (fun e => by have := HOB.out _ e; have := HO4.out.x.lt; omega) HNL.out).mono ?_
      rintro e w6 ⟨⟨v6, rfl, ho6, hv6⟩, hg6⟩
      obtain ⟨A6, c6, e6, _, _⟩ := own_slice ho6
      rw [nats_filter] at ho6 e6
      subst e6
      have HNEo := Lib.hid HNE.out
      have HOD := Lib.hid ho6
      have HV6 := Lib.hid hv6
      have HNE : Hid (∀ b, (Value.slice A6 (nats (c.done.filter fun k => !decide (k = G.x))).length c6).ownBlock = some b → b ≠ g8) := fun b hb => HNE.out b (HV6.out ▸ hb)
      have HB8 := Lib.hid (HB8.out.grown hg6 fun e => HNEo.out _ e.symm rfl)
      have HBc := Lib.hid (HBc.out.grown hg6 HBc.out.size HOB.out)
      clear ho6 hv6 hg6
      refine hK (by repeat (first | exact PF.n | refine PF.l ?_ | refine PF.o (by decide +kernel) ?_ | refine PF.y (by exact HBc.out.block _ HLT.out) ?_)) ?_
      clear hK K
      try simp only [pz]
      refine PF.t 7 (by kernel_rfl) rfl (by go_simp; try rfl) ?_
      try simp only [pz]
      refine PF.e 9 (by kernel_rfl) rfl fun K hK => ?_
      refine wp_store_rgB (vs := crL (dropC G.x c) (.slice A E.length ca) (.slice A2 c.m.cur.length c2) (.slice A6 (nats (c.done.filter fun k => !decide (k = G.x))).length c6)) rfl rfl rfl HB8.out (Nat.le_refl _) (info_course rfl) (by intro u hu; simp only [crL, List.mem_cons, List.not_mem_nil, or_false] at hu; rcases hu with rfl | rfl | rfl | rfl <;> rfl) ?_
      intro w9 hB9 hm9
      have hB9 : Blk w9 g8 99 (crL (dropC G.x c) (.slice A E.length ca) (.slice A2 c.m.cur.length c2) (.slice A6 (nats (c.done.filter fun k => !decide (k = G.x))).length c6)).toArray := hB9
      have HB9 := Lib.hid hB9
      have HOD := Lib.hid (own_mod HOD.out hm9 fun b hb e => HNE.out b hb e)
      have HBc := Lib.hid (HBc.out.trans (hm9.to_below HBc.out.size fun b hb e => by have := HG8.out; omega))
      clear hB9 hm9
      refine hK (by repeat (first | exact PF.n | refine PF.l ?_ | refine PF.o (by decide +kernel) ?_ | refine PF.y (by first | rfl | assumption | go_simp) ?_)) ?_
      clear hK K
      try simp only [pz]
      refine PF.d (by kernel_rfl) ?_
      obtain ⟨hXs, hXl, hX, hO, hS, hSR, hRc, hSn, hc, hok⟩ := HH.out
      have hs9 := HBc.out.size
      have hlt := HLT.out
      have hX8 := HB84.out.lt
      have hm09 : Mod G.Z w w9 := HM04.out.trans (mod_below HBc.out)
      have hO9 := hO.mod hm09
      have hokd : OkC (dropC G.x c) := ⟨hok.m, hok.cur3, fun k hk => hok.done k ((List.mem_filter.1 hk).1), Nat.le_trans (List.length_filter_le _ _) hok.doneN, hok.sorted.filter _⟩
      have hnX : ∀ b, w4.heap.size ≤ b → ¬ Xd X (w.heap.size + 1) [] b := fun b hb h => by
       rcases h with h | h | h
       ·have := hX b h; omega
       ·omega
       ·cases h
      have hcr : CrF (fun b => ¬ Xd X (w.heap.size + 1) [] b) w9 (.slice A E.length ca) (.slice A2 c.m.cur.length c2) (.slice A6 (nats (c.done.filter fun k => !decide (k = G.x))).length c6) (dropC G.x c) :=
       ⟨((hc.1.weak fun b hb h => ⟨h, hb⟩).mod hm09 fun b (hb : ¬ X b ∧ b < w.heap.size) hz => hb.1 (by rcases hz with e | e <;> rw [e] <;> assumption)).weak fun b _ hb h => (by
        rcases h with h | h | h
        ·exact hb.1 h
        ·have := hb.2; omega
        ·cases h), (OwI.sli HOD.out).weak fun b _ hb => hnX b (Nat.le_trans (by first | exact Nat.le_refl _ | exact HLB.out) hb)⟩
      have HCR := Lib.hid hcr
      have HOKD := Lib.hid hokd
      have HM09 := Lib.hid hm09
      have cL := hO9.l.cell 0
      have HLL : Hid (G.bL < w9.heap.size) := hO9.l.lt
      have HL8 : Hid (g8 < w9.heap.size) := HB9.out.lt
      have HB89 := Lib.hid (HB84.out.below HBc.out HB84.out.lt)
      have HST9 := Lib.hid (HST4.out.below HBc.out)
      have q0 := (HB9.out.cell 0).trans (rfl : _ = some (Value.slice A E.length ca))
      have q1 := (HB9.out.cell 1).trans (rfl : _ = some (Value.int .u64 (c.m.trim : Int)))
      have q2 := (HB9.out.cell 2).trans (rfl : _ = some (Value.slice A2 c.m.cur.length c2))
      have q3 := (HB9.out.cell 3).trans (rfl : _ = some (Value.slice A6 (nats (c.done.filter fun k => !decide (k = G.x))).length c6))
      clear hs9 hlt hX8 hm09 hO9 hokd hnX hcr hXs hXl hX hO hS hSR hRc hSn hc hok k0 k1 k2 k3 hmf
      go_wp2_with fail
      refine PF.b (by kernel_rfl) (fun _ _ _ _ _ h => h) ?_
      refine PF.m 0 (G.bL) (by kernel_rfl) rfl (fun hcu => by go_simp; try rfl) ?_
      try simp only [pz]
      refine PF.m 1 (g8) (by kernel_rfl) rfl (fun hcu => by go_simp; try rfl) ?_
      try simp only [pz]
      refine PF.m 3 (g8) (by kernel_rfl) rfl (fun hcu => by go_simp; try rfl) ?_
      try simp only [pz]
      refine PF.e 2 (by kernel_rfl) rfl fun K hK => ?_
      go_simp
      refine (word_any (HCR.out.below (Below.refl _ _).drew) HOKD.out).mono ?_
      rintro e w10 ⟨rfl, hb10⟩
      have hbd : Below w9.heap.size w9 w10 := (Below.refl w9.heap.size w9).drew.trans hb10
      obtain ⟨ES4, EL4, hms, hml, hsr, hlr, hel⟩ := HST9.out.below hbd
      obtain ⟨w11, hrun, hml11, hg11⟩ := hml.store strK Tryz.underlying109 (str_key (n := wordC (dropC G.x c)) (by have := wordC_len HOKD.out; omega)) (by have h1 := HBIG.out; have h2 := HN1.out; have h3 := hsr.len; omega) (.agg #[.slice A E.length ca, .int .u64 (c.m.trim : Int), .slice A2 c.m.cur.length c2, .slice A6 (nats (c.done.filter fun k => !decide (k = G.x))).length c6])
      have HBD := Lib.hid hbd
      have HS10 : Hid (MapW 9 w10 G.sb ES4 ∧ MapW 9 w10 G.lb EL4 ∧ SeenR ES4 (c :: S) ∧ LeftR (Xd X (w.heap.size + 1) []) w10 EL4 L ∧ EL4.length ≤ S.length) := ⟨hms, hml, hsr, hlr, hel⟩
      have HML11 := Lib.hid hml11
      have HM11 := Lib.hid (mod_ofW hg11)
      clear hbd hb10 hms hml hsr hlr hel hml11 hg11
      refine hK (by repeat (first | exact PF.n | refine PF.l ?_ | refine PF.o (by decide +kernel) ?_ | refine PF.y (by first | exact HBD.out.block _ HLL.out | exact HBD.out.block _ HL8.out) ?_)) ?_
      clear hK K
      try simp only [pz]
      refine PF.e 4 (by kernel_rfl) rfl fun K hK => ?_
      go_simp
      refine hK (by repeat (first | exact PF.n | refine PF.l ?_ | refine PF.o (by decide +kernel) ?_ | refine PF.y (by first | rfl | assumption | go_simp) ?_)) ?_
      clear hK K
      try simp only [pz]
      refine PF.d (by kernel_rfl) ?_
      have hT11 : Mod (fun b => b = G.lb) w9 w11 := (mod_below HBD.out).trans HM11.out
      obtain ⟨hXs, hXl, hX, hO, hS, hSR, hRc, hSn, hc, hok⟩ := HH.out
      obtain ⟨hms, hml, hsr, hlr, hel⟩ := HS10.out
      have hB11 : Blk w11 (w.heap.size + 1) 4 #[.bool false] := HB89.out.mod hT11 fun e => by have := hX _ hXl; omega
      have hst11 : GoSt G (Xd X (w.heap.size + 1) []) w11 (c :: S) (dropC G.x c :: L) :=
       ⟨ES4, _, hms.mod HM11.out hO.ne, HML11.out, hsr, (hlr.put (hml.srt strK) HOKD.out ⟨_, _, _, rfl, HCR.out.below HBD.out⟩).mod HM11.out fun b _ e => .inl (by rw [e]; exact hXl), by have := fput_le (wordC (dropC G.x c)) (.agg #[.slice A E.length ca, .int .u64 (c.m.trim : Int), .slice A2 c.m.cur.length c2, .slice A6 (nats (c.done.filter fun k => !decide (k = G.x))).length c6]) EL4; simp only [List.length_cons]; omega⟩
      have HST11 := Lib.hid hst11
      have HB11 := Lib.hid hB11
      have HM011 : Hid (Mod G.Z w w11) := HM09.out.trans (hT11.mono fun b _ e => .inr e)
      have c8 := hB11.cell 0
      have f8 := hB11.free 0
      clear hT11 hXs hXl hX hO hS hSR hRc hSn hc hok hms hml hsr hlr hel hB11 hst11
      go_wp2_with fail
      obtain ⟨hXs, hXl, hX, hO, hS, hSR, hRc, hSn, hc, hok⟩ := HH.out
      exact goes_out (Ds := []) Tryz.results61 rfl hX hXs hXl HB11.out (by simp) (by simp) HM011.out fun w' hw' hm' => ⟨hm', .inl ⟨rfl, c :: S, dropC G.x c :: L, hw' _ _ HST11.out, by have := HBIG.out; have := HN1.out; simp; omega, by simp, Trv.put hSR hRc HXD.out (fun l => by simp)⟩⟩
    -- number 8 first
    ·refine PF.f (by kernel_rfl) rfl fun K hK => ?_
     refine wp_alloc_blk rfl zero_course ?_
     intro g8 w8 e8 hB8 hb8
     have HB8 := Lib.hid hB8
     have HG8 : Hid (w4.heap.size ≤ g8 ∧ g8 < w8.heap.size) := ⟨by have := HBc.out.size; omega, hB8.lt⟩
     have HBc := Tt HBc hb8
     clear e8 hB8 hb8
     refine hK (by repeat (first | exact PF.n | refine PF.l ?_ | refine PF.o (by decide +kernel) ?_ | refine PF.y (by exact HBc.out.block _ HLT.out) ?_)) ?_
     clear hK K
     try simp only [pz]
     refine PF.e 4 (by kernel_rfl) rfl fun K hK => ?_
     go_simp
     refine (iown_any (l := nats c.done) (HSLI.out.below HBc.out) HNL.out).mono ?_
     rintro e w5 ⟨⟨v5, rfl, ho5⟩, hb5⟩
     obtain ⟨A5, c5, e5, _, _⟩ := own_slice ho5
     subst e5
     have HOW := Lib.hid ho5
     have HOB : Hid (∀ b, (Value.slice A5 (nats c.done).length c5).ownBlock = some b → w4.heap.size ≤ b) := fun b hb => Nat.le_trans HBc.out.size (own_ge ho5 b hb)
     have HLB : Hid (w4.heap.size ≤ _) := HBc.out.size
     have HNE : Hid (∀ b, (Value.slice A5 (nats c.done).length c5).ownBlock = some b → b ≠ g8) := fun b hb => by have := own_ge ho5 b hb; have := HG8.out; omega
     have HB8 := Bb HB8 hb5
     have HBc := Tt HBc hb5
     clear ho5 hb5
     refine hK (by repeat (first | exact PF.n | refine PF.l ?_ | refine PF.o (by decide +kernel) ?_ | refine PF.y (by exact HBc.out.block _ HLT.out) ?_)) ?_
     clear hK K
     try simp only [pz]
     refine PF.e 6 (by kernel_rfl) rfl fun K hK => ?_
     go_simp
     refine (delete_any (eqcl_ends G.bX (G.x : Int)) eg HOW.out ((HO4.out.x.below HBc.out HO4.out.x.lt).cell 0) (fun e => by have := HOB.out _ e; have := HO4.out.x.lt; omega) HNL.out).mono ?_
     rintro e w6 ⟨⟨v6, rfl, ho6, hv6⟩, hg6⟩
     obtain ⟨A6, c6, e6, _, _⟩ := own_slice ho6
     rw [nats_filter] at ho6 e6
     subst e6
     have HNEo := Lib.hid HNE.out
     have HOD := Lib.hid ho6
     have HV6 := Lib.hid hv6
     have HNE : Hid (∀ b, (Value.slice A6 (nats (c.done.filter fun k => !decide (k = G.x))).length c6).ownBlock = some b → b ≠ g8) := fun b hb => HNE.out b (HV6.out ▸ hb)
     have HB8 := Lib.hid (HB8.out.grown hg6 fun e => HNEo.out _ e.symm rfl)
     have HBc := Lib.hid (HBc.out.grown hg6 HBc.out.size HOB.out)
     clear ho6 hv6 hg6
     refine hK (by repeat (first | exact PF.n | refine PF.l ?_ | refine PF.o (by decide +kernel) ?_ | refine PF.y (by exact HBc.out.block _ HLT.out) ?_)) ?_
     clear hK K
     try simp only [pz]
     refine PF.t 7 (by kernel_rfl) rfl (by go_simp; try rfl) ?_
     try simp only [pz]
     refine PF.e 9 (by kernel_rfl) rfl fun K hK => ?_
     refine wp_store_rgB (vs := crL (dropC G.x c) (.slice A E.length ca) (.slice A2 c.m.cur.length c2) (.slice A6 (nats (c.done.filter fun k => !decide (k = G.x))).length c6)) rfl rfl rfl HB8.out (Nat.le_refl _) (info_course rfl) (by intro u hu; simp only [crL, List.mem_cons, List.not_mem_nil, or_false] at hu; rcases hu with rfl | rfl | rfl | rfl <;> rfl) ?_
     intro w9 hB9 hm9
     have hB9 : Blk w9 g8 99 (crL (dropC G.x c) (.slice A E.length ca) (.slice A2 c.m.cur.length c2) (.slice A6 (nats (c.done.filter fun k => !decide (k = G.x))).length c6)).toArray := hB9
     have HB9 := Lib.hid hB9
     have HOD := Lib.hid (own_mod HOD.out hm9 fun b hb e => HNE.out b hb e)
     have HBc := Lib.hid (HBc.out.trans (hm9.to_below HBc.out.size fun b hb e => by have := HG8.out; omega))
     clear hB9 hm9
     refine hK (by repeat (first | exact PF.n | refine PF.l ?_ | refine PF.o (by decide +kernel) ?_ | refine PF.y (by first | rfl | assumption | go_simp) ?_)) ?_
     clear hK K
     try simp only [pz]
     refine PF.d (by kernel_rfl) ?_
     obtain ⟨hXs, hXl, hX, hO, hS, hSR, hRc, hSn, hc, hok⟩ := HH.out
     have hs9 := HBc.out.size
     have hlt := HLT.out
     have hX8 := HB84.out.lt
     have hm09 : Mod G.Z w w9 := HM04.out.trans (mod_below HBc.out)
     have hO9 := hO.mod hm09
     have hokd : OkC (dropC G.x c) := ⟨hok.m, hok.cur3, fun k hk => hok.done k ((List.mem_filter.1 hk).1), Nat.le_trans (List.length_filter_le _ _) hok.doneN, hok.sorted.filter _⟩
     have hnX : ∀ b, w4.heap.size ≤ b → ¬ Xd X (w.heap.size + 1) [] b := fun b hb h => by
      rcases h with h | h | h
      ·have := hX b h; omega
      ·omega
      ·cases h
     have hcr : CrF (fun b => ¬ Xd X (w.heap.size + 1) [] b) w9 (.slice A E.length ca) (.slice A2 c.m.cur.length c2) (.slice A6 (nats (c.done.filter fun k => !decide (k = G.x))).length c6) (dropC G.x c) :=
      ⟨((hc.1.weak fun b hb h => ⟨h, hb⟩).mod hm09 fun b (hb : ¬ X b ∧ b < w.heap.size) hz => hb.1 (by rcases hz with e | e <;> rw [e] <;> assumption)).weak fun b _ hb h => (by
       rcases h with h | h | h
       ·exact hb.1 h
       ·have := hb.2; omega
       ·cases h), (OwI.sli HOD.out).weak fun b _ hb => hnX b (Nat.le_trans (by first | exact Nat.le_refl _ | exact HLB.out) hb)⟩
     have HCR := Lib.hid hcr
     have HOKD := Lib.hid hokd
     have HM09 := Lib.hid hm09
     have cL := hO9.l.cell 0
     have HLL : Hid (G.bL < w9.heap.size) := hO9.l.lt
     have HL8 : Hid (g8 < w9.heap.size) := HB9.out.lt
     have HB89 := Lib.hid (HB84.out.below HBc.out HB84.out.lt)
     have HST9 := Lib.hid (HST4.out.below HBc.out)
     have q0 := (HB9.out.cell 0).trans (rfl : _ = some (Value.slice A E.length ca))
     have q1 := (HB9.out.cell 1).trans (rfl : _ = some (Value.int .u64 (c.m.trim : Int)))
     have q2 := (HB9.out.cell 2).trans (rfl : _ = some (Value.slice A2 c.m.cur.length c2))
     have q3 := (HB9.out.cell 3).trans (rfl : _ = some (Value.slice A6 (nats (c.done.filter fun k => !decide (k = G.x))).length c6))
     clear hs9 hlt hX8 hm09 hO9 hokd hnX hcr hXs hXl hX hO hS hSR hRc hSn hc hok k0 k1 k2 k3 hmf
     go_wp2_with fail
     refine PF.b (by kernel_rfl) (fun _ _ _ _ _ h => h) ?_
     refine PF.m 0 (G.bL) (by kernel_rfl) rfl (fun hcu => by go_simp; try rfl) ?_
     try simp only [pz]
     refine PF.m 1 (g8) (by kernel_rfl) rfl (fun hcu => by go_simp; try rfl) ?_
     try simp only [pz]
     refine PF.m 3 (g8) (by kernel_rfl) rfl (fun hcu => by go_simp; try rfl) ?_
     try simp only [pz]
     refine PF.e 2 (by kernel_rfl) rfl fun K hK => ?_
     go_simp
     refine (word_any (HCR.out.below (Below.refl _ _).drew) HOKD.out).mono ?_
     rintro e w10 ⟨rfl, hb10⟩
     have hbd : Below w9.heap.size w9 w10 := (Below.refl w9.heap.size w9).drew.trans hb10
     obtain ⟨ES4, EL4, hms, hml, hsr, hlr, hel⟩ := HST9.out.below hbd
     obtain ⟨w11, hrun, hml11, hg11⟩ := hml.store strK Tryz.underlying109 (str_key (n := wordC (dropC G.x c)) (by have := wordC_len HOKD.out; omega)) (by have h1 := HBIG.out; have h2 := HN1.out; have h3 := hsr.len; omega) (.agg #[.slice A E.length ca, .int .u64 (c.m.trim : Int), .slice A2 c.m.cur.length c2, .slice A6 (nats (c.done.filter fun k => !decide (k = G.x))).length c6])
     have HBD := Lib.hid hbd
     have HS10 : Hid (MapW 9 w10 G.sb ES4 ∧ MapW 9 w10 G.lb EL4 ∧ SeenR ES4 (c :: S) ∧ LeftR (Xd X (w.heap.size + 1) []) w10 EL4 L ∧ EL4.length ≤ S.length) := ⟨hms, hml, hsr, hlr, hel⟩
     have HML11 := Lib.hid hml11
     have HM11 := Lib.hid (mod_ofW hg11)
     clear hbd hb10 hms hml hsr hlr hel hml11 hg11
     refine hK (by repeat (first | exact PF.n | refine PF.l ?_ | refine PF.o (by decide +kernel) ?_ | refine PF.y (by first | exact HBD.out.block _ HLL.out | exact HBD.out.block _ HL8.out) ?_)) ?_
     clear hK K
     try simp only [pz]
     refine PF.e 4 (by kernel_rfl) rfl fun K hK => ?_
     go_simp
     refine hK (by repeat (first | exact PF.n | refine PF.l ?_ | refine PF.o (by decide +kernel) ?_ | refine PF.y (by first | rfl | assumption | go_simp) ?_)) ?_
     clear hK K
     try simp only [pz]
     refine PF.d (by kernel_rfl) ?_
     have hT11 : Mod (fun b => b = G.lb) w9 w11 := (mod_below HBD.out).trans HM11.out
     obtain ⟨hXs, hXl, hX, hO, hS, hSR, hRc, hSn, hc, hok⟩ := HH.out
     obtain ⟨hms, hml, hsr, hlr, hel⟩ := HS10.out
     have hB11 : Blk w11 (w.heap.size + 1) 4 #[.bool false] := HB89.out.mod hT11 fun e => by have := hX _ hXl; omega
     have hst11 : GoSt G (Xd X (w.heap.size + 1) []) w11 (c :: S) (dropC G.x c :: L) :=
      ⟨ES4, _, hms.mod HM11.out hO.ne, HML11.out, hsr, (hlr.put (hml.srt strK) HOKD.out ⟨_, _, _, rfl, HCR.out.below HBD.out⟩).mod HM11.out fun b _ e => .inl (by rw [e]; exact hXl), by have := fput_le (wordC (dropC G.x c)) (.agg #[.slice A E.length ca, .int .u64 (c.m.trim : Int), .slice A2 c.m.cur.length c2, .slice A6 (nats (c.done.filter fun k => !decide (k = G.x))).length c6]) EL4; simp only [List.length_cons]; omega⟩
     have HST11 := Lib.hid hst11
     have HB11 := Lib.hid hB11
     have HM011 : Hid (Mod G.Z w w11) := HM09.out.trans (hT11.mono fun b _ e => .inr e)
     have c8 := hB11.cell 0
     have f8 := hB11.free 0
     clear hT11 hXs hXl hX hO hS hSR hRc hSn hc hok hms hml hsr hlr hel hB11 hst11
     go_wp2_with fail
     obtain ⟨hXs, hXl, hX, hO, hS, hSR, hRc, hSn, hc, hok⟩ := HH.out
     exact goes_out (Ds := []) Tryz.results61 rfl hX hXs hXl HB11.out (by simp) (by simp) HM011.out fun w' hw' hm' => ⟨hm', .inl ⟨rfl, c :: S, dropC G.x c :: L, hw' _ _ HST11.out, by have := HBIG.out; have := HN1.out; simp; omega, by simp, Trv.put hSR hRc HXD.out (fun l => by simp)⟩⟩
    -- END R8
   ·rw [decide_eq_false hxd]
    have HXD := Lib.hid hxd
    obtain ⟨hXs, hXl, hX, hO, hS, hSR, hRc, hSn, hc, hok⟩ := HH.out
    obtain ⟨Ao, co, evo, hro, hco1, hco2, hco3⟩ := HO4.out.op
    have nlen : (nats G.op).length = G.op.length := by unfold nats; rw [List.length_map]
    rw [nlen] at evo hro
    have cP := (HO4.out.p.cell 0).trans (show _ = some (Value.slice Ao G.op.length co) by rw [evo]; rfl)
    have hopl := HG.out.opl
    have HRO := Lib.hid hro
    have HCO := Lib.hid hco3
    have hst0 : ∃ S1 L1, GoSt G (Xd X (w.heap.size + 1) []) w4 S1 L1 ∧ S1.length ≤ 3000 ∧ Trv G.ops G.op G.x R (fun d => d = c) S L S1 L1 ∧ c ∈ S1 := by
     refine ⟨c :: S, L, ?_, ?_, Trv.start hSR hRc, by simp⟩
     ·obtain ⟨ES4, EL4, a1, a2, a3, a4, a5⟩ := HST4.out
      exact ⟨ES4, EL4, a1, a2, a3, a4, by simp only [List.length_cons]; omega⟩
     ·have h1 := HBIG.out; have h2 := HN1.out; simp only [List.length_cons]; omega
    have HST0 := Lib.hid hst0
    have q0 := (HB74.out.cell 0).trans (rfl : _ = some (Value.slice A E.length ca))
    have q1 := (HB74.out.cell 1).trans (rfl : _ = some (Value.int .u64 (c.m.trim : Int)))
    have q2 := (HB74.out.cell 2).trans (rfl : _ = some (Value.slice A2 c.m.cur.length c2))
    clear hxd hwx hlen hXs hXl hX hO hS hSR hRc hSn hc hok hro hco1 hco3 evo nlen hst0 q0 q1 q2
    go_wp2_with fail
    refine wp_loop_slots [12, 46, 47, 48, 49, 50, 51, 52, 53, 54, 55, 56, 57, 58, 59, 60, 76]
     (fun vs ds u => ∃ (i : Nat) (Ds : List Nat) (u12 u46 u47 u48 u49 u50 u51 u52 u53 u54 u55 u56 u57 u58 u59 u60 u76 : Value), vs = [u12, u46, u47, u48, u49, u50, u51, u52, u53, u54, u55, u56, u57, u58, u59, u60, u76] ∧ u46 = .int .i64 i ∧ ds = Ds.map dmark ∧ i ≤ G.op.length ∧
      Mod G.Z w4 u ∧ (∀ d ∈ Ds, w4.heap.size ≤ d ∧ u.heap[d]? = some (.deferred (some []))) ∧ Ds.Nodup ∧ ∃ S1 L1, GoSt G (Xd X (w.heap.size + 1) Ds) u S1 L1 ∧ S1.length ≤ 3000 ∧ Trv G.ops G.op G.x R (fun d => d = c) S L S1 L1 ∧ c ∈ S1 ∧
      ∀ j, (hj : j < G.op.length) → j < i → ∀ e ∈ stepC G.ops c G.op[j], e ∈ S1)
     (fun a _ => G.op.length - (intOf (a.tmps.getD 46 undef)).toNat) ?_ ?_
    ·obtain ⟨S1, L1, a1, a2, a3, a4⟩ := HST0.out
     exact ⟨0, [], _, _, _, _, _, _, _, _, _, _, _, _, _, _, _, _, _, rfl, rfl, rfl, Nat.zero_le _, Mod.refl _ _, by simp, by simp, S1, L1, a1, a2, a3, a4, fun j hj h => by omega⟩
    rintro vs ds u - ⟨i, Ds, u12, u46, u47, u48, u49, u50, u51, u52, u53, u54, u55, u56, u57, u58, u59, u60, u76, rfl, rfl, rfl, hi, hmu, hDs, hnd, S1, L1, hst1, hs1, ht1, hc1, hst⟩
    have HMU := Lib.hid hmu
    have HDS := Lib.hid hDs
    have HND := Lib.hid hnd
    have HST1 := Lib.hid hst1
    have HTR : Hid (S1.length ≤ 3000 ∧ Trv G.ops G.op G.x R (fun d => d = c) S L S1 L1 ∧ c ∈ S1 ∧ ∀ j, (hj : j < G.op.length) → j < i → ∀ e ∈ stepC G.ops c G.op[j], e ∈ S1) := ⟨hs1, ht1, hc1, hst⟩
    have hm0u : Mod G.Z w u := HM04.out.trans hmu
    have HM0U := Lib.hid hm0u
    obtain ⟨hXs, hXl, hX, hO, hS, hSR, hRc, hSn, hc, hok⟩ := HH.out
    have hOu := hO.mod hm0u
    have HOU := Lib.hid hOu
    have hz7 : ¬ G.Z w.heap.size := fun h => by have h1 := hX _ hXs; have h2 := hX _ hXl; rcases h with e | e <;> omega
    have hz8 : ¬ G.Z (w.heap.size + 1) := fun h => by have h1 := hX _ hXs; have h2 := hX _ hXl; rcases h with e | e <;> omega
    have HB7U := Lib.hid (HB74.out.mod hmu hz7)
    have HB8U := Lib.hid (HB84.out.mod hmu hz8)
    have c8 := HB8U.out.cell 0
    have f8 := HB8U.out.free 0
    simp only [putAll, List.set_cons_zero, List.set_cons_succ]
    generalize hEnd : LoopEnd _ _ _ _ _ = LE
    have HEND := Lib.hid hEnd
    clear hEnd hmu hDs hnd hst1 hs1 ht1 hc1 hst hm0u hXs hXl hX hO hS hSR hRc hSn hc hok hOu hz7 hz8
    by_cases hlt : i < G.op.length
    ·have HLT := Lib.hid hlt
     obtain ⟨bo, oo, hAo, hbo, hco⟩ := Reads.flat (reads_mod HRO.out (HMU.out) fun h0 ad ea => HCO.out (by unfold nats; rw [List.length_map]; exact h0) ad ea) (by omega) (by decide)
     subst hAo
     have hcell := hco i (.int .i64 ((G.op[i] : Nat) : Int)) (by unfold nats; rw [List.getElem?_map, List.getElem?_map, List.getElem?_eq_getElem hlt]; rfl)
     have HK : Hid (G.op[i]? = some G.op[i]) := List.getElem?_eq_getElem hlt
     generalize hk : G.op[i] = k at hcell HK
     have HKI : Hid (∃ h : i < G.op.length, G.op[i] = k) := ⟨hlt, hk⟩
     have hbu := below_new u (.cells #[.int .i64 (k : Int)] 3)
     have HBU := Lib.hid hbu
     have d3 := (((HB7U.out.alloc (.cells #[.int .i64 (k : Int)] 3)).cell 3).trans (rfl : _ = some (Value.slice A3 (nats c.done).length c3)))
     clear hk hco hbu
     go_wp2_with fail
     have hbu := HBU.out
     have hbk : Blk (u.alloc (.cells #[.int .i64 (k : Int)] 3)) u.heap.size 3 #[.int .i64 (k : Int)] := Blk.new _ _ _
     clear d3 HBU
     generalize hu1 : u.alloc (.cells #[.int .i64 (k : Int)] 3) = u1 at hbu hbk ⊢
     have hs1 : u1.heap.size = u.heap.size + 1 := by rw [← hu1]; simp
     clear hu1
     obtain ⟨hXs, hXl, hX, hO, hS, hSR, hRc, hSn, hc, hok⟩ := HH.out
     have hm01 : Mod G.Z w u1 := HM0U.out.trans (mod_below hbu)
     have hm41 : Mod G.Z w4 u1 := HMU.out.trans (mod_below hbu)
     refine (contains_any (K := fun b => ¬ X b ∧ b < w.heap.size) ((hc.2.weak fun b hb h => ⟨h, hb⟩).mod hm01 fun b hb hz => hb.1 (by rcases hz with e | e <;> rw [e] <;> assumption)) (k : Int) (by unfold nats; rw [List.length_map]; have := hok.doneN; omega)).mono ?_
     rintro e u2 ⟨rfl, hu2⟩
     rw [hu2, show decide ((k : Int) ∈ nats c.done) = decide (k ∈ c.done) from decide_eq_decide.2 mem_nats]
     have HS1 := Lib.hid hs1
     have HM01 := Lib.hid hm01
     have HM41 := Lib.hid hm41
     have HBK := Lib.hid hbk
     have HBU := Lib.hid hbu
     have HO1 := Lib.hid (hO.mod hm01)
     clear hXs hXl hX hO hS hSR hRc hSn hc hok hm01 hm41 hbk hbu hu2 hs1 hcell hlt
     by_cases hkd : k ∈ c.done
     ·rw [decide_eq_true hkd]
      have HKD := Lib.hid hkd
      clear hkd
      go_wp2_with fail
      rw [← HEND.out]
      obtain ⟨hlt, hk⟩ := HKI.out
      obtain ⟨a1, a2, a3, a4⟩ := HTR.out
      refine loopEnd_of (by kernel_rfl) ?_ ?_
      ·refine ⟨i + 1, Ds, _, _, _, _, _, _, _, _, _, _, _, _, _, _, _, _, _, rfl, ?_, rfl, hlt, HM41.out, fun d hd => ⟨(HDS.out d hd).1, below_at (HDS.out d hd).2 HBU.out⟩, HND.out, S1, L1, HST1.out.below HBU.out, a1, a2, a3, fun j hj hji e he => ?_⟩
       ·show Value.int .i64 ((i : Int) + 1) = _
        go_num
       rcases Nat.lt_or_ge j i with h | h
       ·exact a4 j hj h e he
       ·obtain rfl : j = i := by omega
        rw [hk] at he
        unfold stepC at he
        rw [if_pos HKD.out] at he
        cases he
      ·show G.op.length - (intOf (.int .i64 ((i : Int) + 1))).toNat < G.op.length - (intOf (.int .i64 (i : Int))).toNat
       simp only [intOf]
       omega
     ·rw [decide_eq_false hkd]
      have HKD := Lib.hid hkd
      clear hkd
      obtain ⟨Aq, cq, evq, hrq, hallq, _, _, _⟩ := HO1.out.ops
      have hkP : k < G.P.length := HG.out.op k (List.mem_of_getElem? HK.out)
      obtain ⟨b2, o2, rfl, hb2, hrg⟩ := rows_range opE_len (by decide) hrq hkP
      have hpm : G.P[k] ∈ G.P := List.getElem_mem hkP
      have hpa := hallq _ hpm
      have hpb := HG.out.body _ hpm
      have HPK : Hid (G.ops[k]? = some G.P[k].1) := by show _ = _; unfold Ge.ops; rw [List.getElem?_map, List.getElem?_eq_getElem hkP]; rfl
      generalize G.P[k] = pk at hrg hpa hpb HPK
      obtain ⟨oo1, vv, vr⟩ := pk
      have HRG : Hid (u1.rangeAt b2 (o2 + k * 19) (opL oo1 vv vr)) := hrg
      have HPA := Lib.hid hpa
      have HPB := Lib.hid hpb
      have cO := (HO1.out.o.cell 0).trans (show _ = some (Value.slice (some ⟨b2, o2, none⟩) G.P.length cq) by rw [evq]; rfl)
      have cK := HBK.out.cell 0
      have hb71 : Blk u1 w.heap.size 99 (crL c (.slice A E.length ca) (.slice A2 c.m.cur.length c2) (.slice A3 (nats c.done).length c3)).toArray := HB7U.out.below HBU.out HB7U.out.lt
      have HB71 := Lib.hid hb71
      have q0 := (hb71.cell 0).trans (rfl : _ = some (Value.slice A E.length ca))
      have q1 := (hb71.cell 1).trans (rfl : _ = some (Value.int .u64 (c.m.trim : Int)))
      have q2 := (hb71.cell 2).trans (rfl : _ = some (Value.slice A2 c.m.cur.length c2))
      have hpl := HG.out.pl
      clear evq hrq hallq hpm hpa hpb hrg hb71
      go_wp2_with fail
      refine PF.b (by kernel_rfl) (fun _ _ _ _ _ h => h) ?_
      refine PF.m 0 (G.bO) (by kernel_rfl) rfl (fun hcu => by go_simp; try rfl) ?_
      try simp only [pz]
      refine PF.m 1 (u.heap.size) (by kernel_rfl) rfl (fun hcu => by go_simp; try rfl) ?_
      try simp only [pz]
      refine PF.t 2 (by kernel_rfl) rfl (by go_simp; try rfl) ?_
      try simp only [pz]
      refine PF.u 3 ((fun u => u.rangeAt b2 (o2 + k * 19) (opL oo1 vv vr))) (by kernel_rfl) rfl (HRG.out) (fun u hu => exec_load_rg rfl rfl hu Tryz.underlying95 rfl (info_op rfl)) ?_
      try simp only [pz]
      refine PF.t 4 (by kernel_rfl) rfl (by go_simp; try rfl) ?_
      try simp only [pz]
      refine PF.m 5 (w.heap.size) (by kernel_rfl) rfl (fun hcu => by go_simp; try rfl) ?_
      try simp only [pz]
      refine PF.e 6 (by kernel_rfl) rfl fun K hK => ?_
      go_simp
      refine (next_any rfl rfl).mono ?_
      rintro e u3 ⟨rfl, hu3⟩
      refine hK (by repeat (first | exact PF.n | refine PF.l ?_ | refine PF.o (by decide +kernel) ?_ | refine PF.y (by first | rfl | assumption | go_simp) ?_)) ?_
      clear hK K
      try simp only [pz]
      refine PF.d (by kernel_rfl) ?_
      clear cO cK q0 q1 q2
      go_wp2_with fail
      have hb13 : Below u1.heap.size u1 u3 := by rw [hu3]; exact (((Below.refl u1.heap.size u1).drew).alloc (Nat.le_refl _) _).alloc (by simp) _
      have hbo3 : Blk u3 u1.drew.heap.size 95 (opL oo1 vv vr).toArray := by rw [hu3]; exact (Blk.new _ _ _).alloc _
      have hbm3 : Blk u3 (u1.drew.heap.size + 1) 45 (mdL c.m (.slice A E.length ca) (.slice A2 c.m.cur.length c2)).toArray := by
       have := Blk.new (u1.drew.alloc (.cells (opL oo1 vv vr).toArray 95)) 45 (mdL c.m (.slice A E.length ca) (.slice A2 c.m.cur.length c2)).toArray
       rw [alloc_size] at this
       rw [hu3]; exact this
      have egn := enters_of Tryz.func77 (by kernel_rfl) rfl
      obtain ⟨hXs, hXl, hX, hO, hS, hSR, hRc, hSn, hc, hok⟩ := HH.out
      have hm13 : Mod G.Z u1 u3 := mod_below hb13
      have hm03 : Mod G.Z w u3 := HM01.out.trans hm13
      have HM03 := Lib.hid hm03
      have HM43 : Hid (Mod G.Z w4 u3) := HM41.out.trans hm13
      have HB83 : Hid (Blk u3 (w.heap.size + 1) 4 #[.bool false]) := (HB8U.out.below HBU.out HB8U.out.lt).below hb13 (Nat.lt_of_lt_of_le HB8U.out.lt HBU.out.size)
      have HB73 : Hid (Blk u3 w.heap.size 99 (crL c (.slice A E.length ca) (.slice A2 c.m.cur.length c2) (.slice A3 (nats c.done).length c3)).toArray) := HB71.out.below hb13 HB71.out.lt
      have HBK3 : Hid (Blk u3 u.heap.size 3 #[.int .i64 (k : Int)]) := HBK.out.below hb13 HBK.out.lt
      have HO3 := Lib.hid (hO.mod hm03)
      have hst3 : GoSt G (Xd X (w.heap.size + 1) Ds) u3 S1 L1 := (HST1.out.below HBU.out).below hb13
      have hstD : GoSt G (Xd X (w.heap.size + 1) (u3.heap.size :: (u3.heap.size + 1) :: Ds)) u3 S1 L1 := hst3.weak fun b hb h => by
       rcases h with h | h | h
       ·exact .inl h
       ·exact .inr (.inl h)
       ·simp only [List.mem_cons] at h
        rcases h with h | h | h
        ·omega
        ·omega
        ·exact .inr (.inr h)
      have hcm : MdF (fun b => ¬ X b ∧ b < w.heap.size) u3 (.slice A E.length ca) (.slice A2 c.m.cur.length c2) c.m := (hc.1.weak fun b hb h => ⟨h, hb⟩).mod hm03 fun b hb hz => hb.1 (by rcases hz with e | e <;> rw [e] <;> assumption)
      have HDS3 : Hid (∀ d ∈ Ds, w4.heap.size ≤ d ∧ u3.heap[d]? = some (.deferred (some []))) := fun d hd => ⟨(HDS.out d hd).1, below_at (below_at (HDS.out d hd).2 HBU.out) hb13⟩
      have hsb : G.sb < w.heap.size := hX _ hXs
      have hlb : G.lb < w.heap.size := hX _ hXl
      have hw3 : w.heap.size + 1 < u3.heap.size := HB83.out.lt
      have HSZ : Hid (G.sb < w.heap.size ∧ G.lb < w.heap.size ∧ w.heap.size + 1 < u3.heap.size ∧ w4.heap.size ≤ u3.heap.size ∧ u.heap.size < u3.heap.size) := ⟨hsb, hlb, hw3, HM43.out.size, HBK3.out.lt⟩
      have hs13 := hm13.size
      clear hu3
      refine range_next (K := fun b => ¬ X b ∧ b < w.heap.size) (Z := fun b => G.Z b ∨ b = w.heap.size + 1) rfl egn hbo3 hbm3 hcm (HPA.out.1.below hb13) (HPA.out.2.below hb13) hok.m.log (fun e he => (hok.m.ent e he).body) HPB.out.1 HPB.out.2.1 hok.m.trim HPB.out.2.2 (Ms := nxM oo1 c.m) rfl
       (fun j W => Mod G.Z u3 W ∧ ∃ S2 L2, GoSt G (Xd X (w.heap.size + 1) (u3.heap.size :: (u3.heap.size + 1) :: Ds)) W S2 L2 ∧ S2.length ≤ 3000 ∧ Trv G.ops G.op G.x R nobody S1 L1 S2 L2 ∧ ∀ q, (hq : q < (nxM oo1 c.m).length) → q < j → { m := (nxM oo1 c.m)[q], done := insS k c.done } ∈ S2)
       (fun W => Mod (fun b => G.Z b ∨ b = w.heap.size + 1) u3 W ∧ Blk W (w.heap.size + 1) 4 #[.bool false] ∧ ∃ S2 : List Crs, S2.Nodup ∧ (∀ d ∈ S2, R d) ∧ 3000 < S2.length)
       ?_ ?_ ?_ ?_ ?_ ?round ?done ?stop
      ·rintro j P1 P2 ⟨h1, S2, L2, h2, h3⟩ hb
       exact ⟨h1.trans (mod_below hb), S2, L2, h2.below hb, h3⟩
      ·rintro j P1 ob ⟨h1, S2, L2, h2, h3⟩
       have hm := mod_putObj P1 (u3.heap.size + 1) ob
       refine ⟨h1.join hm fun b hb e => by omega, S2, L2, h2.mod hm (fun b _ e => .inr (.inr (by rw [e]; simp))) (fun e => by omega) (fun e => by omega), h3⟩
      ·rintro P1 ob ⟨h1, h2, h3⟩
       have hm := mod_putObj P1 (u3.heap.size + 1) ob
       exact ⟨h1.join hm fun b hb e => by omega, h2.mod hm fun e => by omega, h3⟩
      ·rintro b ((e | e) | e) <;> omega
      ·exact ⟨Mod.refl _ _, S1, L1, hstD, HTR.out.1, Trv.refl HTR.out.2.1.reach, fun q hq h => by omega⟩
      case round =>
       clear hbo3 hbm3 egn hst3 hstD hcm hb2 hpl hkP
       intro j vM W hj hI hsz hMv
       obtain ⟨hmW, S2, L2, hst2, hs2, ht2, hall⟩ := hI
       have HMJ2 : ∃ Mj, Hid (∃ h : j < (nxM oo1 c.m).length, (nxM oo1 c.m)[j] = Mj) ∧ MdV (fun b => u3.heap.size + 2 ≤ b) W vM Mj := ⟨_, ⟨hj, rfl⟩, hMv⟩
       clear hMv
       obtain ⟨Mj, HMJ2, vlM, vcM, rfl, hMd⟩ := HMJ2
       obtain ⟨AM, cM, EM, eM1, _⟩ := id hMd.1
       obtain ⟨AN, cN, eN1, _⟩ := id hMd.2
       subst eM1 eN1
       have ho1 : ∀ v ∈ (mdL Mj (.slice AM EM.length cM) (.slice AN Mj.cur.length cN)).toArray.toList, v.oneCell' = true := mdL_one rfl rfl
       have HMD := Lib.hid hMd
       have HI : Hid (Mod G.Z u3 W ∧ GoSt G (Xd X (w.heap.size + 1) (u3.heap.size :: (u3.heap.size + 1) :: Ds)) W S2 L2 ∧ S2.length ≤ 3000 ∧ Trv G.ops G.op G.x R nobody S1 L1 S2 L2 ∧ (∀ q, (hq : q < (nxM oo1 c.m).length) → q < j → { m := (nxM oo1 c.m)[q], done := insS k c.done } ∈ S2) ∧ u3.heap.size + 2 ≤ W.heap.size) := ⟨hmW, hst2, hs2, ht2, hall, hsz⟩
       clear hb13 hXs hXl hX hO hS hSR hRc hSn hc hok hm13 hm03 hsb hlb hw3 hs13 hmW hst2 hs2 ht2 hall hsz hMd hj
       refine region_round (by rintro ⟨_, _, h⟩; exact h) (by decide) ?_
       simp only [List.setIfInBounds_toArray, List.set_cons_zero, List.set_cons_succ]
       go_wp2_with (first
        | (refine wpList_alloc_blk rfl rfl zero_model ?_; intro g13 W1 e13 hB1 hb1; have E13 := Lib.hid e13; clear e13)
        | (refine wpList_store_blk rfl rfl rfl rfl hB1 rfl (info_model rfl) ho1 ?_; intro W2 hB2 hm2; refine Hid.out ?_))
       refine Lib.hid ?_
       obtain ⟨hmW, hst2, hs2, ht2, hall, hsz⟩ := HI.out
       obtain ⟨z1, z2, z3, z4, z5⟩ := HSZ.out
       have hb2 : Below W.heap.size W W2 := hb1.trans (hm2.to_below hb1.size fun b hb e => by have := E13.out; omega)
       refine wpList_nil ⟨hb2, fun ob => ?_⟩
       have hg13 : u3.heap.size + 2 ≤ g13 := by have := E13.out; omega
       have hmo := mod_putObj W2 (u3.heap.size + 1) ob
       have hm3U : Mod G.Z u3 (W2.putObj (u3.heap.size + 1) ob) := (hmW.trans (mod_below hb2)).join hmo fun b hb e => by omega
       have hmdU : MdF (fun b => u3.heap.size + 2 ≤ b) (W2.putObj (u3.heap.size + 1) ob) (.slice AM EM.length cM) (.slice AN Mj.cur.length cN) Mj := (HMD.out.below hb2).mod hmo fun b hb e => by omega
       have hBU : Blk (W2.putObj (u3.heap.size + 1) ob) g13 45 (mdL Mj (.slice AM EM.length cM) (.slice AN Mj.cur.length cN)).toArray := hB2.mod hmo fun e => by omega
       have hstU : GoSt G (Xd X (w.heap.size + 1) (u3.heap.size :: (u3.heap.size + 1) :: Ds)) (W2.putObj (u3.heap.size + 1) ob) S2 L2 := (hst2.below hb2).mod hmo (fun b _ e => .inr (.inr (by rw [e]; simp))) (fun e => by omega) (fun e => by omega)
       have hszU : u3.heap.size + 2 ≤ (W2.putObj (u3.heap.size + 1) ob).heap.size := by rw [World.putObj_size]; have := hb2.size; omega
       generalize W2.putObj (u3.heap.size + 1) ob = U at hm3U hmdU hBU hstU hszU ⊢
       have HU : Hid (Mod G.Z u3 U ∧ MdF (fun b => u3.heap.size + 2 ≤ b) U (.slice AM EM.length cM) (.slice AN Mj.cur.length cN) Mj ∧ GoSt G (Xd X (w.heap.size + 1) (u3.heap.size :: (u3.heap.size + 1) :: Ds)) U S2 L2 ∧ u3.heap.size + 2 ≤ U.heap.size) := ⟨hm3U, hmdU, hstU, hszU⟩
       have HB13 := Lib.hid hBU
       have hz7 : ¬ G.Z w.heap.size := fun h => by rcases h with e | e <;> omega
       have hz8 : ¬ G.Z (w.heap.size + 1) := fun h => by rcases h with e | e <;> omega
       have hzu : ¬ G.Z u.heap.size := fun h => by have h1 := HM0U.out.size; rcases h with e | e <;> omega
       have HB7 := Lib.hid (HB73.out.mod hm3U hz7)
       have HB8 := Lib.hid (HB83.out.mod hm3U hz8)
       have HBKU := Lib.hid (HBK3.out.mod hm3U hzu)
       have HOG := Lib.hid (HO3.out.mod hm3U)
       have HM0 : Hid (Mod G.Z w U) := HM03.out.trans hm3U
       obtain ⟨hXs, hXl, hX, hO, hS, hSR, hRc, hSn, hc, hok⟩ := HH.out
       have HSL : Hid (SlI (fun b => ¬ X b ∧ b < w.heap.size) U (.slice A3 (nats c.done).length c3) (nats c.done)) := (hc.2.weak fun b hb h => ⟨h, hb⟩).mod HM0.out fun b hb hz => hb.1 (by rcases hz with e | e <;> rw [e] <;> assumption)
       have HNL : Hid ((nats c.done).length ≤ 1000000) := by show _ ≤ _; unfold nats; rw [List.length_map]; have := hok.doneN; omega
       have HBc : Hid (Below U.heap.size U U.drew) := (Below.refl _ _).drew
       have HLU : Hid (w.heap.size < U.heap.size ∧ u.heap.size < U.heap.size) := ⟨HB7.out.lt, HBKU.out.lt⟩
       have d3 := (HB7.out.cell 3).trans (rfl : _ = some (Value.slice A3 (nats c.done).length c3))
       have cK := (HBKU.out.cell 0).trans (rfl : _ = some (Value.int .i64 (k : Int)))
       clear hB1 hb1 hB2 hm2 hmW hst2 hs2 ht2 hall hsz z1 z2 z3 z4 z5 hb2 hg13 hmo hm3U hmdU hBU hstU hszU hz7 hz8 hzu hXs hXl hX hO hS hSR hRc hSn hc hok ho1
       refine wpIn_block (wpIn_seq_k fun K17 hK17 => ?_)
       refine pf_beginR (by kernel_rfl) (by rintro ⟨_, _, h⟩; exact h) (by decide) ?_
       refine PF.r (fun _ _ _ _ _ h => h) ?_
       refine PF.t 0 (by kernel_rfl) rfl (by go_simp; try rfl) ?_
       try simp only [pz]
       refine PF.m 1 (w.heap.size) (by kernel_rfl) rfl (fun hcu => by go_simp; try rfl) ?_
       try simp only [pz]
       refine PF.m 3 (u.heap.size) (by kernel_rfl) rfl (fun hcu => by go_simp; try rfl) ?_
       try simp only [pz]
       refine PF.g [2, 4] (by kernel_rfl) rfl (PF.fork_cons ?_ (PF.fork_cons ?_ PF.fork_nil))
       -- number 2 first
       ·refine PF.f (by kernel_rfl) rfl fun K hK => ?_
        go_simp
        refine (iown_any (l := nats c.done) (HSL.out.below HBc.out) HNL.out).mono ?_
        rintro e W5 ⟨⟨v5, rfl, ho5⟩, hb5⟩
        have HOW : Hid (W5.ownsRow U.heap.size 3 1 v5 (nats c.done).length ((nats c.done).map iv)) := own_lowJ ho5 HBc.out.size
        have HBc := Tt HBc hb5
        clear ho5 hb5
        refine hK (by repeat (first | exact PF.n | refine PF.l ?_ | refine PF.o (by decide +kernel) ?_ | refine PF.y (by exact HBc.out.block _ (by first | exact HLU.out.1 | exact HLU.out.2)) ?_)) ?_
        clear hK K
        try simp only [pz]
        refine PF.e 4 (by kernel_rfl) rfl fun K hK => ?_
        go_simp
        have HRD := Lib.hid (reads_blockN W5 3 [.int .i64 (k : Int)] 1 rfl)
        have HOW := Lib.hid (own_call HOW.out (below_new W5 (.cells [Value.int .i64 (k : Int)].toArray 3)))
        have HBc := Lib.hid (HBc.out.trans ((below_new W5 (.cells [Value.int .i64 (k : Int)].toArray 3)).mono HBc.out.size))
        refine hK (by repeat (first | exact PF.n | refine PF.l ?_ | refine PF.o (by decide +kernel) ?_ | refine PF.y (by exact HBc.out.block _ (by first | exact HLU.out.1 | exact HLU.out.2)) ?_)) ?_
        clear hK K
        try simp only [pz]
        refine PF.e 5 (by kernel_rfl) rfl fun K hK => ?_
        refine app_wp int_ty rfl HOW.out rfl HRD.out rfl (by intro u hu; simp only [List.mem_cons, List.not_mem_nil, or_false] at hu; rw [hu]; rfl) (by have := HNL.out; omega) HBc.out.size ?_
        intro v6 W6 ho6 hg6 _
        have HBc := Lib.hid (HBc.out.grown hg6 HBc.out.size (own_ge HOW.out))
        have HO6 : Hid (OwI U.heap.size W6 v6 (nats c.done ++ [(k : Int)])) := by show World.ownsRow _ _ _ _ _ _ _; rw [List.length_append, List.map_append]; exact ho6
        clear ho6 hg6
        refine hK (by repeat (first | exact PF.n | refine PF.l ?_ | refine PF.o (by decide +kernel) ?_ | refine PF.y (by exact HBc.out.block _ (by first | exact HLU.out.1 | exact HLU.out.2)) ?_)) ?_
        clear hK K
        try simp only [pz]
        refine PF.t 6 (by kernel_rfl) rfl (by go_simp; try rfl) ?_
        try simp only [pz]
        refine PF.d (by kernel_rfl) ?_
        clear d3 cK
        show K17 _ _
        refine hK17 _ _ ?_
        refine wpIn_seq_k fun K18 hK18 => ?_
        refine region_round (by rintro ⟨_, _, h⟩; exact h) (by decide) ?_
        go_wp2_with fail
        refine (isort_any HO6.out (by have := HNL.out; rw [List.length_append]; show _ + 1 ≤ _; have h2 : (nats c.done).length ≤ 100000 := (by unfold nats; rw [List.length_map]; exact HH.out.2.2.2.2.2.2.2.2.2.doneN); omega)).mono ?_
        rintro e W7 ⟨rfl, ho7, hg7⟩
        rw [ins_sorted HH.out.2.2.2.2.2.2.2.2.2.sorted] at ho7
        have HO7 := Lib.hid ho7
        have HBc := Lib.hid (HBc.out.grown hg7 HBc.out.size (own_ge HO6.out))
        obtain ⟨A7, c7, e7, _⟩ := id (OwI.sli ho7)
        subst e7
        clear ho7 hg7
        go_wp2_with fail
        have hlu := HBc.out.size
        obtain ⟨hm3U, hmdU, hstU, hszU⟩ := HU.out
        obtain ⟨hXs, hXl, hX, hO, hS, hSR, hRc, hSn, hc, hok⟩ := HH.out
        obtain ⟨z1, z2, z3, z4, z5⟩ := HSZ.out
        obtain ⟨hi, hMj⟩ := HMJ2.out
        obtain ⟨_, _, hs2, ht2, hall, _⟩ := HI.out
        have hOW := HOG.out.mod (mod_below HBc.out)
        have hB8W := HB8.out.below HBc.out HB8.out.lt
        have hB13W := HB13.out.below HBc.out HB13.out.lt
        have hkop : k ∈ G.op := List.mem_of_getElem? HK.out
        have hmem : Mj ∈ nextL G.ops k c.m := by
         unfold nextL
         rw [HPK.out]
         show Mj ∈ nxM oo1 c.m
         rw [← hMj]
         exact List.getElem_mem hi
        have hsucc : ({ m := Mj, done := insS k c.done } : Crs) ∈ succL G.ops G.op c := mem_succL.2 ⟨k, hkop, mem_stepC.2 ⟨HKD.out, Mj, hmem, rfl⟩⟩
        have hXX : ∀ b, Xd X (w.heap.size + 1) (u3.heap.size :: (u3.heap.size + 1) :: Ds) b → b < u3.heap.size + 2 := fun b hb => by
         rcases hb with h | h | h
         ·have := hX b h; omega
         ·omega
         ·simp only [List.mem_cons] at h
          rcases h with h | h | h
          ·omega
          ·omega
          ·have := (Array.getElem?_eq_some_iff.1 (HDS3.out b h).2).1; omega
        have hgo := HIH.out { m := Mj, done := insS k c.done } (freeN_step hkop HKD.out) (Xd X (w.heap.size + 1) (u3.heap.size :: (u3.heap.size + 1) :: Ds)) W7 S2 L2 (.agg (crL { m := Mj, done := insS k c.done } (.slice AM EM.length cM) (.slice AN Mj.cur.length cN) (.slice A7 (nats (insS k c.done)).length c7)).toArray)
         (fun b hb => by have := hXX b hb; omega) (.inl hXs) (.inl hXl) hOW (hstU.below HBc.out) ht2.reach (HG.out.step c _ hRc HXD.out hsucc) hs2
         ⟨_, _, _, rfl, (hmdU.below HBc.out).weak fun b _ hb h => (by have := hXX b h; omega), (OwI.sli HO7.out).weak fun b _ hb h => (by have := hXX b h; omega)⟩
        have cG := (hOW.g.cell 0).trans (rfl : _ = some (Value.func (.func 61) #[] #[.pointer (some ⟨G.bS, 0, none⟩), .pointer (some ⟨G.bX, 0, none⟩), .pointer (some ⟨G.bL, 0, none⟩), .pointer (some ⟨G.bP, 0, none⟩), .pointer (some ⟨G.bO, 0, none⟩), .pointer (some ⟨G.bG, 0, none⟩)]))
        have m0 := (hB13W.cell 0).trans (rfl : _ = some (Value.slice AM EM.length cM))
        have m1 := (hB13W.cell 1).trans (rfl : _ = some (Value.int .u64 (Mj.trim : Int)))
        have m2 := (hB13W.cell 2).trans (rfl : _ = some (Value.slice AN Mj.cur.length cN))
        have HGO := Lib.hid hgo
        have HB8W := Lib.hid hB8W
        have HRE := Lib.hid (HG.out.step c _ hRc HXD.out hsucc)
        have egg := enters_of Tryz.func61 (by kernel_rfl) rfl
        clear hlu hm3U hmdU hstU hszU hXs hXl hX hO hS hSR hRc hSn hc hok z1 z2 z3 z4 z5 hi hMj hs2 ht2 hall hOW hB8W hB13W hkop hmem hsucc hXX hgo
        refine wpIn_seq_k fun K19 hK19 => ?_
        refine region_round (by rintro ⟨_, _, h⟩; exact h) (by decide) ?_
        go_wp2_with fail
        refine HGO.out.mono ?_
        rintro e W8 ⟨hm8, (⟨rfl, S3, L3, hst3, hs3, hc3, ht3⟩ | ⟨rfl, hbad⟩)⟩
        ·have HP8 : Hid (Mod G.Z W7 W8 ∧ GoSt G (Xd X (w.heap.size + 1) (u3.heap.size :: (u3.heap.size + 1) :: Ds)) W8 S3 L3 ∧ S3.length ≤ 3000 ∧ ({ m := Mj, done := insS k c.done } : Crs) ∈ S3 ∧ Trv G.ops G.op G.x R nobody S2 L2 S3 L3) := ⟨hm8, hst3, hs3, hc3, ht3⟩
         clear hm8 hst3 hs3 hc3 ht3
         go_wp2_with fail
         refine wpIn_cond (t := false) rfl ?_
         refine wpIn_skip ?_
         obtain ⟨hm8, hst3, hs3, hc3, ht3⟩ := HP8.out
         obtain ⟨hm3U, _, _, _⟩ := HU.out
         obtain ⟨_, _, _, ht2, hall, _⟩ := HI.out
         refine ⟨((mod_below HBc.out).trans hm8).mono fun b _ h => .inl h, (hm3U.trans (mod_below HBc.out)).trans hm8, S3, L3, hst3, hs3, ht2.trans ht3, fun q hq hqj => ?_⟩
         rcases Nat.lt_or_ge q j with h | h
         ·exact ht3.subS _ (hall q hq h)
         ·obtain rfl : q = j := by omega
          obtain ⟨_, hMj⟩ := HMJ2.out
          rw [hMj]
          exact hc3
        ·have hz8 : ¬ G.Z (w.heap.size + 1) := fun h => by
          obtain ⟨z1, z2, _⟩ := HSZ.out
          rcases h with e | e <;> omega
         have hB8 := HB8W.out.mod hm8 hz8
         have c8 := hB8.cell 0
         have f8 := hB8.free 0
         have HB88 := Lib.hid hB8
         have HP8 := Lib.hid hm8
         have HBAD := Lib.hid hbad
         clear hz8 hB8 hm8 hbad
         go_wp2_with fail
         refine wpIn_cond (t := true) rfl ?_
         refine wpIn_seq_k fun K20 hK20 => ?_
         refine region_round (by rintro ⟨_, _, h⟩; exact h) (by decide) ?_
         go_wp2_with fail
         obtain ⟨hm3U, _, _, _⟩ := HU.out
         have m1 := mod_set1 W8 (w.heap.size + 1) (.bool false)
         have m2 : Mod (fun b => G.Z b ∨ b = w.heap.size + 1) U (W8.setCell ⟨w.heap.size + 1, 0, none⟩ (.bool false)) := (((mod_below HBc.out).trans HP8.out).mono fun b _ h => .inl h).trans (m1.mono fun b _ h => .inr h)
         refine wpIn_ret ⟨m2, (hm3U.mono fun b _ h => .inl h).trans m2, HB88.out.put0 (.bool false), HBAD.out⟩
       -- number 4 first
       ·refine PF.f (by kernel_rfl) rfl fun K hK => ?_
        go_simp
        have HRD := Lib.hid (reads_blockN U.drew 3 [.int .i64 (k : Int)] 1 rfl)
        have HBc := Lib.hid (HBc.out.trans ((below_new U.drew (.cells [Value.int .i64 (k : Int)].toArray 3)).mono HBc.out.size))
        refine hK (by repeat (first | exact PF.n | refine PF.l ?_ | refine PF.o (by decide +kernel) ?_ | refine PF.y (by exact HBc.out.block _ (by first | exact HLU.out.1 | exact HLU.out.2)) ?_)) ?_
        clear hK K
        try simp only [pz]
        refine PF.e 2 (by kernel_rfl) rfl fun K hK => ?_
        go_simp
        refine (iown_any (l := nats c.done) (HSL.out.below HBc.out) HNL.out).mono ?_
        rintro e W5 ⟨⟨v5, rfl, ho5⟩, hb5⟩
        have HOW : Hid (W5.ownsRow U.heap.size 3 1 v5 (nats c.done).length ((nats c.done).map iv)) := own_lowJ ho5 HBc.out.size
        have HRD := Lib.hid (Reads.below HRD.out hb5)
        have HBc := Tt HBc hb5
        clear ho5 hb5
        refine hK (by repeat (first | exact PF.n | refine PF.l ?_ | refine PF.o (by decide +kernel) ?_ | refine PF.y (by exact HBc.out.block _ (by first | exact HLU.out.1 | exact HLU.out.2)) ?_)) ?_
        clear hK K
        try simp only [pz]
        refine PF.e 5 (by kernel_rfl) rfl fun K hK => ?_
        refine app_wp int_ty rfl HOW.out rfl HRD.out rfl (by intro u hu; simp only [List.mem_cons, List.not_mem_nil, or_false] at hu; rw [hu]; rfl) (by have := HNL.out; omega) HBc.out.size ?_
        intro v6 W6 ho6 hg6 _
        have HBc := Lib.hid (HBc.out.grown hg6 HBc.out.size (own_ge HOW.out))
        have HO6 : Hid (OwI U.heap.size W6 v6 (nats c.done ++ [(k : Int)])) := by show World.ownsRow _ _ _ _ _ _ _; rw [List.length_append, List.map_append]; exact ho6
        clear ho6 hg6
        refine hK (by repeat (first | exact PF.n | refine PF.l ?_ | refine PF.o (by decide +kernel) ?_ | refine PF.y (by exact HBc.out.block _ (by first | exact HLU.out.1 | exact HLU.out.2)) ?_)) ?_
        clear hK K
        try simp only [pz]
        refine PF.t 6 (by kernel_rfl) rfl (by go_simp; try rfl) ?_
        try simp only [pz]
        refine PF.d (by kernel_rfl) ?_
        clear d3 cK
        show K17 _ _
        refine hK17 _ _ ?_
        refine wpIn_seq_k fun K18 hK18 => ?_
        refine region_round (by rintro ⟨_, _, h⟩; exact h) (by decide) ?_
        go_wp2_with fail
        refine (isort_any HO6.out (by have := HNL.out; rw [List.length_append]; show _ + 1 ≤ _; have h2 : (nats c.done).length ≤ 100000 := (by unfold nats; rw [List.length_map]; exact HH.out.2.2.2.2.2.2.2.2.2.doneN); omega)).mono ?_
        rintro e W7 ⟨rfl, ho7, hg7⟩
        rw [ins_sorted HH.out.2.2.2.2.2.2.2.2.2.sorted] at ho7
        have HO7 := Lib.hid ho7
        have HBc := Lib.hid (HBc.out.grown hg7 HBc.out.size (own_ge HO6.out))
        obtain ⟨A7, c7, e7, _⟩ := id (OwI.sli ho7)
        subst e7
        clear ho7 hg7
        go_wp2_with fail
        have hlu := HBc.out.size
        obtain ⟨hm3U, hmdU, hstU, hszU⟩ := HU.out
        obtain ⟨hXs, hXl, hX, hO, hS, hSR, hRc, hSn, hc, hok⟩ := HH.out
        obtain ⟨z1, z2, z3, z4, z5⟩ := HSZ.out
        obtain ⟨hi, hMj⟩ := HMJ2.out
        obtain ⟨_, _, hs2, ht2, hall, _⟩ := HI.out
        have hOW := HOG.out.mod (mod_below HBc.out)
        have hB8W := HB8.out.below HBc.out HB8.out.lt
        have hB13W := HB13.out.below HBc.out HB13.out.lt
        have hkop : k ∈ G.op := List.mem_of_getElem? HK.out
        have hmem : Mj ∈ nextL G.ops k c.m := by
         unfold nextL
         rw [HPK.out]
         show Mj ∈ nxM oo1 c.m
         rw [← hMj]
         exact List.getElem_mem hi
        have hsucc : ({ m := Mj, done := insS k c.done } : Crs) ∈ succL G.ops G.op c := mem_succL.2 ⟨k, hkop, mem_stepC.2 ⟨HKD.out, Mj, hmem, rfl⟩⟩
        have hXX : ∀ b, Xd X (w.heap.size + 1) (u3.heap.size :: (u3.heap.size + 1) :: Ds) b → b < u3.heap.size + 2 := fun b hb => by
         rcases hb with h | h | h
         ·have := hX b h; omega
         ·omega
         ·simp only [List.mem_cons] at h
          rcases h with h | h | h
          ·omega
          ·omega
          ·have := (Array.getElem?_eq_some_iff.1 (HDS3.out b h).2).1; omega
        have hgo := HIH.out { m := Mj, done := insS k c.done } (freeN_step hkop HKD.out) (Xd X (w.heap.size + 1) (u3.heap.size :: (u3.heap.size + 1) :: Ds)) W7 S2 L2 (.agg (crL { m := Mj, done := insS k c.done } (.slice AM EM.length cM) (.slice AN Mj.cur.length cN) (.slice A7 (nats (insS k c.done)).length c7)).toArray)
         (fun b hb => by have := hXX b hb; omega) (.inl hXs) (.inl hXl) hOW (hstU.below HBc.out) ht2.reach (HG.out.step c _ hRc HXD.out hsucc) hs2
         ⟨_, _, _, rfl, (hmdU.below HBc.out).weak fun b _ hb h => (by have := hXX b h; omega), (OwI.sli HO7.out).weak fun b _ hb h => (by have := hXX b h; omega)⟩
        have cG := (hOW.g.cell 0).trans (rfl : _ = some (Value.func (.func 61) #[] #[.pointer (some ⟨G.bS, 0, none⟩), .pointer (some ⟨G.bX, 0, none⟩), .pointer (some ⟨G.bL, 0, none⟩), .pointer (some ⟨G.bP, 0, none⟩), .pointer (some ⟨G.bO, 0, none⟩), .pointer (some ⟨G.bG, 0, none⟩)]))
        have m0 := (hB13W.cell 0).trans (rfl : _ = some (Value.slice AM EM.length cM))
        have m1 := (hB13W.cell 1).trans (rfl : _ = some (Value.int .u64 (Mj.trim : Int)))
        have m2 := (hB13W.cell 2).trans (rfl : _ = some (Value.slice AN Mj.cur.length cN))
        have HGO := Lib.hid hgo
        have HB8W := Lib.hid hB8W
        have HRE := Lib.hid (HG.out.step c _ hRc HXD.out hsucc)
        have egg := enters_of Tryz.func61 (by kernel_rfl) rfl
        clear hlu hm3U hmdU hstU hszU hXs hXl hX hO hS hSR hRc hSn hc hok z1 z2 z3 z4 z5 hi hMj hs2 ht2 hall hOW hB8W hB13W hkop hmem hsucc hXX hgo
        refine wpIn_seq_k fun K19 hK19 => ?_
        refine region_round (by rintro ⟨_, _, h⟩; exact h) (by decide) ?_
        go_wp2_with fail
        refine HGO.out.mono ?_
        rintro e W8 ⟨hm8, (⟨rfl, S3, L3, hst3, hs3, hc3, ht3⟩ | ⟨rfl, hbad⟩)⟩
        ·have HP8 : Hid (Mod G.Z W7 W8 ∧ GoSt G (Xd X (w.heap.size + 1) (u3.heap.size :: (u3.heap.size + 1) :: Ds)) W8 S3 L3 ∧ S3.length ≤ 3000 ∧ ({ m := Mj, done := insS k c.done } : Crs) ∈ S3 ∧ Trv G.ops G.op G.x R nobody S2 L2 S3 L3) := ⟨hm8, hst3, hs3, hc3, ht3⟩
         clear hm8 hst3 hs3 hc3 ht3
         go_wp2_with fail
         refine wpIn_cond (t := false) rfl ?_
         refine wpIn_skip ?_
         obtain ⟨hm8, hst3, hs3, hc3, ht3⟩ := HP8.out
         obtain ⟨hm3U, _, _, _⟩ := HU.out
         obtain ⟨_, _, _, ht2, hall, _⟩ := HI.out
         refine ⟨((mod_below HBc.out).trans hm8).mono fun b _ h => .inl h, (hm3U.trans (mod_below HBc.out)).trans hm8, S3, L3, hst3, hs3, ht2.trans ht3, fun q hq hqj => ?_⟩
         rcases Nat.lt_or_ge q j with h | h
         ·exact ht3.subS _ (hall q hq h)
         ·obtain rfl : q = j := by omega
          obtain ⟨_, hMj⟩ := HMJ2.out
          rw [hMj]
          exact hc3
        ·have hz8 : ¬ G.Z (w.heap.size + 1) := fun h => by
          obtain ⟨z1, z2, _⟩ := HSZ.out
          rcases h with e | e <;> omega
         have hB8 := HB8W.out.mod hm8 hz8
         have c8 := hB8.cell 0
         have f8 := hB8.free 0
         have HB88 := Lib.hid hB8
         have HP8 := Lib.hid hm8
         have HBAD := Lib.hid hbad
         clear hz8 hB8 hm8 hbad
         go_wp2_with fail
         refine wpIn_cond (t := true) rfl ?_
         refine wpIn_seq_k fun K20 hK20 => ?_
         refine region_round (by rintro ⟨_, _, h⟩; exact h) (by decide) ?_
         go_wp2_with fail
         obtain ⟨hm3U, _, _, _⟩ := HU.out
         have m1 := mod_set1 W8 (w.heap.size + 1) (.bool false)
         have m2 : Mod (fun b => G.Z b ∨ b = w.heap.size + 1) U (W8.setCell ⟨w.heap.size + 1, 0, none⟩ (.bool false)) := (((mod_below HBc.out).trans HP8.out).mono fun b _ h => .inl h).trans (m1.mono fun b _ h => .inr h)
         refine wpIn_ret ⟨m2, (hm3U.mono fun b _ h => .inl h).trans m2, HB88.out.put0 (.bool false), HBAD.out⟩
      case done =>
       clear hb13 hbo3 hbm3 egn hXs hXl hX hO hS hSR hRc hSn hc hok hm13 hm03 hst3 hstD hcm hsb hlb hw3 hs13 hkP hb2 hpl
       rintro W ⟨hmW, S2, L2, hst2, hs2, ht2, hall⟩ hDW hszW
       have HW1 : Hid (Mod G.Z u3 W ∧ GoSt G (Xd X (w.heap.size + 1) (u3.heap.size :: (u3.heap.size + 1) :: Ds)) W S2 L2 ∧ S2.length ≤ 3000 ∧ Trv G.ops G.op G.x R nobody S1 L1 S2 L2 ∧ (∀ q, (hq : q < (nxM oo1 c.m).length) → q < (nxM oo1 c.m).length → { m := (nxM oo1 c.m)[q], done := insS k c.done } ∈ S2) ∧ W.heap[u3.heap.size]? = some (.deferred (some []))) := ⟨hmW, hst2, hs2, ht2, hall, hDW⟩
       clear hmW hst2 hs2 ht2 hall hDW hszW
       unfold Act.marked
       go_wp2_with fail
       rw [← HEND.out]
       obtain ⟨hlt, hk⟩ := HKI.out
       obtain ⟨a1, a2, a3, a4⟩ := HTR.out
       obtain ⟨hmW, hst2, hs2, ht2, hall, hDW⟩ := HW1.out
       obtain ⟨z1, z2, z3, z4, z5⟩ := HSZ.out
       refine loopEnd_of (by kernel_rfl) ?_ ?_
       ·refine ⟨i + 1, u3.heap.size :: Ds, _, _, _, _, _, _, _, _, _, _, _, _, _, _, _, _, _, rfl, ?_, rfl, hlt, HM43.out.trans hmW, fun d hd => ?_, List.nodup_cons.2 ⟨fun h => ?_, HND.out⟩, S2, L2, hst2.weak fun b _ h => ?_, hs2, a2.trans ht2, ht2.subS _ a3, fun j hj hji e he => ?_⟩
        ·show Value.int .i64 ((i : Int) + 1) = _
         go_num
        ·rcases List.mem_cons.1 hd with rfl | hd
         ·exact ⟨z4, hDW⟩
         ·exact ⟨(HDS3.out d hd).1, mod_at (HDS3.out d hd).2 hmW fun hz => by have h1 := (HDS3.out d hd).1; have h2 := HM04.out.size; rcases hz with e | e <;> omega⟩
        ·have := (Array.getElem?_eq_some_iff.1 (HDS3.out _ h).2).1
         omega
        ·rcases h with h | h | h
         ·exact .inl h
         ·exact .inr (.inl h)
         ·rcases List.mem_cons.1 h with h | h
          ·exact .inr (.inr (by rw [h]; simp))
          ·exact .inr (.inr (by simp [h]))
        ·rcases Nat.lt_or_ge j i with h | h
         ·exact ht2.subS _ (a4 j hj h e he)
         ·obtain rfl : j = i := by omega
          rw [hk] at he
          obtain ⟨_, m, hm, rfl⟩ := mem_stepC.1 he
          have hm' : m ∈ nxM oo1 c.m := by
           unfold nextL at hm
           rw [HPK.out] at hm
           exact hm
          obtain ⟨q, hq, rfl⟩ := List.mem_iff_getElem.1 hm'
          exact hall q hq hq
       ·show G.op.length - (intOf (.int .i64 ((i : Int) + 1))).toNat < G.op.length - (intOf (.int .i64 (i : Int))).toNat
        simp only [intOf]
        omega
      case stop =>
       rintro W ⟨hmW, hB8, S2, hn2, hr2, hbig⟩ hDW hszW
       obtain ⟨z1, z2, z3, z4, z5⟩ := HSZ.out
       have z6 := HB84.out.lt
       have z7 := HM04.out.size
       have hmw : Mod (fun b => G.Z b ∨ b = w.heap.size + 1) w W := (hm03.mono fun b _ h => .inl h).trans hmW
       refine goes_fail (Ds := u3.heap.size :: Ds) Tryz.results61 rfl hB8 (fun d hd => ?_) (List.nodup_cons.2 ⟨fun h => ?_, HND.out⟩) hmw ⟨S2, hn2, hr2, hbig⟩
       ·rcases List.mem_cons.1 hd with rfl | hd
        ·exact ⟨by omega, hDW⟩
        ·have h1 := (HDS3.out d hd).1
         exact ⟨by omega, mod_at (HDS3.out d hd).2 hmW fun hz => by rcases hz with (e | e) | e <;> omega⟩
       ·have := (Array.getElem?_eq_some_iff.1 (HDS3.out _ h).2).1
        omega
    ·obtain rfl : i = G.op.length := by omega
     go_wp2_with fail
     obtain ⟨hXs, hXl, hX, hO, hS, hSR, hRc, hSn, hc, hok⟩ := HH.out
     obtain ⟨hs1, ht1, hc1, hst⟩ := HTR.out
     have hs4 := HM04.out.size
     have hlt8 := HB84.out.lt
     refine goes_out (Ds := Ds) Tryz.results61 rfl hX hXs hXl HB8U.out (fun d hd => ⟨by have := (HDS.out d hd).1; omega, (HDS.out d hd).2⟩) HND.out HM0U.out fun w' hw' hm' => ⟨hm', .inl ⟨rfl, S1, L1, hw' _ _ HST1.out, hs1, hc1, ht1.finish ⟨fun h => absurd h HXD.out, fun _ e he => ?_⟩⟩⟩
     obtain ⟨k, hk, he⟩ := mem_succL.1 he
     obtain ⟨j, hj, rfl⟩ := List.mem_iff_getElem.1 hk
     exact hst j hj hj e he
theorem goes_any {G : Ge} {R : Crs → Prop} (hG : GeOk G R) : ∀ (n : Nat) (c : Crs), freeN G.op c.done < n → GoesC G R c
 | 0, _, h => by omega
 | n + 1, c, h => goes_step hG fun e he => goes_any hG n e (by omega)
end Go.Proofs.YtpjmolnkmlpfeaaGreatDoor
