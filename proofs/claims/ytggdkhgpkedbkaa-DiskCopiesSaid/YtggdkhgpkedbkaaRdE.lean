/- The document's disk as it stands in memory; Seen. -/
import Derived.Test.YtggdkhgpkedbkaaRdD
namespace Go.Proofs.Ytggdkhgpkedbkaa
open Go.RowKit

def Rc.chg (c : Rc) : Chg := if c.k = 0 then .app c.n c.l else if c.k = 1 then .put c.n c.l else if c.k = 2 then .ren c.n c.t else .rem c.n
/-- A change that was let in. -/
structure Rc.fit (c : Rc) : Prop where
  ne : c.k = 2 → c.n ≠ c.t
  small : c.l.length ≤ 1000000
theorem Rc.done_eq {c : Rc} {F : Files} (hF : Srt F) (h : c.k = 2 → c.n ≠ c.t) : c.done F = c.chg.done F := by
  unfold Rc.done Rc.chg
  by_cases e0 : c.k = 0
  · rw [if_pos e0, if_pos e0]; rfl
  rw [if_neg e0, if_neg e0]
  by_cases e1 : c.k = 1
  · rw [if_pos e1, if_pos e1]; rfl
  rw [if_neg e1, if_neg e1]
  by_cases e2 : c.k = 2
  · rw [if_pos e2, if_pos e2]
    have hne := h e2
    show fput c.t _ (fdel c.n F) = fdel c.n (fput c.t _ F)
    refine files_get (srt_put (srt_del hF _) _ _) (srt_del (srt_put hF _ _) _) fun n => ?_
    rw [fget_put (srt_del hF _), fget_del (srt_put hF _ _), fget_put hF, fget_del hF]
    by_cases h1 : n = c.t
    · rw [if_pos h1, if_neg (fun e => hne (e.symm.trans h1)), if_pos h1]
    · rw [if_neg h1, if_neg h1]
  · rw [if_neg e2, if_neg e2]; rfl
def crow (l : List Rc) : List Value := l.flatMap Rc.cells
/-- The row of changes. -/
structure CRow (w : World) (R : Nat → Prop) (A : Option Addr) (l : List Rc) : Prop where
  row : Reads w 4 A l.length (crow l)
  rows : ∀ c ∈ l, BytesIn w R c.s c.l
  block : ∀ ad, A = some ad → R ad.block
  fits : ∀ c ∈ l, c.fit
section
variable {w w' : World} {R R' : Nat → Prop} {A : Option Addr} {l : List Rc}
theorem CRow.nil (w : World) (R : Nat → Prop) : CRow w R none [] := ⟨Reads.nil_ _ _ _, fun _ h => (by cases h), fun _ h => (by cases h), fun _ h => (by cases h)⟩
theorem CRow.mono (h : CRow w R A l) (hR : ∀ b, R b → R' b) : CRow w R' A l := ⟨h.row, fun p hp => (h.rows p hp).mono hR, fun ad e => hR _ (h.block ad e), h.fits⟩
theorem CRow.below (h : CRow w R A l) (hb : Below w.heap.size w w') : CRow w' R A l := ⟨h.row.below hb, fun p hp => (h.rows p hp).below_ hb, h.block, h.fits⟩
theorem CRow.mod {S : Nat → Prop} (h : CRow w R A l) (hm : Mod S w w') (hS : ∀ b, R b → ¬ S b) : CRow w' R A l :=
  ⟨h.row.mod hm fun ad e => hS _ (h.block ad e), fun p hp => (h.rows p hp).mod hm hS, h.block, h.fits⟩
theorem CRow.kept {K : Nat → Prop} (h : CRow w R A l) (hk : Kept K w w') (hR : ∀ b, R b → K b) : CRow w' R A l :=
  ⟨Reads.keep h.row hk.1 fun p ⟨ad, e, hp⟩ _ => World.cell?_of_block (hk.2 _ (by rw [hp]; exact hR _ (h.block ad e))),
    fun p hp => ((h.rows p hp).mono hR).kept hk |> fun q => ⟨q.len, q.room, q.cap, q.bytes, (h.rows p hp).block⟩, h.block, h.fits⟩
theorem CRow.at_ (h : CRow w R A l) {k : Nat} (hk : k < l.length) : ∃ b o, A = some ⟨b, o, none⟩ ∧ b < w.heap.size ∧ w.cell? ⟨b, o + k * 4, none⟩ = some (.int .i64 l[k].k) ∧ w.cell? ⟨b, o + k * 4 + 1, none⟩ = some (.string ⟨l[k].n.toArray⟩) ∧
    w.cell? ⟨b, o + k * 4 + 2, none⟩ = some (.string ⟨l[k].t.toArray⟩) ∧ w.cell? ⟨b, o + k * 4 + 3, none⟩ = some (sv l[k].s) := by
  obtain ⟨b, o, e, hb, hc⟩ := Reads.flat h.row (by omega) (by decide)
  exact ⟨b, o, e, hb, hc (k * 4) _ ((rows_at (K := 4) (f := Rc.cells) (fun _ => rfl) l k 0 hk (by decide)).trans rfl), hc (k * 4 + 1) _ ((rows_at (K := 4) (f := Rc.cells) (fun _ => rfl) l k 1 hk (by decide)).trans rfl),
    hc (k * 4 + 2) _ ((rows_at (K := 4) (f := Rc.cells) (fun _ => rfl) l k 2 hk (by decide)).trans rfl), hc (k * 4 + 3) _ ((rows_at (K := 4) (f := Rc.cells) (fun _ => rfl) l k 3 hk (by decide)).trans rfl)⟩
end
/-- Block m is the document's disk x; its rows lie in blocks of R. -/
structure RAt (w : World) (m : Nat) (R : Nat → Prop) (x : Dk) (A : Option Addr) (c : Nat) (E : List (Nm × Sb)) (B : Option Addr) (g : Nat) (l : List Rc) : Prop where
  blk : Blk w m 66 #[.slice A E.length c, .slice B l.length g, .int .i64 x.cap, .int .u64 x.serial, .bool x.down]
  files : FRow w R A E
  last : fil E = x.last
  chgs : CRow w R B l
  waits : l.map Rc.chg = x.waits
  off : ∀ b, R b → b < w.heap.size ∧ b ≠ m
def Rat (w : World) (m : Nat) (R : Nat → Prop) (x : Dk) : Prop := ∃ A c E B g l, RAt w m R x A c E B g l
theorem Rat.below {w w' : World} {m : Nat} {R : Nat → Prop} {x : Dk} (h : Rat w m R x) (hb : Below w.heap.size w w') : Rat w' m R x := by
  obtain ⟨A, c, E, B, g, l, h⟩ := h
  exact ⟨A, c, E, B, g, l, h.blk.below hb h.blk.lt, h.files.below hb, h.last, h.chgs.below hb, h.waits, fun b hR => ⟨Nat.lt_of_lt_of_le (h.off b hR).1 hb.size, (h.off b hR).2⟩⟩
theorem Rat.kept {w w' : World} {m : Nat} {R K : Nat → Prop} {x : Dk} (h : Rat w m R x) (hk : Kept K w w') (hR : ∀ b, R b ∨ b = m → K b) : Rat w' m R x := by
  obtain ⟨A, c, E, B, g, l, h⟩ := h
  exact ⟨A, c, E, B, g, l, (hk.2 _ (hR _ (.inr rfl))).trans h.blk, h.files.kept hk fun b hb => hR b (.inl hb), h.last, h.chgs.kept hk fun b hb => hR b (.inl hb), h.waits, fun b hb => ⟨Nat.lt_of_lt_of_le (h.off b hb).1 hk.1, (h.off b hb).2⟩⟩
theorem fold_take {cs : List Chg} {k : Nat} (hk : k < cs.length) (F : Files) : fold (cs.take (k + 1)) F = cs[k].done (fold (cs.take k) F) := take_done (List.getElem?_eq_getElem hk) F
set_option maxRecDepth 100000 in
set_option maxHeartbeats 4000000 in
theorem seen_any {w : World} {m : Nat} {R : Nat → Prop} {x : Dk} (h : Rat w m R x) {N : Nat} (hx : Fine N x) (hN : N ≤ 1000000) :
    Calls Try.prog 56 #[.pointer (some ⟨m, 0, none⟩)] w (DonePost w R x.seen) := by
  obtain ⟨A, c, E, B, g, l, h⟩ := h
  have hll : l.length = x.waits.length := by rw [← h.waits, List.length_map]
  have hlN : l.length ≤ 1000000 := by have := hx.nw; omega
  have q0 := h.blk.cell 0
  have q1 := h.blk.cell 1
  simp only [List.getElem?_toArray, List.getElem?_cons_zero, List.getElem?_cons_succ] at q0 q1
  go_enter Try.func56, Try.ntmps56
  go_wp2_with fail
  go_loopw [3, 4] (fun v i wr => ∃ (k : Nat) (D : List (Nm × Sb)) (AD : Option Addr) (cD : Nat), k ≤ l.length ∧ i = .int .i64 k ∧ v = .slice AD D.length cD ∧ Below w.heap.size w wr ∧ FRow wr (fun b => R b ∨ From w.heap.size wr b) AD D ∧ fil D = fold (x.waits.take k) x.last) (fun _ i _ => l.length - (intOf i).toNat)
  case atStart => exact ⟨0, E, A, c, by omega, rfl, rfl, Below.refl _ _, h.files.mono fun b => .inl, h.last⟩
  case round =>
    obtain ⟨k, D, AD, cD, hk, rfl, rfl, hb, hD, hf⟩ := hrel
    have q1 := (h.blk.below hb h.blk.lt).cell 1
    simp only [List.getElem?_toArray, List.getElem?_cons_zero, List.getElem?_cons_succ] at q1
    by_cases hlt : k < l.length
    · obtain ⟨b, o, rfl, hbl, c0, c1, c2, c3⟩ := (h.chgs.below hb).at_ hlt
      have hfit := h.chgs.fits _ (List.getElem_mem hlt)
      have hby := (h.chgs.below hb).rows _ (List.getElem_mem hlt)
      have hsrt : Srt (fil D) := by rw [hf]; exact fold_srt hx.srt _
      have hDl : D.length ≤ 1000000 := by rw [← fil_len, hf]; exact Nat.le_trans (hx.len k (by omega)) hN
      have hsz : fsize (fil D) ≤ 65536 := by
        have h1 := hx.size k (by omega)
        have h2 := hx.c1
        rw [hf]; omega
      have hgl : ((fget l[k].n (fil D)).getD []).length ≤ 1000000 := by
        have := flen_le hsrt l[k].n
        unfold flen at this
        omega
      have hdo := done_any cD hD hDl l[k] hby hfit.small hgl
      rw [Rc.done_eq hsrt hfit.ne, hf, show (l[k]).chg = (x.waits[k]'(by omega)) from by simp [← h.waits], ← fold_take (by omega) x.last] at hdo
      unfold Rc.val sv at hdo
      generalize l[k] = a at c0 c1 c2 c3 hdo
      unfold sv at c3
      clear hfit hby hsrt hDl hsz hgl hf hD q0
      go_wp2_with fail
      refine hdo.mono ?_
      rintro e w2 ⟨D2, hf2, ⟨A2, c2', rfl, hD2⟩, hb2⟩
      go_wp2_with fail
      go_roundw
      case rel =>
        refine ⟨k + 1, D2, A2, c2', by omega, by go_num, rfl, hb.trans (hb2.mono hb.size), hD2.mono fun b h => ?_, hf2⟩
        rcases h with (h | h) | h
        · exact .inl h
        · exact .inr ⟨h.1, Nat.lt_of_lt_of_le h.2 hb2.size⟩
        · exact .inr ⟨Nat.le_trans hb.size h.1, h.2⟩
      case measure => simp [intOf]; omega
    · obtain rfl : k = l.length := by omega
      rw [hll, ← hx.seen_take] at hf
      have HF := Lib.hid hf
      clear hf
      go_wp2_with fail
      go_ret
      exact ⟨D, HF.out, ⟨AD, cD, rfl, hD⟩, hb⟩
end Go.Proofs.Ytggdkhgpkedbkaa
