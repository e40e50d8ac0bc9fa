/- The reader in an interval of blocks: its methods, each in one sentence. -/
import Derived.Test.YtcklbhplhpohpaaDoorCodeS
import Derived.Test.YtcklbhplhpohpaaDoorBufA
namespace Go.Proofs.YtcklbhplhpohpaaDoor
open Go.RowKit

/-- The blocks from lo up to hi. -/
def Iv (lo hi k : Nat) : Prop := lo ≤ k ∧ k < hi
/-- A reader that lies, bytes and all, in the blocks from lo up to hi. -/
def Rdr (w : World) (lo hi r : Nat) (l : List UInt8) (p : Nat) (f : Bool) : Prop :=
  ∃ A c, RdB w r A c l p f ∧ lo ≤ r ∧ r < hi ∧ (∀ ad, A = some ad → lo ≤ ad.block ∧ ad.block < hi) ∧ l.length ≤ 140737488355328
theorem RdB.mod {S : Nat → Prop} {w w' : World} {r : Nat} {A : Option Addr} {c : Nat} {l : List UInt8} {p : Nat} {f : Bool} (h : RdB w r A c l p f) (hm : Mod S w w') (hr : ¬ S r) (hA : ∀ ad, A = some ad → ¬ S ad.block) : RdB w' r A c l p f :=
  ⟨Blk.mod h.rd hm hr, Bytes.mod h.by_ hm hA, h.lc, h.cc, h.pl, h.ne, fun ad e => Nat.lt_of_lt_of_le (h.al ad e) hm.size⟩
section
variable {w w' : World} {lo hi r : Nat} {l : List UInt8} {p : Nat} {f : Bool}
theorem Rdr.mod {S : Nat → Prop} (h : Rdr w lo hi r l p f) (hm : Mod S w w') (hS : ∀ k, lo ≤ k → k < hi → ¬ S k) : Rdr w' lo hi r l p f := by
  obtain ⟨A, c, h1, h2, h3, h4, h5⟩ := h
  exact ⟨A, c, h1.mod hm (hS r h2 h3) fun ad e => hS _ (h4 ad e).1 (h4 ad e).2, h2, h3, h4, h5⟩
theorem Rdr.below (h : Rdr w lo hi r l p f) (hb : Below w.heap.size w w') : Rdr w' lo hi r l p f := h.mod (Mod.below (S := fun _ => False) hb (Nat.le_refl _)) fun _ _ _ h => h
theorem Rdr.drewN (h : Rdr w lo hi r l p f) (q : Nat) : Rdr (w.drewN q) lo hi r l p f := h.mod ((Mod.refl (fun _ => False) w).drewN q) fun _ _ _ h => h
theorem Rdr.pl (h : Rdr w lo hi r l p f) : p ≤ l.length := by
  obtain ⟨A, c, h1, _⟩ := h
  exact h1.pl
theorem Rdr.wide {lo2 hi2 : Nat} (h : Rdr w lo hi r l p f) (h1 : lo2 ≤ lo) (h2 : hi ≤ hi2) : Rdr w lo2 hi2 r l p f := by
  obtain ⟨A, c, h3, h4, h5, h6, h7⟩ := h
  exact ⟨A, c, h3, by omega, by omega, fun ad e => by have := h6 ad e; omega, h7⟩
end
/-- The reader stands behind what was read. -/
def Rdt (lo hi r : Nat) (l : List UInt8) (q : Nat) (t : Nat × List UInt8 × Nat × Bool) (w w' : World) : Prop := Rdr w' lo hi r l (q + t.2.2.1) t.2.2.2 ∧ Mod (Iv lo hi) w w'
theorem Rdt.of {lo hi r : Nat} {A : Option Addr} {c : Nat} {l : List UInt8} {q : Nat} {t : Nat × List UInt8 × Nat × Bool} {w w' : World} (h2 : lo ≤ r) (h3 : r < hi) (h4 : ∀ ad, A = some ad → lo ≤ ad.block ∧ ad.block < hi) (h5 : l.length ≤ 140737488355328) (h : Rdd r A c l q t w w') : Rdt lo hi r l q t w w' :=
  ⟨⟨A, c, h.1, h2, h3, h4, h5⟩, Mod.grown h.2 fun g e _ => by injection e with e; subst e; exact ⟨h2, h3⟩⟩
section
variable (w : World) (lo hi r : Nat) (l : List UInt8) (q : Nat) (f : Bool) (h : Rdr w lo hi r l q f)
include h
theorem rdr_u8 : Calls Tryd.prog 52 #[.pointer (some ⟨r, 0, none⟩)] w fun e w' => e = .returned (.int .u8 ((stepP 0 0 (l.drop q) f).1 : Int)) ∧ Rdt lo hi r l q (stepP 0 0 (l.drop q) f) w w' := by
  obtain ⟨A, c, h1, h2, h3, h4, h5⟩ := h
  exact (u8_any r A c l q f w 0 h1).mono fun e w' ⟨k1, k2⟩ => ⟨k1, Rdt.of h2 h3 h4 h5 k2⟩
theorem rdr_u32 : Calls Tryd.prog 53 #[.pointer (some ⟨r, 0, none⟩)] w fun e w' => e = .returned (.int .u32 ((stepP 1 0 (l.drop q) f).1 : Int)) ∧ Rdt lo hi r l q (stepP 1 0 (l.drop q) f) w w' := by
  obtain ⟨A, c, h1, h2, h3, h4, h5⟩ := h
  exact (u32_any r A c l q f w 0 h1).mono fun e w' ⟨k1, k2⟩ => ⟨k1, Rdt.of h2 h3 h4 h5 k2⟩
theorem rdr_uint : Calls Tryd.prog 18 #[.pointer (some ⟨r, 0, none⟩)] w fun e w' => e = .returned (.int .u64 ((stepP 2 0 (l.drop q) f).1 : Int)) ∧ Rdt lo hi r l q (stepP 2 0 (l.drop q) f) w w' := by
  obtain ⟨A, c, h1, h2, h3, h4, h5⟩ := h
  exact (uint_any r A c l q f w 0 h1).mono fun e w' ⟨k1, k2⟩ => ⟨k1, Rdt.of h2 h3 h4 h5 k2⟩
theorem rdr_text (m : Int) (hm1 : -9223372036854775808 ≤ m) (hm2 : m ≤ 9223372036854775807) : Calls Tryd.prog 22 #[.pointer (some ⟨r, 0, none⟩), .int .i64 m] w fun e w' => e = .returned (.string ⟨(stepP 3 m (l.drop q) f).2.1.toArray⟩) ∧ Rdt lo hi r l q (stepP 3 m (l.drop q) f) w w' := by
  obtain ⟨A, c, h1, h2, h3, h4, h5⟩ := h
  exact (text_any r A c l q f w m hm1 hm2 h1).mono fun e w' ⟨k1, k2⟩ => ⟨k1, Rdt.of h2 h3 h4 h5 k2⟩
theorem rdr_raw (m : Int) : Calls Tryd.prog 38 #[.pointer (some ⟨r, 0, none⟩), .int .i64 m] w fun e w' => (∃ A' c', e = .returned (.slice A' (stepP 4 m (l.drop q) f).2.1.length c') ∧ Bytes w' A' (stepP 4 m (l.drop q) f).2.1) ∧ Rdt lo hi r l q (stepP 4 m (l.drop q) f) w w' := by
  obtain ⟨A, c, h1, h2, h3, h4, h5⟩ := h
  exact (raw_any r A c l q f w m h5 h1).mono fun e w' ⟨k1, k2⟩ => ⟨k1, Rdt.of h2 h3 h4 h5 k2⟩
theorem rdr_left : Calls Tryd.prog 19 #[.pointer (some ⟨r, 0, none⟩)] w fun e w' => e = .returned (.int .i64 ((l.length - q : Nat) : Int)) ∧ ∃ n, w' = w.drewN n := by
  obtain ⟨A, c, h1, h2, h3, h4, h5⟩ := h
  exact left_any r A c l q f w h1
theorem rdr_err : Calls Tryd.prog 20 #[.pointer (some ⟨r, 0, none⟩)] w fun e w' => e = .returned (.int .i64 (if f then 2 else 0)) ∧ w = w' := by
  obtain ⟨A, c, h1, h2, h3, h4, h5⟩ := h
  exact err_any r A c l q f w h1
theorem rdr_fail : Calls Tryd.prog 31 #[.pointer (some ⟨r, 0, none⟩)] w fun e w' => e = .returned (.tuple #[]) ∧ Rdr w' lo hi r l q true ∧ Mod (Iv lo hi) w w' := by
  obtain ⟨A, c, h1, h2, h3, h4, h5⟩ := h
  exact (fail_any r A c l q f w h1).mono fun e w' ⟨k1, k2, k3⟩ => ⟨k1, ⟨A, c, k2, h2, h3, h4, h5⟩, Mod.grown k3 fun g e _ => by injection e with e; subst e; exact ⟨h2, h3⟩⟩
theorem rdr_end : Calls Tryd.prog 29 #[.pointer (some ⟨r, 0, none⟩)] w fun e w' => e = .returned (.int .i64 (if f || decide (q < l.length) then 2 else 0)) ∧ Rdr w' lo hi r l q (f || decide (q < l.length)) ∧ Mod (Iv lo hi) w w' := by
  obtain ⟨A, c, h1, h2, h3, h4, h5⟩ := h
  exact (end_any r A c l q f w h1).mono fun e w' ⟨k1, k2, k3⟩ => ⟨k1, ⟨A, c, k2, h2, h3, h4, h5⟩, Mod.grown k3 fun g e _ => by injection e with e; subst e; exact ⟨h2, h3⟩⟩
end
set_option maxHeartbeats 400000 in
theorem rdr_new (A : Option Addr) (c n : Nat) (l : List UInt8) (w : World) (hA : Bytes w A l) (hl : n = l.length) (hn : l.length ≤ 140737488355328) :
    Calls Tryd.prog 17 #[.slice A n c] w fun e w' => ∃ r, e = .returned (.pointer (some ⟨r, 0, none⟩)) ∧ Rdr w' w.heap.size w'.heap.size r l 0 false ∧ Below w.heap.size w w' := by
  subst hl
  go_enter Tryd.func17, Tryd.ntmps17
  go_wp2_with fail
  refine (bclone_any A c l w hA hn).mono ?_
  rintro e w1 ⟨⟨A1, c1, rfl, hown⟩, hb⟩
  go_wp2_with fail
  go_ret
  obtain ⟨_, _, e1, h1, h2⟩ := own_slice hown
  injection e1 with _ _ e3
  subst e3
  have hr := row_at_head hown
  have hB : Bytes w1 A1 l := own_bytes hown
  have hs := hb.size
  exact ⟨w1.heap.size, rfl, ⟨A1, c1, ⟨Blk.new _ _ _, hB.below (below_new _ _), h1, by simpa [maxLen] using h2, Nat.zero_le _, fun ad e => ⟨by have := (hr ad e).2.2.2; omega, (hr ad e).1⟩, fun ad e => by have := (hr ad e).2.2.2; simp; omega⟩, hs, by simp, fun ad e => ⟨(hr ad e).2.2.1, by have := (hr ad e).2.2.2; simp; omega⟩, hn⟩, hb.alloc hb.size _⟩
end Go.Proofs.YtcklbhplhpohpaaDoor
