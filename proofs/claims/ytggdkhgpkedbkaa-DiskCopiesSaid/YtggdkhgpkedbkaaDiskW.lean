/- The calls, with several disks at hand. -/
import Derived.Test.YtggdkhgpkedbkaaDiskV
import Derived.Lib.SlBytesConst
namespace Go.Proofs.Ytggdkhgpkedbkaa
open Go.RowKit

section
variable {w0 w : World} {K : Nat → Prop} {L : List (Nat × Dk)} {d : Nat} {x : Dk}
/-- A call answered q, and the disk is x' now. -/
def Did (w0 w : World) (K : Nat → Prop) (L : List (Nat × Dk)) (d : Nat) (r : Int × Dk) (e : Ending) (w' : World) : Prop := e = .returned (.int .i64 r.1) ∧ Held w0 w' K ((d, r.2) :: L) ∧ Kept K w w'
theorem Held.append (h : Held w0 w K ((d, x) :: L)) (hx : Small x) (n : Nm) (hn : Nok n) (A : Option Addr) (c : Nat) (b : List UInt8) (hb : Bytes w A b) (hbl : b.length ≤ 9223372036854775807) :
    Calls Try.prog 24 #[pd d, .string ⟨n.toArray⟩, .slice A b.length c] w (Did w0 w K L d (x.append n b)) :=
  h.step (S := fun e => e = .returned (.int .i64 (x.append n b).1)) (fun U V hd => append_any hd hx n hn A c b hb hbl) fun _ _ he h1 h2 => ⟨he, h1, h2⟩
theorem Held.put (h : Held w0 w K ((d, x) :: L)) (hx : Small x) (n : Nm) (hn : Nok n) (A : Option Addr) (c : Nat) (b : List UInt8) (hb : Bytes w A b) (hbl : b.length ≤ 9223372036854775807) :
    Calls Try.prog 15 #[pd d, .string ⟨n.toArray⟩, .slice A b.length c] w (Did w0 w K L d (x.put n b)) :=
  h.step (S := fun e => e = .returned (.int .i64 (x.put n b).1)) (fun U V hd => put_any hd hx n hn A c b hb hbl) fun _ _ he h1 h2 => ⟨he, h1, h2⟩
theorem Held.rename (h : Held w0 w K ((d, x) :: L)) (hx : Small x) (n k : Nm) (hn : Nok n) (hk : Nok k) :
    Calls Try.prog 17 #[pd d, .string ⟨n.toArray⟩, .string ⟨k.toArray⟩] w (Did w0 w K L d (x.rename n k)) :=
  h.step (S := fun e => e = .returned (.int .i64 (x.rename n k).1)) (fun U V hd => rename_any hd hx n k hn hk) fun _ _ he h1 h2 => ⟨he, h1, h2⟩
theorem Held.remove (h : Held w0 w K ((d, x) :: L)) (hx : Small x) (n : Nm) (hn : Nok n) :
    Calls Try.prog 25 #[pd d, .string ⟨n.toArray⟩] w (Did w0 w K L d (x.remove n)) :=
  h.step (S := fun e => e = .returned (.int .i64 (x.remove n).1)) (fun U V hd => remove_any hd hx n hn) fun _ _ he h1 h2 => ⟨he, h1, h2⟩
theorem Held.sync (h : Held w0 w K ((d, x) :: L)) (hx : Small x) : Calls Try.prog 16 #[pd d] w (Did w0 w K L d x.sync) :=
  h.step (S := fun e => e = .returned (.int .i64 x.sync.1)) (fun U V hd => sync_any hd hx) fun _ _ he h1 h2 => ⟨he, h1, h2⟩
theorem Held.start (h : Held w0 w K ((d, x) :: L)) : Calls Try.prog 13 #[pd d] w (Did w0 w K L d x.start) :=
  h.step (S := fun e => e = .returned (.int .i64 x.start.1)) (fun U V hd => start_any hd) fun _ _ he h1 h2 => ⟨he, h1, h2⟩
theorem Held.crash {N : Nat} (h : Held w0 w K ((d, x) :: L)) (hx : Fine N x) (hN : N ≤ 999999) (keep torn : Int) : Calls Try.prog 19 #[pd d, .int .i64 keep, .int .i64 torn] w (Did w0 w K L d (x.crash keep torn)) :=
  h.step (S := fun e => e = .returned (.int .i64 (x.crash keep torn).1)) (fun U V hd => crash_any hd hx hN keep torn) fun _ _ he h1 h2 => ⟨he, h1, h2⟩
theorem Held.wipe (h : Held w0 w K ((d, x) :: L)) (hx : Small x) : Calls Try.prog 28 #[pd d] w fun e w' => e = .returned (.tuple #[]) ∧ Held w0 w' K ((d, x.wipe) :: L) ∧ Kept K w w' :=
  h.step (S := fun e => e = .returned (.tuple #[])) (fun U V hd => wipe_any hd hx) fun _ _ he h1 h2 => ⟨he, h1, h2⟩
theorem Held.read (h : Held w0 w K ((d, x) :: L)) (hx : Small x) (n : Nm) (hn : Nok n) : Calls Try.prog 14 #[pd d, .string ⟨n.toArray⟩] w (ReadPost w (x.read n)) := by
  obtain ⟨U, V, hd⟩ := h.dsk
  exact read_any hd hx n hn
theorem Held.waits (h : Held w0 w K ((d, x) :: L)) : Calls Try.prog 18 #[pd d] w fun e w' => e = .returned (.int .i64 (if x.down then 0 else (x.waits.length : Int))) ∧ w = w' := by
  obtain ⟨U, V, hd⟩ := h.dsk
  exact waits_any hd
theorem Held.size (h : Held w0 w K ((d, x) :: L)) (n : Nm) (hn : Nok n) : Calls Try.prog 31 #[pd d, .string ⟨n.toArray⟩] w fun e w' => e = .returned (.int .i64 (if x.down then 0 else (flen n x.seen : Int))) ∧ w = w' := by
  obtain ⟨U, V, hd⟩ := h.dsk
  exact size_any hd n hn
theorem Held.serial (h : Held w0 w K ((d, x) :: L)) : Calls Try.prog 32 #[pd d] w fun e w' => e = .returned (.int .u64 x.serial) ∧ w = w' := by
  obtain ⟨U, V, hd⟩ := h.dsk
  exact serial_any hd
end
section
variable {w w' : World} {K : Nat → Prop} {s : Sl} {l : List UInt8}
theorem BytesIn.kept (h : BytesIn w K s l) (hk : Kept K w w') : BytesIn w' K s l := by
  refine ⟨h.len, h.room, h.cap, ?_, h.block⟩
  exact Reads.keep h.bytes hk.1 fun p ⟨ad, e, hp⟩ _ => World.cell?_of_block (hk.2 _ (by rw [hp]; exact h.block ad e))
theorem BytesIn.below_ (h : BytesIn w K s l) (hb : Below w.heap.size w w') : BytesIn w' K s l := ⟨h.len, h.room, h.cap, h.bytes.below hb, h.block⟩
theorem BytesIn.alloc_ (h : BytesIn w K s l) (o : Obj) : BytesIn (w.alloc o) K s l := h.below_ (below_new w o)
theorem BytesIn.beside (h : BytesIn w K s l) (hb : Below w.heap.size w w') : BytesIn w' (fun b => K b ∨ From w.heap.size w' b) s l := ⟨h.len, h.room, h.cap, h.bytes.below hb, fun ad e => .inl (h.block ad e)⟩
/-- What was read lies in new blocks. -/
theorem ReadPost.in_ {r : List UInt8 × Int} {e : Ending} (h : ReadPost w r e w') : (∃ A c, e = .returned (.tuple #[.slice A r.1.length c, .int .i64 r.2]) ∧ BytesIn w' (fun b => K b ∨ From w.heap.size w' b) (A, r.1.length, c) r.1) ∧ Below w.heap.size w w' := by
  obtain ⟨⟨A, c, he, ho⟩, hb⟩ := h
  exact ⟨⟨A, c, he, BytesIn.of_own ho fun b h1 h2 => .inr ⟨h1, h2⟩⟩, hb⟩
end

section
variable {w0 w : World} {K : Nat → Prop} {L : List (Nat × Dk)} {d : Nat} {x : Dk}
/-- What was read lies beside the disks. -/
def Told (w0 w : World) (K : Nat → Prop) (L : List (Nat × Dk)) (r : List UInt8 × Int) (e : Ending) (w' : World) : Prop :=
  ∃ (A : Option Addr) (c : Nat) (K' : Nat → Prop), e = .returned (.tuple #[.slice A r.1.length c, .int .i64 r.2]) ∧ Held w0 w' K' L ∧ BytesIn w' K' (A, r.1.length, c) r.1 ∧ (∀ s l, BytesIn w K s l → BytesIn w' K' s l) ∧ (∀ b, K b → K' b) ∧ Below w.heap.size w w'
theorem Held.tell (h : Held w0 w K ((d, x) :: L)) (hx : Small x) (n : Nm) (hn : Nok n) : Calls Try.prog 14 #[pd d, .string ⟨n.toArray⟩] w (Told w0 w K ((d, x) :: L) (x.read n)) := by
  refine (h.read hx n hn).mono fun e w' hr => ?_
  obtain ⟨⟨A, c, he, hin⟩, hb⟩ := ReadPost.in_ (K := K) hr
  exact ⟨A, c, _, he, h.below hb, hin, fun s l hs => hs.beside hb, fun b => .inl, hb⟩
theorem Held.new_block (h : Held w0 w K L) (o : Obj) : Held w0 (w.alloc o) K L := (h.below (below_new w o)).less fun b => .inl
theorem Held.drew (h : Held w0 w K L) : Held w0 w.drew K L := (h.below (Below.refl _ w).drew).less fun b => .inl
end
theorem conv_in {P : Program} {w : World} {K : Nat → Prop} {A : Option Addr} {n c : Nat} {l : List UInt8} {src e dst : TypeId} (hs : P.underlying src = some (.slice e)) (he : P.underlying e = some (.int .u8)) (hd : P.underlying dst = some .string)
    (h : BytesIn w K (A, n, c) l) : (convert src dst (.slice A n c)).run P w = .ok (.string ⟨l.toArray⟩) w := conv_str hs he hd h.bytes h.len.symm

/-! ### the chapter's examples -/
def S1 : Dk := { seen := [([97], [120, 121])], last := [], waits := [.app [97] [120, 121]], cap := 10, serial := 1, down := false }
def S2 : Dk := { seen := [([97], [120, 121, 122])], last := [], waits := [.app [97] [120, 121], .app [97] [122]], cap := 10, serial := 1, down := false }
def S3 : Dk := { seen := [([97], [120, 121])], last := [([97], [120, 121])], waits := [], cap := 10, serial := 1, down := true }
def S4 : Dk := { seen := [([97], [120, 121])], last := [([97], [120, 121])], waits := [], cap := 10, serial := 1, down := false }
def S5 : Dk := { seen := [([97], [120])], last := [([97], [120])], waits := [], cap := 10, serial := 1, down := true }
def S6 : Dk := { seen := [([97], [120])], last := [([97], [120])], waits := [], cap := 10, serial := 1, down := false }
def S7 : Dk := { seen := [], last := [], waits := [], cap := 10, serial := 2, down := false }
theorem e1 : (Dk.new 10).append [97] [120, 121] = (0, S1) := by kernel_rfl
theorem e2 : S1.append [97] [122] = (0, S2) := by kernel_rfl
theorem e3 : S2.read [97] = ([120, 121, 122], 0) := by kernel_rfl
theorem e4 : S2.append [98] [49, 50, 51, 52, 53, 54, 55, 56] = (3, S2) := by kernel_rfl
theorem e5 : S2.crash 1 0 = (0, S3) := by kernel_rfl
theorem e6 : S3.read [97] = ([], 6) := by kernel_rfl
theorem e7 : S3.start = (0, S4) := by kernel_rfl
theorem e8 : S4.read [97] = ([120, 121], 0) := by kernel_rfl
theorem e9 : S2.crash 0 1 = (0, S5) := by kernel_rfl
theorem e10 : S5.start = (0, S6) := by kernel_rfl
theorem e11 : S6.read [97] = ([120], 0) := by kernel_rfl
theorem e12 : S4.wipe = S7 := by kernel_rfl
theorem m0 : Small (Dk.new 10) := ⟨by decide, by decide, by decide, by decide, by decide, by decide, by decide⟩
theorem m1 : Small S1 := ⟨by decide, by decide, by decide, by decide, by decide, by decide, by decide⟩
theorem m2 : Small S2 := ⟨by decide, by decide, by decide, by decide, by decide, by decide, by decide⟩
theorem m3 : Small S3 := ⟨by decide, by decide, by decide, by decide, by decide, by decide, by decide⟩
theorem m4 : Small S4 := ⟨by decide, by decide, by decide, by decide, by decide, by decide, by decide⟩
theorem m6 : Small S6 := ⟨by decide, by decide, by decide, by decide, by decide, by decide, by decide⟩
theorem g2 : Fine 2 S2 := by
  have h := ((Fine.new (cap := 10) (by decide) (by decide)).append [97] [120, 121])
  rw [e1] at h
  have h := h.append [97] [122]
  rw [e2] at h
  exact h
end Go.Proofs.Ytggdkhgpkedbkaa
