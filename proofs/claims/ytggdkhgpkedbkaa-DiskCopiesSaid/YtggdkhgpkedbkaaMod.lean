/- Of the blocks that stood only some may have changed. -/
import Derived.Test.YtggdkhgpkedbkaaWords4
import Derived.Handy
namespace Go.Proofs.Ytggdkhgpkedbkaa
open Go.RowKit

/-- Of the blocks that stood those alone may have changed of which S is true. -/
structure Mod (S : Nat → Prop) (w w' : World) : Prop where
  os : w'.os = w.os
  tape : w'.tape = w.tape
  output : w'.output = w.output
  size : w.heap.size ≤ w'.heap.size
  block : ∀ k, k < w.heap.size → ¬ S k → w'.heap[k]? = w.heap[k]?
section
variable {S T : Nat → Prop} {w w' w'' : World}
theorem Mod.refl (S : Nat → Prop) (w : World) : Mod S w w := ⟨rfl, rfl, rfl, Nat.le_refl _, fun _ _ _ => rfl⟩
theorem Mod.trans (h : Mod S w w') (k : Mod S w' w'') : Mod S w w'' :=
  ⟨k.os.trans h.os, k.tape.trans h.tape, k.output.trans h.output, Nat.le_trans h.size k.size, fun i hi hn => (k.block i (Nat.lt_of_lt_of_le hi h.size) hn).trans (h.block i hi hn)⟩
/-- What is written in new blocks does not count. -/
theorem Mod.join (h : Mod S w w') (k : Mod T w' w'') (hT : ∀ b, b < w.heap.size → T b → S b) : Mod S w w'' :=
  ⟨k.os.trans h.os, k.tape.trans h.tape, k.output.trans h.output, Nat.le_trans h.size k.size, fun i hi hn => (k.block i (Nat.lt_of_lt_of_le hi h.size) fun ht => hn (hT i hi ht)).trans (h.block i hi hn)⟩
theorem Mod.mono (h : Mod S w w') (hT : ∀ b, b < w.heap.size → S b → T b) : Mod T w w' := ⟨h.os, h.tape, h.output, h.size, fun i hi hn => h.block i hi fun hs => hn (hT i hi hs)⟩
theorem Mod.drew (h : Mod S w w') : Mod S w w'.drew := ⟨h.os, h.tape, h.output, h.size, h.block⟩
theorem Mod.drewN (h : Mod S w w') (n : Nat) : Mod S w (w'.drewN n) := ⟨h.os, h.tape, h.output, h.size, h.block⟩
theorem Mod.alloc (h : Mod S w w') (o : Obj) : Mod S w (w'.alloc o) :=
  ⟨h.os, h.tape, h.output, Nat.le_trans h.size (by simp), fun i hi hn => (Below.heap_alloc w' o i (Nat.lt_of_lt_of_le hi h.size)).trans (h.block i hi hn)⟩
theorem Mod.set (h : Mod S w w') {p : Addr} (hp : p.block < w.heap.size → S p.block) (v : Value) : Mod S w (w'.setCell p v) :=
  ⟨h.os, h.tape, h.output, by simpa [World.setCell] using h.size, fun i hi hn => (Below.heap_setCell w' p v i (by
    rintro rfl
    exact hn (hp hi))).trans (h.block i hi hn)⟩
theorem Mod.setRow (h : Mod S w w') {g : Nat} (hp : g < w.heap.size → S g) (cs : Array Value) : Mod S w (w'.setRow g cs) :=
  ⟨h.os, h.tape, h.output, by simpa using h.size, fun i hi hn => (setRow_other w' g i cs (by
    rintro rfl
    exact hn (hp hi))).trans (h.block i hi hn)⟩
theorem Mod.below {B : Nat} (h : Below B w w') (hB : w.heap.size ≤ B) : Mod S w w' := ⟨h.os, h.tape, h.output, h.size, fun i hi _ => h.block i (Nat.lt_of_lt_of_le hi hB)⟩
theorem Mod.grown {row : Option Nat} (h : w.grownBy w' row) (hS : ∀ g, row = some g → g < w.heap.size → S g) : Mod S w w' :=
  ⟨h.os, h.tape, h.output, h.size, fun i hi hn => h.block i hi fun e => hn (hS i e.symm hi)⟩
/-- Nothing that stood has changed. -/
theorem Mod.to_below (h : Mod S w w') {B : Nat} (hB : B ≤ w.heap.size) (hS : ∀ b, b < B → ¬ S b) : Below B w w' := ⟨h.os, h.tape, h.output, h.size, fun i hi => h.block i (Nat.lt_of_lt_of_le hi hB) (hS i hi)⟩
theorem Mod.to_grown (h : Mod S w w') {r : Nat} (hS : ∀ b, b < w.heap.size → S b → b = r) : w.grownBy w' (some r) := ⟨h.os, h.tape, h.output, h.size, fun i hi hn => h.block i hi fun hs => hn (by rw [hS i hi hs])⟩
theorem Blk.mod {g : Nat} {t : TypeId} {cs : Array Value} (h : Blk w g t cs) (hm : Mod S w w') (hg : ¬ S g) : Blk w' g t cs := (hm.block g h.lt hg).trans h
theorem Reads.mod {size n : Nat} {A : Option Addr} {xs : List Value} (h : Reads w size A n xs) (hm : Mod S w w') (hA : ∀ ad, A = some ad → ¬ S ad.block) : Reads w' size A n xs :=
  h.keep hm.size fun p ⟨ad, e, hp⟩ hlt => World.cell?_of_block (hm.block p.block hlt (by rw [hp]; exact hA ad e))
theorem Bytes.mod {A : Option Addr} {l : List UInt8} (h : Bytes w A l) (hm : Mod S w w') (hA : ∀ ad, A = some ad → ¬ S ad.block) : Bytes w' A l := Reads.mod h hm hA
end
end Go.Proofs.Ytggdkhgpkedbkaa
