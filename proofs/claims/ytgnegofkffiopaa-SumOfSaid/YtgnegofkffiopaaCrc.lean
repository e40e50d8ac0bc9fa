/- Plain facts on the division of bit rows that the sum goes by. -/
namespace Go.Proofs.Ytgnegofkffiopaa
namespace Crc

/-- One step of the register: times x, by the polynomial. -/
def T (x : BitVec 32) : BitVec 32 := (x <<< 1) ^^^ (if x.msb then 0x1EDC6F41#32 else 0#32)

def Tn : Nat → BitVec 32 → BitVec 32
  | 0, x => x
  | n + 1, x => Tn n (T x)

theorem Tn_succ (n : Nat) (x : BitVec 32) : Tn (n + 1) x = T (Tn n x) := by
  induction n generalizing x with
  | zero => rfl
  | succ n ih => exact ih (T x)

theorem Tn_add (a b : Nat) (x : BitVec 32) : Tn (a + b) x = Tn a (Tn b x) := by
  induction b generalizing x with
  | zero => rfl
  | succ b ih => exact ih (T x)

/-- A byte's bits turned round. -/
def rev8 (c : UInt8) : UInt8 :=
  UInt8.ofNat ((c.toNat % 2) * 128 + (c.toNat / 2 % 2) * 64 + (c.toNat / 4 % 2) * 32 + (c.toNat / 8 % 2) * 16 + (c.toNat / 16 % 2) * 8 + (c.toNat / 32 % 2) * 4 + (c.toNat / 64 % 2) * 2 + c.toNat / 128 % 2)

/-- A byte's place at the register's top. -/
def top (c : UInt8) : BitVec 32 := (BitVec.ofNat 32 (rev8 c).toNat) <<< 24

/-- A byte handed to the register. -/
def hand (x : BitVec 32) (c : UInt8) : BitVec 32 := Tn 8 (x ^^^ top c)

def feed (x : BitVec 32) (l : List UInt8) : BitVec 32 := l.foldl hand x

/-- The stages in which a word's bits are turned round. -/
def st1 (x : BitVec 32) : BitVec 32 := ((x >>> 1) &&& 1431655765#32) ||| ((x &&& 1431655765#32) <<< 1)
def st2 (x : BitVec 32) : BitVec 32 := ((x >>> 2) &&& 858993459#32) ||| ((x &&& 858993459#32) <<< 2)
def st3 (x : BitVec 32) : BitVec 32 := ((x >>> 4) &&& 252645135#32) ||| ((x &&& 252645135#32) <<< 4)
def st4 (x : BitVec 32) : BitVec 32 := ((x >>> 8) &&& 16711935#32) ||| ((x &&& 16711935#32) <<< 8)
def st5 (x : BitVec 32) : BitVec 32 := (x >>> 16) ||| (x <<< 16)
def rev32 (x : BitVec 32) : BitVec 32 := st5 (st4 (st3 (st2 (st1 x))))

/-- What is asked at the end. -/
def fin (x : BitVec 32) : BitVec 32 := ~~~ rev32 x
def sum (l : List UInt8) : BitVec 32 := fin (feed 0xFFFFFFFF#32 l)

theorem feed_append (x : BitVec 32) (l m : List UInt8) : feed x (l ++ m) = feed (feed x l) m := List.foldl_append

end Crc
end Go.Proofs.Ytgnegofkffiopaa
