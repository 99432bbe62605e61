/- The sum as plain functions. -/
namespace Go.Gv
def crcBit (n : UInt32) : UInt32 := (n >>> 1) ^^^ (0x82F63B78 &&& (0 - (n &&& 1)))
def crcBits : Nat → UInt32 → UInt32
  | 0, n => n
  | k + 1, n => crcBits k (crcBit n)
def crcTab (i : Nat) : UInt32 := crcBits 8 (UInt32.ofNat i)
def crcByte (n : UInt32) (c : UInt8) : UInt32 := (n >>> 8) ^^^ crcTab (n.toUInt8 ^^^ c).toNat
def crcFold (n : UInt32) (l : List UInt8) : UInt32 := l.foldl crcByte n
def crcBehind (sum : UInt32) (l : List UInt8) : UInt32 := ~~~ (crcFold (~~~ sum) l)
def crcSum (l : List UInt8) : UInt32 := crcBehind 0 l
theorem crcBits_succ (k : Nat) (n : UInt32) : crcBits (k + 1) n = crcBit (crcBits k n) := by
  induction k generalizing n with
  | zero => rfl
  | succ k ih => exact ih (crcBit n)
/-- one bit, as the reference takes it -/
def refBit (n : UInt32) (bit : UInt32) : UInt32 := if (n &&& 1) ≠ bit then (n >>> 1) ^^^ 0x82F63B78 else n >>> 1
def bitAt (l : List UInt8) (i : Nat) : UInt32 := ((l.getD (i / 8) 0).toUInt32 >>> UInt32.ofNat (i % 8)) &&& 1
def refAt (l : List UInt8) : Nat → UInt32
  | 0 => 0xFFFFFFFF
  | i + 1 => refBit (refAt l i) (bitAt l i)
def refSum (l : List UInt8) : UInt32 := refAt l (8 * l.length) ^^^ 0xFFFFFFFF
end Go.Gv
