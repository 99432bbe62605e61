/- node: what its functions compute of inner nodes, in plain terms. -/
import Derived.Test.YtmomlimhjnfadaaPgPlain
namespace Go.Gv
set_option linter.unusedVariables false
set_option linter.unusedSimpArgs false

abbrev KEY := Int × Int
def betw (n low high : Int) : Bool := decide (low ≤ n) && decide (n ≤ high)
def keyOk (k : KEY) : Bool := betw k.1 0 4294967295
def lessK (a b : KEY) : Bool := decide (a.1 < b.1) || (decide (a.1 = b.1) && decide (a.2 < b.2))
/-- may the key at place i be there? -/
def keyAt (ks : List KEY) (i : Nat) : Bool := keyOk (ks.getD i (0, 0)) && (decide (i = 0) || lessK (ks.getD (i - 1) (0, 0)) (ks.getD i (0, 0)))
def kidAt (kids : List Int) (i : Nat) : Bool := betw (kids.getD i 0) 2 511 && !decide (kids.getD i 0 ∈ kids.take i)
def keysTo (ks : List KEY) : Nat → Bool
  | 0 => true
  | i + 1 => keysTo ks i && keyAt ks i
def kidsTo (kids : List Int) : Nat → Bool
  | 0 => true
  | i + 1 => kidsTo kids i && kidAt kids i
def innerB (ks : List KEY) (kids : List Int) : Bool := keysTo ks ks.length && kidsTo kids kids.length && decide (ks.length = kids.length) && betw (kids.length : Int) 1 16
theorem keysTo_mono (ks : List KEY) {i : Nat} (h : keysTo ks i = false) : ∀ j, i ≤ j → keysTo ks j = false
  | 0, hj => by obtain rfl : i = 0 := by omega
                exact h
  | j + 1, hj => by
    by_cases e : i = j + 1
    · subst e; exact h
    · rw [keysTo, keysTo_mono ks h j (by omega), Bool.false_and]
theorem kidsTo_mono (ks : List Int) {i : Nat} (h : kidsTo ks i = false) : ∀ j, i ≤ j → kidsTo ks j = false
  | 0, hj => by obtain rfl : i = 0 := by omega
                exact h
  | j + 1, hj => by
    by_cases e : i = j + 1
    · subst e; exact h
    · rw [kidsTo, kidsTo_mono ks h j (by omega), Bool.false_and]
def n64 (t : Int) : Nat := (t % 18446744073709551616).toNat
def keyB (k : KEY) : List UInt8 := bigB k.1.toNat 4 ++ bigB (n64 k.2) 8
theorem keyB_length (k : KEY) : (keyB k).length = 12 := by simp [keyB, bigB_length]
/-- the bytes of the first i children -/
def kidsB (ks : List KEY) (kids : List Int) : Nat → List UInt8
  | 0 => []
  | i + 1 => kidsB ks kids i ++ (keyB (ks.getD i (0, 0)) ++ bigB (kids.getD i 0).toNat 2)
theorem kidsB_length (ks : List KEY) (kids : List Int) : ∀ i, (kidsB ks kids i).length = i * 14
  | 0 => rfl
  | i + 1 => by rw [kidsB, List.length_append, kidsB_length ks kids i, List.length_append, keyB_length, bigB_length]; omega
def putI (ks : List KEY) (kids : List Int) : List UInt8 := UInt8.ofNat kids.length :: kidsB ks kids kids.length
/-- a number of 64 bits, with a sign -/
def s64 (n : Nat) : Int := if n < 9223372036854775808 then (n : Int) else (n : Int) - 18446744073709551616
def keyG (l : List UInt8) (i : Nat) : KEY := ((numB ((l.drop (1 + i * 14)).take 4) : Int), s64 (numB ((l.drop (5 + i * 14)).take 8)))
def kidG (l : List UInt8) (i : Nat) : Int := (numB ((l.drop (13 + i * 14)).take 2) : Int)
def keysG (l : List UInt8) (i : Nat) : List KEY := (List.range i).map (keyG l)
def kidsG (l : List UInt8) (i : Nat) : List Int := (List.range i).map (kidG l)
def cntG (l : List UInt8) : Nat := (l.getD 0 0).toNat
def getI (l : List UInt8) : (List KEY × List Int) × Nat :=
  if l.length = 0 ∨ l.length ≠ 1 + cntG l * 14 then (([], []), 3)
  else if innerB (keysG l (cntG l)) (kidsG l (cntG l)) = true ∧ putI (keysG l (cntG l)) (kidsG l (cntG l)) = l then ((keysG l (cntG l), kidsG l (cntG l)), 0) else (([], []), 3)
def nd1k : List KEY := [(1, 2)]
def nd1c : List Int := [5]
theorem nd1_ok : innerB nd1k nd1c = true := by decide
theorem nd1_put : putI nd1k nd1c = [1, 0, 0, 0, 1, 0, 0, 0, 0, 0, 0, 0, 2, 0, 5] := by decide
theorem nd1_get : getI (putI nd1k nd1c) = ((nd1k, nd1c), 0) := by decide
end Go.Gv
