/- A map out of bytes, as a plain function. -/
import Derived.Test.YtnekhjiigijpjaaBmPut2
import Derived.Test.YtnekhjiigijpjaaGvExt
namespace Go.Gv
open Go
set_option linter.unusedSimpArgs false
set_option linter.unusedVariables false

/-- a byte's bit, as the machine tells it -/
def bit8 (x : UInt8) (j : Nat) : Bool := decide (Go.bits .and .u8 ((x.toNat : Int) / 2 ^ min (((j : Nat) : Int)).toNat IntKind.u8.bits) 1 = 1)
def pagesOf (l : List UInt8) : Nat := (l.getD 0 0).toNat * 256 + (l.getD 1 0).toNat
def gotAt (l : List UInt8) (i : Nat) : Bool := if decide (i < pagesOf l) && decide (2 + i / 8 < l.length) then bit8 (l.getD (2 + i / 8) 0) (i % 8) else false
def gotTo (l : List UInt8) (k : Nat) : List Bool := (List.range k).map (gotAt l) ++ List.replicate (512 - k) false
def gotM (l : List UInt8) : BM := ⟨pagesOf l, gotTo l 512⟩
def getM (l : List UInt8) : BM × Nat := if l.length < 2 then (zeroM, 3) else if rightM (gotM l) = true ∧ putM (gotM l) = l then (gotM l, 0) else (zeroM, 3)
theorem gotTo_length (l : List UInt8) (k : Nat) (h : k ≤ 512) : (gotTo l k).length = 512 := by simp [gotTo]; omega
theorem gotTo_set (l : List UInt8) (k : Nat) (h : k < 512) : (gotTo l k).set k (gotAt l k) = gotTo l (k + 1) := by
  unfold gotTo
  have e : 512 - k = (512 - (k + 1)) + 1 := by omega
  rw [List.set_append_right _ _ (by simp), e, List.replicate_succ, List.range_succ]
  simp
theorem gotTo_skip (l : List UInt8) (k : Nat) (h : k < 512) (hf : gotAt l k = false) : gotTo l k = gotTo l (k + 1) := by
  rw [← gotTo_set l k h, hf]
  unfold gotTo
  have e : 512 - k = (512 - (k + 1)) + 1 := by omega
  rw [List.set_append_right _ _ (by simp), e, List.replicate_succ]
  simp
theorem or_pages (x y : UInt8) : Go.bits .or .i64 (IntKind.i64.wrap ((x.toNat : Int) * 2 ^ min (Int.toNat 8) IntKind.i64.bits)) (y.toNat : Int) = ((x.toNat * 256 + y.toNat : Nat) : Int) := by
  have hx := x.toNat_lt
  have hy := y.toNat_lt
  have e1 : IntKind.i64.wrap ((x.toNat : Int) * 2 ^ min (Int.toNat 8) IntKind.i64.bits) = ((x.toNat * 256 : Nat) : Int) := by
    rw [show (2 : Int) ^ min (Int.toNat 8) IntKind.i64.bits = 256 from rfl]
    rw [IntWalk.i64_in _ (by omega)]; omega
  rw [e1]
  have e2 : ((BitVec.ofInt 64 ((x.toNat * 256 : Nat) : Int) ||| BitVec.ofInt 64 ((y.toNat : Nat) : Int)).toNat) = x.toNat * 256 + y.toNat := by
    rw [ofInt_nat, ofInt_nat, BitVec.toNat_or, BitVec.toNat_ofNat, BitVec.toNat_ofNat, Nat.mod_eq_of_lt (by omega), Nat.mod_eq_of_lt (by omega)]
    have := Nat.shiftLeft_add_eq_or_of_lt (i := 8) (b := y.toNat) hy x.toNat
    rw [Nat.shiftLeft_eq] at this
    exact this.symm
  show IntKind.i64.wrap (((BitVec.ofInt 64 ((x.toNat * 256 : Nat) : Int) ||| BitVec.ofInt 64 ((y.toNat : Nat) : Int)).toNat : Nat) : Int) = _
  rw [e2, IntWalk.i64_in _ (by omega)]
theorem bytes_eq (a b : List UInt8) : decide ((⟨a.toArray⟩ : ByteArray) = ⟨b.toArray⟩) = decide (a = b) := by
  apply decide_eq_decide.2
  constructor
  · intro h
    have h1 : a.toArray = b.toArray := by injection h
    simpa using h1
  · intro h; rw [h]
end Go.Gv
