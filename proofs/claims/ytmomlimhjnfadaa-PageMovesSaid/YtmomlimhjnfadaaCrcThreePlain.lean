/- The sum is linear: of three texts of one length. -/
import Derived.Test.YtmomlimhjnfadaaCrcPlain2
namespace Go.Gv
set_option linter.unusedSimpArgs false

def xor3 (a b c : List UInt8) : List UInt8 := List.zipWith (· ^^^ ·) (List.zipWith (· ^^^ ·) a b) c

theorem xor3_length (a b c : List UInt8) (n : Nat) (ha : a.length = n) (hb : b.length = n) (hc : c.length = n) : (xor3 a b c).length = n := by
  unfold xor3; simp [ha, hb, hc]

theorem byte32_xor (x y : UInt8) : (x ^^^ y).toUInt32 = x.toUInt32 ^^^ y.toUInt32 := by
  apply u32_ext; intro i hi
  rw [UInt32.toBitVec_xor, BitVec.getLsbD_xor, UInt8.toBitVec_toUInt32, UInt8.toBitVec_toUInt32, UInt8.toBitVec_toUInt32, BitVec.getLsbD_setWidth, BitVec.getLsbD_setWidth, BitVec.getLsbD_setWidth, UInt8.toBitVec_xor, BitVec.getLsbD_xor]
  simp [hi]

theorem crcByte_xor (n m : UInt32) (x y : UInt8) : crcByte (n ^^^ m) (x ^^^ y) = crcByte n x ^^^ crcByte m y := by
  rw [crcByte_eq, crcByte_eq, crcByte_eq, ← crcBits_xor, byte32_xor]
  congr 1
  ac_rfl

theorem crcFold_xor : ∀ (a b : List UInt8) (n m : UInt32), a.length = b.length → crcFold (n ^^^ m) (List.zipWith (· ^^^ ·) a b) = crcFold n a ^^^ crcFold m b
  | [], [], _, _, _ => rfl
  | x :: a, y :: b, n, m, h => by
    show crcFold (crcByte (n ^^^ m) (x ^^^ y)) (List.zipWith (· ^^^ ·) a b) = crcFold (crcByte n x) a ^^^ crcFold (crcByte m y) b
    rw [crcByte_xor]
    exact crcFold_xor a b _ _ (by simpa using h)
  | [], _ :: _, _, _, h => by simp at h
  | _ :: _, [], _, _, h => by simp at h

theorem not_xor3 (x y z : UInt32) : ~~~ (x ^^^ y ^^^ z) = (~~~ x) ^^^ (~~~ y) ^^^ (~~~ z) := by
  apply u32_ext; intro i hi
  simp only [UInt32.toBitVec_not, UInt32.toBitVec_xor, BitVec.getLsbD_not, BitVec.getLsbD_xor, decide_eq_true hi, Bool.true_and]
  cases x.toBitVec.getLsbD i <;> cases y.toBitVec.getLsbD i <;> cases z.toBitVec.getLsbD i <;> rfl

theorem crcSum_xor3 (a b c : List UInt8) (n : Nat) (ha : a.length = n) (hb : b.length = n) (hc : c.length = n) : crcSum (xor3 a b c) = crcSum a ^^^ crcSum b ^^^ crcSum c := by
  unfold crcSum crcBehind xor3
  have e : ∀ m : UInt32, m = m ^^^ m ^^^ m := by intro m; rw [UInt32.xor_self, UInt32.zero_xor]
  conv => lhs; rw [e (~~~ (0 : UInt32))]
  rw [crcFold_xor _ _ _ _ (by simp [ha, hb, hc]), crcFold_xor _ _ _ _ (by rw [ha, hb]), not_xor3]

theorem xor3_get (a b c : List UInt8) (i : Nat) (ha : i < a.length) (hb : i < b.length) (hc : i < c.length) : (xor3 a b c)[i]? = some (a[i] ^^^ b[i] ^^^ c[i]) := by
  unfold xor3; simp [List.getElem?_zipWith, ha, hb, hc]

/-- the row as far as it is made -/
def madeTo (x : List UInt8) (i : Nat) : List UInt8 := x.take i ++ List.replicate (x.length - i) 0
theorem madeTo_set (x : List UInt8) (i : Nat) (h : i < x.length) : (madeTo x i).set i x[i] = madeTo x (i + 1) := by
  unfold madeTo
  have e : x.length - i = (x.length - (i + 1)) + 1 := by omega
  have e2 : (x.take i).length = i := by rw [List.length_take]; omega
  rw [List.set_append_right _ _ (by rw [e2]; exact Nat.le_refl _), e2, Nat.sub_self, e, List.replicate_succ, List.set_cons_zero, List.take_succ_eq_append_getElem h, List.append_assoc]
  rfl
theorem madeTo_all (x : List UInt8) : madeTo x x.length = x := by simp [madeTo]
theorem madeTo_zero (x : List UInt8) : madeTo x 0 = List.replicate x.length 0 := by simp [madeTo]
theorem madeTo_length (x : List UInt8) (i : Nat) (h : i ≤ x.length) : (madeTo x i).length = x.length := by simp [madeTo]; omega
end Go.Gv
