/- Maps as bytes, as plain functions. -/
import Derived.Test.YtnekhjiigijpjaaBmPlain2
namespace Go.Gv
set_option linter.unusedSimpArgs false
set_option linter.unusedVariables false

def orBit (l : List UInt8) (i : Nat) : List UInt8 := l.set (2 + i / 8) (l.getD (2 + i / 8) 0 ||| (1 <<< UInt8.ofNat (i % 8)))
def headB (p : Nat) : List UInt8 := [UInt8.ofNat (p / 256), UInt8.ofNat p] ++ List.replicate ((p + 7) / 8) 0
def putTo (m : BM) : Nat → List UInt8
  | 0 => headB m.p.toNat
  | i + 1 => if useAt m.u i then orBit (putTo m i) i else putTo m i
def putM (m : BM) : List UInt8 := if rightM m then putTo m 512 else []
theorem headB_length (p : Nat) : (headB p).length = 2 + (p + 7) / 8 := by simp [headB]; omega
theorem putTo_length (m : BM) : ∀ i, (putTo m i).length = 2 + (m.p.toNat + 7) / 8
  | 0 => headB_length _
  | i + 1 => by
    rw [putTo]; split
    · rw [orBit, List.length_set, putTo_length m i]
    · exact putTo_length m i
theorem used_lt {m : BM} (h : rightM m = true) {i : Nat} (hi : i < 512) (hu : useAt m.u i = true) : (i : Int) < m.p := by
  have hr := rightM_spec h
  have hf := hr.2.2 i hi
  unfold fitAt at hf
  rw [hu] at hf
  by_cases hp : m.p ≤ (i : Int)
  · rw [decide_eq_true hp] at hf; simp at hf
  · omega
theorem putTo_stop {m : BM} (h : rightM m = true) : ∀ i, m.p.toNat ≤ i → i ≤ 512 → putTo m i = putTo m m.p.toNat
  | 0, h1, _ => by rw [Nat.le_zero.1 h1]
  | i + 1, h1, h2 => by
    by_cases e : m.p.toNat = i + 1
    · rw [e]
    · have ih := putTo_stop h i (by omega) (by omega)
      rw [putTo]
      cases hu : useAt m.u i
      · rw [if_neg (by simp)]; exact ih
      · have := used_lt h (by omega) hu
        omega
end Go.Gv
