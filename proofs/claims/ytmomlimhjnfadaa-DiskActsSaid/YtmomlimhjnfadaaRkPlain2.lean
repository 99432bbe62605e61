/- disk: both disks beside each other, in plain terms. -/
import Derived.Test.YtmomlimhjnfadaaRkPlain
import Derived.Test.YtmomlimhjnfadaaDkWalk3
namespace Go.Proofs.Ytmomlimhjnfadaa
open Go Go.RowKit Go.Gv
set_option linter.unusedVariables false
set_option linter.unusedSimpArgs false

def rayE (off : Bool) (n : Nat) (i : Int) : Nat := if off then 2 else if i < 0 ∨ (n : Int) ≤ i then 1 else 0
theorem mayE_ray (off : Bool) (n : Nat) (i : Int) : mayE off (n * 64) i = rayE off n i := by
  unfold mayE rayE
  rw [Nat.mul_div_cancel _ (by omega)]
def strip (W : List WW) : List (Nat × List UInt8) := W.map fun x => (x.i, x.b)
theorem strip_length {W R : List WW} (h : strip W = strip R) : W.length = R.length := by
  have := congrArg List.length h
  simpa [strip] using this
theorem strip_get {W R : List WW} (h : strip W = strip R) (k : Nat) : (W[k]?).map (fun x => (x.i, x.b)) = (R[k]?).map (fun x => (x.i, x.b)) := by
  rw [← List.getElem?_map, ← List.getElem?_map]
  exact congrArg (fun l => l[k]?) h
theorem strip_append (W : List WW) (i : Nat) (v : Value) (b : List UInt8) : strip (W ++ [(⟨i, v, b⟩ : WW)]) = strip W ++ [(i, b)] := by simp [strip]
theorem lastW_strip {W R : List WW} (h : strip W = strip R) (i : Int) : ∀ k, lastW W i k = lastW R i k
  | 0 => rfl
  | k + 1 => by
    have ih := lastW_strip h i k
    have hg := strip_get h k
    rw [lastW, lastW, ih]
    cases hw : W[k]? with
    | none => cases hr : R[k]? with
      | none => rfl
      | some y => rw [hw, hr] at hg; cases hg
    | some x => cases hr : R[k]? with
      | none => rw [hw, hr] at hg; cases hg
      | some y =>
        rw [hw, hr] at hg
        simp only [Option.map_some, Option.some.injEq, Prod.mk.injEq] at hg
        simp only [hg.1, hg.2]
theorem readM_strip {W R : List WW} (h : strip W = strip R) (A : List UInt8) (i : Int) : readM A W i = readM A R i := by
  rw [readM, readM, lastW_strip h, strip_length h]
theorem flushM_strip {W R : List WW} (h : strip W = strip R) (A : List UInt8) : flushM A W = flushM A R := by
  have e : ∀ V : List WW, flushM A V = (strip V).foldl (fun A x => putAt A (x.1 * 64) x.2) A := fun V => by rw [strip, List.foldl_map]; rfl
  rw [e, e, h]
theorem crashTo_strip {W R : List WW} (h : strip W = strip R) (A : List UInt8) (F : List (Bool × UInt8)) : ∀ k, crashTo A W F k = crashTo A R F k
  | 0 => rfl
  | k + 1 => by
    have ih := crashTo_strip h A F k
    have hg := strip_get h k
    rw [crashTo, crashTo, ih]
    cases hw : W[k]? with
    | none => cases hr : R[k]? with
      | none => rfl
      | some y => rw [hw, hr] at hg; cases hg
    | some x => cases hr : R[k]? with
      | none => rw [hw, hr] at hg; cases hg
      | some y =>
        rw [hw, hr] at hg
        simp only [Option.map_some, Option.some.injEq, Prod.mk.injEq] at hg
        cases F[k]? with
        | none => rfl
        | some f => simp only [hg.1, hg.2]
theorem crashM_strip {W R : List WW} (h : strip W = strip R) (A : List UInt8) (F : List (Bool × UInt8)) : crashM A W F = crashM A R F := by
  rw [crashM, crashM, strip_length h, crashTo_strip h]
theorem WOk_strip {W R : List WW} (h : strip W = strip R) {N : Nat} (hR : WOk N R) : WOk N W := fun x hx => by
  have h1 : (x.i, x.b) ∈ strip W := List.mem_map.2 ⟨x, hx, rfl⟩
  rw [h] at h1
  obtain ⟨y, hy, e⟩ := List.mem_map.1 h1
  simp only [Prod.mk.injEq] at e
  rw [← e.1, ← e.2]
  exact hR y hy
theorem readM_flat {l : List TXT} {S : SECS} (hS : SOk l S) (R : List WW) (i : Int) (hi : i.toNat < S.length) : readM (flatS S) R i = (lastW R i R.length).getD (S.getD i.toNat (.slice none 0 0, [])).2 := by
  rw [readM, flat_take hS _ hi, List.getD_eq_getElem?_getD, List.getElem?_eq_getElem hi]; rfl

/-- Write: the error; what is so then -/
def wErr (off : Bool) (n : Nat) (till i : Int) (m : Nat) : Nat := if rayE off n i ≠ 0 then rayE off n i else if m ≠ 64 then 1 else if till = 0 then 2 else 0
def wGo (off : Bool) (n : Nat) (i : Int) (m : Nat) : Bool := decide (rayE off n i = 0) && decide (m = 64)
def wOff (off : Bool) (n : Nat) (till i : Int) (m : Nat) : Bool := off || (wGo off n i m && stopB till)
def wTill (off : Bool) (n : Nat) (till i : Int) (m : Nat) : Int := if wGo off n i m then stopT till else till
def wNew (off : Bool) (n : Nat) (till i : Int) (b : List UInt8) : List (Nat × List UInt8) := if wErr off n till i b.length = 0 then [(i.toNat, b)] else []
theorem w_case1 {off : Bool} {n : Nat} {till i : Int} {m : Nat} (h : rayE off n i ≠ 0) : wErr off n till i m = rayE off n i ∧ wOff off n till i m = off ∧ wTill off n till i m = till := by
  refine ⟨by rw [wErr, if_pos h], ?_, ?_⟩
  · rw [wOff, wGo, decide_eq_false h]; simp
  · rw [wTill, wGo, decide_eq_false h]; simp
theorem w_case2 {off : Bool} {n : Nat} {till i : Int} {m : Nat} (h : rayE off n i = 0) (hm : m ≠ 64) : wErr off n till i m = 1 ∧ wOff off n till i m = off ∧ wTill off n till i m = till := by
  refine ⟨by rw [wErr, if_neg (by omega), if_pos hm], ?_, ?_⟩
  · rw [wOff, wGo, decide_eq_false hm]; simp
  · rw [wTill, wGo, decide_eq_false hm]; simp
theorem w_case3 {off : Bool} {n : Nat} {till i : Int} {m : Nat} (h : rayE off n i = 0) (hm : m = 64) (ht : till = 0) : wErr off n till i m = 2 ∧ wOff off n till i m = true ∧ wTill off n till i m = -1 := by
  refine ⟨by rw [wErr, if_neg (by omega), if_neg (by omega), if_pos ht], ?_, ?_⟩
  · rw [wOff, wGo, decide_eq_true h, decide_eq_true hm, stopB, decide_eq_true ht]; simp
  · rw [wTill, wGo, decide_eq_true h, decide_eq_true hm, stopT, if_pos ht]; simp
theorem w_case4 {off : Bool} {n : Nat} {till i : Int} {m : Nat} (h : rayE off n i = 0) (hm : m = 64) (ht : till ≠ 0) : wErr off n till i m = 0 ∧ wOff off n till i m = off ∧ wTill off n till i m = stopT till := by
  refine ⟨by rw [wErr, if_neg (by omega), if_neg (by omega), if_neg ht], ?_, ?_⟩
  · rw [wOff, wGo, decide_eq_true h, decide_eq_true hm, stopB, decide_eq_false ht]; simp
  · rw [wTill, wGo, decide_eq_true h, decide_eq_true hm]; simp
/-- Flush: the error; what is so then -/
def fErr (off : Bool) (till : Int) : Nat := if off = true ∨ till = 0 then 2 else 0
def fTill (off : Bool) (till : Int) : Int := if off then till else stopT till
theorem stopT_ok {till : Int} (ht : -1 ≤ till ∧ till ≤ 9223372036854775807) : -1 ≤ stopT till ∧ stopT till ≤ 9223372036854775807 := by
  unfold stopT; split <;> omega
end Go.Proofs.Ytmomlimhjnfadaa
