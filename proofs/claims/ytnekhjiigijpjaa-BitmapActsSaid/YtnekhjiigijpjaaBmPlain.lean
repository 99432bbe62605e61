/- Maps of pages, as plain functions. -/
namespace Go.Gv

/-- pages and which are in use -/
structure BM where
  p : Int
  u : List Bool

def useAt (u : List Bool) (i : Nat) : Bool := u.getD i false
/-- what is asked of one page -/
def fitAt (m : BM) (i : Nat) : Bool := !(decide (i < 2) && !useAt m.u i || decide (m.p ≤ i) && useAt m.u i)
def rightM (m : BM) : Bool := decide (8 ≤ m.p) && decide (m.p ≤ 512) && (List.range 512).all (fitAt m)
def newM (p : Int) : BM := ⟨min (max p 8) 512, [true, true] ++ List.replicate 510 false⟩
def zeroM : BM := ⟨0, List.replicate 512 false⟩

/-- how many are free ahead of page k -/
def freeTo (m : BM) : Nat → Nat
  | 0 => 0
  | k + 1 => freeTo m k + if decide ((k : Int) < m.p) && !useAt m.u k then 1 else 0
def freeM (m : BM) : Nat := freeTo m 512

/-- is page i taken in one of both? -/
def bothAt (m o : BM) (i : Nat) : Bool := useAt m.u i || useAt o.u i
/-- how many are free side by side up to page k -/
def runTo (m o : BM) : Nat → Nat
  | 0 => 0
  | k + 1 => if bothAt m o k then 0 else runTo m o k + 1
def bestTo (m o : BM) : Nat → Nat
  | 0 => 0
  | k + 1 => max (bestTo m o k) (runTo m o (k + 1))
def alikeM (m o : BM) : Bool := rightM m && rightM o && decide (m.p = o.p)
def runM (m o : BM) : Nat := if alikeM m o then bestTo m o m.p.toNat else 0
/-- n pages from one on, turned -/
def setFrom (u : List Bool) (b : Bool) (at_ : Nat) : Nat → List Bool
  | 0 => u
  | k + 1 => (setFrom u b at_ k).set (at_ + k) b
theorem setFrom_length (u : List Bool) (b : Bool) (a : Nat) : ∀ k, (setFrom u b a k).length = u.length
  | 0 => rfl
  | k + 1 => by simp [setFrom, setFrom_length u b a k]
/-- the first place with n side by side, from page k on; 'f' pages are left -/
def seek (m o : BM) (n : Int) : Nat → Nat → Option Nat
  | 0, _ => none
  | f + 1, k => if (runTo m o (k + 1) : Int) = n then some (k + 1 - n.toNat) else seek m o n f (k + 1)
def takeM (m o : BM) (n : Int) : BM × Int × Nat :=
  if !alikeM m o || decide (n < 1) then (zeroM, 0, 1)
  else match seek m o n m.p.toNat 0 with
    | some at_ => (⟨m.p, setFrom m.u true at_ n.toNat⟩, at_, 0)
    | none => (zeroM, 0, 5)
/-- are n pages from one on in use? -/
def allUsed (m : BM) (at_ n : Nat) : Bool := (List.range n).all fun i => useAt m.u (at_ + i)
def giveM (m : BM) (at_ n : Int) : BM × Nat :=
  if !rightM m || decide (n < 0) || decide (at_ < 2) || decide (m.p < at_) || decide (m.p - at_ < n) then (zeroM, 1)
  else if allUsed m at_.toNat n.toNat then (⟨m.p, setFrom m.u false at_.toNat n.toNat⟩, 0) else (zeroM, 10)
theorem fit_all {m : BM} (h : ∀ j, j < 512 → fitAt m j = true) : (List.range 512).all (fitAt m) = true := List.all_eq_true.2 (fun j hj => h j (List.mem_range.1 hj))
theorem fit_none {m : BM} {i : Nat} (hi : i < 512) (h : fitAt m i = false) : (List.range 512).all (fitAt m) = false := by
  cases hh : (List.range 512).all (fitAt m)
  · rfl
  · rw [List.all_eq_true.1 hh i (List.mem_range.2 hi)] at h; cases h
end Go.Gv
