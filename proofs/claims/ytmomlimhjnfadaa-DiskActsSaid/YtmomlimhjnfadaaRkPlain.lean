/- disk: the reference's disk, in plain terms, beside the program's. -/
import Derived.Test.YtmomlimhjnfadaaDkPlain
namespace Go.Proofs.Ytmomlimhjnfadaa
open Go Go.RowKit Go.Gv
set_option linter.unusedVariables false
set_option linter.unusedSimpArgs false

abbrev TXT := Value × Nat × List Value
/-- sectors: each a slice and its bytes -/
abbrev SECS := List (Value × List UInt8)
def SV (S : SECS) : List Value := S.map (·.1)
def flatS (S : SECS) : List UInt8 := (S.map (·.2)).flatten
def SOk (l : List TXT) (S : SECS) : Prop := ∀ s ∈ S, s.2.length = 64 ∧ (s.1, 64, B8 s.2) ∈ l
def ROk (n : Nat) (l : List TXT) (R : List WW) : Prop := ∀ x ∈ R, x.i < n ∧ x.b.length = 64 ∧ (x.v, 64, B8 x.b) ∈ l
theorem SOk.more {l : List TXT} {S : SECS} (h : SOk l S) (t : TXT) : SOk (l ++ [t]) S := fun s hs => ⟨(h s hs).1, List.mem_append_left _ (h s hs).2⟩
theorem ROk.more {n : Nat} {l : List TXT} {R : List WW} (h : ROk n l R) (t : TXT) : ROk n (l ++ [t]) R := fun x hx => ⟨(h x hx).1, (h x hx).2.1, List.mem_append_left _ (h x hx).2.2⟩
theorem SOk.get {l : List TXT} {S : SECS} (h : SOk l S) {i : Nat} (hi : i < S.length) : (S[i]'hi).2.length = 64 ∧ ((S[i]'hi).1, 64, B8 (S[i]'hi).2) ∈ l := h _ (List.getElem_mem hi)
theorem ROk.get {n : Nat} {l : List TXT} {R : List WW} (h : ROk n l R) {i : Nat} (hi : i < R.length) : (R[i]'hi).i < n ∧ (R[i]'hi).b.length = 64 ∧ ((R[i]'hi).v, 64, B8 (R[i]'hi).b) ∈ l := h _ (List.getElem_mem hi)
theorem SOk.set {l : List TXT} {S : SECS} (h : SOk l S) (i : Nat) {v : Value} {b : List UInt8} (hb : b.length = 64) (hm : (v, 64, B8 b) ∈ l) : SOk l (S.set i (v, b)) := fun s hs => by
  rcases List.mem_or_eq_of_mem_set hs with hs | rfl
  · exact h s hs
  · exact ⟨hb, hm⟩
theorem SOk.snoc {l : List TXT} {S : SECS} (h : SOk l S) {v : Value} {b : List UInt8} (hb : b.length = 64) (hm : (v, 64, B8 b) ∈ l) : SOk l (S ++ [(v, b)]) := fun s hs => by
  rcases List.mem_append.1 hs with hs | hs
  · exact h s hs
  · simp at hs; subst hs; exact ⟨hb, hm⟩
theorem ROk.snoc {n : Nat} {l : List TXT} {R : List WW} (h : ROk n l R) {x : WW} (hi : x.i < n) (hb : x.b.length = 64) (hm : (x.v, 64, B8 x.b) ∈ l) : ROk n l (R ++ [x]) := fun y hy => by
  rcases List.mem_append.1 hy with hy | hy
  · exact h y hy
  · simp at hy; subst hy; exact ⟨hi, hb, hm⟩
theorem SV_get (S : SECS) (i : Nat) (h : i < S.length) : (SV S)[i]? = some (S[i]'h).1 := by simp [SV, h]
theorem SV_length (S : SECS) : (SV S).length = S.length := by simp [SV]
theorem SV_set (S : SECS) (i : Nat) (v : Value) (b : List UInt8) : (SV S).set i v = SV (S.set i (v, b)) := by simp [SV, List.map_set]
theorem flat_nil : flatS [] = [] := rfl
theorem flat_cons (s : Value × List UInt8) (S : SECS) : flatS (s :: S) = s.2 ++ flatS S := by simp [flatS]
theorem flat_len {l : List TXT} : ∀ {S : SECS}, SOk l S → (flatS S).length = S.length * 64
  | [], _ => rfl
  | s :: S, h => by
    have := flat_len (S := S) (fun x hx => h x (List.mem_cons_of_mem _ hx))
    rw [flat_cons, List.length_append, (h s (List.mem_cons_self ..)).1, this, List.length_cons]; omega
theorem flat_take {l : List TXT} : ∀ {S : SECS}, SOk l S → ∀ i, (h : i < S.length) → ((flatS S).drop (i * 64)).take 64 = (S[i]'h).2
  | s :: S, hS, 0, _ => by
    rw [flat_cons, Nat.zero_mul, List.drop_zero]
    show (s.2 ++ flatS S).take 64 = s.2
    rw [← (hS s (List.mem_cons_self ..)).1, List.take_left]
  | s :: S, hS, i + 1, h => by
    have h64 := (hS s (List.mem_cons_self ..)).1
    rw [flat_cons, show (i + 1) * 64 = s.2.length + i * 64 by omega, ← List.drop_drop, List.drop_left]
    exact flat_take (S := S) (fun x hx => hS x (List.mem_cons_of_mem _ hx)) i (by simpa using h)
theorem putAt_right (P A : List UInt8) (k : Nat) (b : List UInt8) : putAt (P ++ A) (P.length + k) b = P ++ putAt A k b := by
  unfold putAt
  rw [List.take_append, List.take_of_length_le (by omega), Nat.add_sub_cancel_left, Nat.add_assoc, ← List.drop_drop, List.drop_left, List.append_assoc, List.append_assoc, List.append_assoc]
theorem flat_set {l : List TXT} : ∀ {S : SECS}, SOk l S → ∀ i, i < S.length → ∀ (v : Value) (b : List UInt8), b.length = 64 → flatS (S.set i (v, b)) = putAt (flatS S) (i * 64) b
  | s :: S, hS, 0, _, v, b, hb => by
    have h64 := (hS s (List.mem_cons_self ..)).1
    rw [List.set_cons_zero, flat_cons, flat_cons, Nat.zero_mul, putAt, List.take_zero, List.nil_append, Nat.zero_add, hb, ← h64, List.drop_left]
  | s :: S, hS, i + 1, h, v, b, hb => by
    have h64 := (hS s (List.mem_cons_self ..)).1
    rw [List.set_cons_succ, flat_cons, flat_cons, flat_set (S := S) (fun x hx => hS x (List.mem_cons_of_mem _ hx)) i (by simpa using h) v b hb, show (i + 1) * 64 = s.2.length + i * 64 by omega, putAt_right]
/-- which of two texts' bytes, of the first k -/
def mergeTo (s b : List UInt8) (at_ : UInt8) (k : Nat) : List UInt8 := (List.range 64).map fun j => if decide (j < k) && keepTo.bit8' at_ (j / 8) then b.getD j 0 else s.getD j 0
theorem mergeTo_length (s b : List UInt8) (at_ : UInt8) (k : Nat) : (mergeTo s b at_ k).length = 64 := by simp [mergeTo]
theorem mergeTo_zero (s b : List UInt8) (at_ : UInt8) (hs : s.length = 64) : mergeTo s b at_ 0 = s := by
  apply List.ext_getElem
  · rw [mergeTo_length, hs]
  · intro i h1 h2
    simp [mergeTo, List.getD_eq_getElem?_getD, List.getElem?_eq_getElem h2]
theorem mergeTo_get (s b : List UInt8) (at_ : UInt8) (k j : Nat) (hj : j < 64) : (mergeTo s b at_ k).getD j 0 = if decide (j < k) && keepTo.bit8' at_ (j / 8) then b.getD j 0 else s.getD j 0 := by
  rw [List.getD_eq_getElem?_getD, mergeTo, List.getElem?_map, List.getElem?_range hj]; rfl
theorem mergeTo_yes (s b : List UInt8) (at_ : UInt8) (k : Nat) (hk : k < 64) (h : keepTo.bit8' at_ (k / 8) = true) : (mergeTo s b at_ k).set k (b.getD k 0) = mergeTo s b at_ (k + 1) := by
  apply List.ext_getElem
  · simp [mergeTo_length]
  · intro i h1 h2
    rw [mergeTo_length] at h2
    rw [List.getElem_set]
    simp only [mergeTo, List.getElem_map, List.getElem_range]
    by_cases e : k = i
    · subst e; simp [h]
    · rw [if_neg e]
      have : decide (i < k) = decide (i < k + 1) := decide_eq_decide.2 (by omega)
      rw [this]
theorem mergeTo_no (s b : List UInt8) (at_ : UInt8) (k : Nat) (h : keepTo.bit8' at_ (k / 8) = false) : mergeTo s b at_ k = mergeTo s b at_ (k + 1) := by
  apply List.map_congr_left
  intro i hi
  by_cases e : i = k
  · subst e; simp [h]
  · have : decide (i < k) = decide (i < k + 1) := decide_eq_decide.2 (by omega)
    rw [this]
theorem putAt_get (A : List UInt8) (p : Nat) (b : List UInt8) (h : p + b.length ≤ A.length) (j : Nat) : (putAt A p b).getD j 0 = if p ≤ j ∧ j < p + b.length then b.getD (j - p) 0 else A.getD j 0 := by
  unfold putAt
  simp only [List.getD_eq_getElem?_getD, List.getElem?_append, List.length_append, List.length_take, List.getElem?_take, List.getElem?_drop]
  have e : min p A.length = p := by omega
  rw [e]
  by_cases h1 : j < p
  · rw [if_pos (by omega), if_pos h1, if_pos h1, if_neg (by omega)]
  · by_cases h2 : j < p + b.length
    · rw [if_pos h2, if_neg h1, if_pos (by omega)]
    · rw [if_neg h2, if_neg (by omega), show p + b.length + (j - (p + b.length)) = j by omega]
theorem ext_getD {a b : List UInt8} (hl : a.length = b.length) (h : ∀ j, j < a.length → a.getD j 0 = b.getD j 0) : a = b := by
  apply List.ext_getElem hl
  intro i h1 h2
  have := h i h1
  rwa [List.getD_eq_getElem?_getD, List.getD_eq_getElem?_getD, List.getElem?_eq_getElem h1, List.getElem?_eq_getElem h2] at this
theorem keepTo_get {A : List UInt8} {i : Nat} {b : List UInt8} {at_ : UInt8} (hi : i * 64 + 64 ≤ A.length) (hb : b.length = 64) : ∀ k, k ≤ 8 → ∀ j, (keepTo A i b at_ k).getD j 0 = if i * 64 ≤ j ∧ j < i * 64 + k * 8 ∧ keepTo.bit8' at_ ((j - i * 64) / 8) = true then b.getD (j - i * 64) 0 else A.getD j 0
  | 0, _, j => by rw [keepTo, if_neg (by omega)]
  | k + 1, hk, j => by
    have ih := keepTo_get hi hb k (by omega) (at_ := at_) j
    have hl : ((b.drop (k * 8)).take 8).length = 8 := by rw [List.length_take, List.length_drop]; omega
    have hkl := keepTo_length hi hb k (by omega) (atoms := at_)
    rw [keepTo]
    by_cases hbit : keepTo.bit8' at_ k = true
    · rw [if_pos hbit, putAt_get _ _ _ (by omega), hl, ih]
      by_cases h1 : i * 64 + k * 8 ≤ j ∧ j < i * 64 + k * 8 + 8
      · rw [if_pos h1, if_pos ⟨by omega, by omega, by rw [show (j - i * 64) / 8 = k by omega]; exact hbit⟩]
        rw [List.getD_eq_getElem?_getD, List.getElem?_take, if_pos (by omega), List.getElem?_drop, show k * 8 + (j - (i * 64 + k * 8)) = j - i * 64 by omega, ← List.getD_eq_getElem?_getD]
      · rw [if_neg h1]
        by_cases h2 : i * 64 ≤ j ∧ j < i * 64 + k * 8 ∧ keepTo.bit8' at_ ((j - i * 64) / 8) = true
        · rw [if_pos h2, if_pos ⟨h2.1, by omega, h2.2.2⟩]
        · rw [if_neg h2, if_neg (fun h3 => h2 ⟨h3.1, by omega, h3.2.2⟩)]
    · rw [if_neg hbit, ih]
      by_cases h2 : i * 64 ≤ j ∧ j < i * 64 + k * 8 ∧ keepTo.bit8' at_ ((j - i * 64) / 8) = true
      · rw [if_pos h2, if_pos ⟨h2.1, by omega, h2.2.2⟩]
      · rw [if_neg h2, if_neg]
        rintro ⟨h3, h4, h5⟩
        by_cases h6 : j < i * 64 + k * 8
        · exact h2 ⟨h3, h6, h5⟩
        · rw [show (j - i * 64) / 8 = k by omega] at h5
          exact hbit h5
theorem keepM_merge {A : List UInt8} {i : Nat} {b : List UInt8} {at_ : UInt8} (hi : i * 64 + 64 ≤ A.length) (hb : b.length = 64) : keepM A i b (true, at_) = putAt A (i * 64) (mergeTo ((A.drop (i * 64)).take 64) b at_ 64) := by
  show keepTo A i b at_ 8 = _
  have hl := keepTo_length hi hb 8 (Nat.le_refl _) (atoms := at_)
  apply ext_getD
  · rw [hl, putAt_length _ _ _ (by rw [mergeTo_length]; omega)]
  · intro j hj
    rw [keepTo_get hi hb 8 (Nat.le_refl _), putAt_get _ _ _ (by rw [mergeTo_length]; omega), mergeTo_length]
    by_cases h1 : i * 64 ≤ j ∧ j < i * 64 + 64
    · rw [if_pos h1, mergeTo_get _ _ _ _ _ (by omega), decide_eq_true (by omega), Bool.true_and]
      by_cases h2 : keepTo.bit8' at_ ((j - i * 64) / 8) = true
      · rw [if_pos ⟨h1.1, by omega, h2⟩, if_pos h2]
      · rw [if_neg (fun h => h2 h.2.2), if_neg h2, List.getD_eq_getElem?_getD, List.getD_eq_getElem?_getD, List.getElem?_take, if_pos (by omega), List.getElem?_drop, show i * 64 + (j - i * 64) = j by omega]
    · rw [if_neg h1, if_neg (fun h => h1 ⟨h.1, by omega⟩)]
end Go.Proofs.Ytmomlimhjnfadaa
