import Derived.Test.YtckdlfbbkemklaaZB
import Derived.Test.YtckdlfbbkemklaaZCrcWalk
/- disk: what its functions compute, in plain terms. -/
namespace Go.Proofs.Ytckdlfbbkemklaa
open Go Go.RowKit Go.Gv
set_option linter.unusedVariables false
set_option linter.unusedSimpArgs false

/-- a write that waits: its sector, the slice that holds its bytes, these bytes -/
structure WW where
  i : Nat
  v : Value
  b : List UInt8
def WL (W : List WW) : List Value := W.flatMap fun x => [.int .i64 (x.i : Int), x.v]
def WT (W : List WW) : List (Value × Nat × List Value) := W.map fun x => (x.v, x.b.length, B8 x.b)
theorem WL_length : ∀ W, (WL W).length = W.length * 2
  | [] => rfl
  | x :: W => by
    have := WL_length W
    simp only [WL, List.flatMap_cons, List.length_append, List.length_cons, List.length_nil] at this ⊢; omega
theorem WL_drop : ∀ (W : List WW) (k : Nat), (WL W).drop (k * 2) = WL (W.drop k)
  | W, 0 => rfl
  | [], k + 1 => by simp [WL]
  | x :: W, k + 1 => by
    rw [show (k + 1) * 2 = k * 2 + 2 by omega, ← List.drop_drop, List.drop_drop, Nat.add_comm, ← List.drop_drop]
    exact WL_drop W k
theorem WL_two (W : List WW) (k : Nat) (h : k < W.length) : ((WL W).drop (k * 2)).take 2 = [.int .i64 ((W[k]'h).i : Int), (W[k]'h).v] := by
  rw [WL_drop, List.drop_eq_getElem_cons h]; rfl
theorem WL_get0 (W : List WW) (k : Nat) (h : k < W.length) : (WL W)[k * 2 + 0]? = some (.int .i64 ((W[k]'h).i : Int)) := by
  have := WL_drop W k
  have e : ((WL W).drop (k * 2))[0]? = (WL W)[k * 2 + 0]? := List.getElem?_drop
  rw [← e, this, List.drop_eq_getElem_cons h]; rfl
theorem WL_get1 (W : List WW) (k : Nat) (h : k < W.length) : (WL W)[k * 2 + 1]? = some (W[k]'h).v := by
  have := WL_drop W k
  have e : ((WL W).drop (k * 2))[1]? = (WL W)[k * 2 + 1]? := List.getElem?_drop
  rw [← e, this, List.drop_eq_getElem_cons h]; rfl
theorem WL_append (V W : List WW) : WL (V ++ W) = WL V ++ WL W := by simp [WL]
theorem WT_append (V W : List WW) : WT (V ++ W) = WT V ++ WT W := by simp [WT]
theorem WT_mem (W : List WW) (k : Nat) (h : k < W.length) : ((W[k]'h).v, (W[k]'h).b.length, B8 (W[k]'h).b) ∈ WT W := List.mem_map.2 ⟨_, List.getElem_mem h, rfl⟩
/-- each waits for a sector that is there, and has 64 bytes -/
def WOk (N : Nat) (W : List WW) : Prop := ∀ x ∈ W, x.i * 64 + 64 ≤ N ∧ x.b.length = 64
theorem WOk.nil (N : Nat) : WOk N [] := fun x hx => by simp at hx
theorem WOk.get {N : Nat} {W : List WW} (h : WOk N W) {k : Nat} (hk : k < W.length) : (W[k]'hk).i * 64 + 64 ≤ N ∧ (W[k]'hk).b.length = 64 := h _ (List.getElem_mem hk)
theorem WOk.add {N : Nat} {W : List WW} (h : WOk N W) {i : Nat} {v : Value} {b : List UInt8} (hi : i * 64 + 64 ≤ N) (hb : b.length = 64) : WOk N (W ++ [⟨i, v, b⟩]) := fun x hx => by
  rcases List.mem_append.1 hx with hx | hx
  · exact h x hx
  · simp at hx; subst hx; exact ⟨hi, hb⟩
/-- may: the error -/
def mayE (off : Bool) (N : Nat) (i : Int) : Nat := if off then 2 else if i < 0 ∨ ((N / 64 : Nat) : Int) ≤ i then 1 else 0
/-- put bytes at a place -/
def putAt (A : List UInt8) (at_ : Nat) (b : List UInt8) : List UInt8 := A.take at_ ++ b ++ A.drop (at_ + b.length)
theorem putAt_length (A : List UInt8) (at_ : Nat) (b : List UInt8) (h : at_ + b.length ≤ A.length) : (putAt A at_ b).length = A.length := by simp [putAt]; omega
theorem putAt_B8 (A : List UInt8) (at_ : Nat) (b : List UInt8) (n : Nat) (hn : n = b.length) : (B8 A).take at_ ++ B8 b ++ (B8 A).drop (at_ + n) = B8 (putAt A at_ b) := by
  subst hn; simp [B8, putAt, List.map_take, List.map_drop]
/-- the last write that waits for a sector, of the first k -/
def lastW (W : List WW) (i : Int) : Nat → Option (List UInt8)
  | 0 => none
  | k + 1 => match W[k]? with
    | some x => if (x.i : Int) = i then some x.b else lastW W i k
    | none => lastW W i k
theorem lastW_hit {W : List WW} {i : Int} {k : Nat} (h : k < W.length) (e : ((W[k]'h).i : Int) = i) : lastW W i (k + 1) = some (W[k]'h).b := by
  rw [lastW, List.getElem?_eq_getElem h]; simp [e]
theorem lastW_miss {W : List WW} {i : Int} {k : Nat} (h : k < W.length) (e : ¬ ((W[k]'h).i : Int) = i) : lastW W i (k + 1) = lastW W i k := by
  rw [lastW, List.getElem?_eq_getElem h]; simp [e]
def readM (A : List UInt8) (W : List WW) (i : Int) : List UInt8 := (lastW W i W.length).getD ((A.drop (i.toNat * 64)).take 64)
/-- all that waits is done -/
def flushM (A : List UInt8) (W : List WW) : List UInt8 := W.foldl (fun A x => putAt A (x.i * 64) x.b) A
theorem flush_length {N : Nat} : ∀ (W : List WW) (A : List UInt8), WOk N W → A.length = N → (flushM A W).length = N
  | [], A, _, h => h
  | x :: W, A, hW, h => by
    have hx := hW x (List.mem_cons_self ..)
    exact flush_length W _ (fun y hy => hW y (List.mem_cons_of_mem _ hy)) (by rw [putAt_length _ _ _ (by omega), h])
/-- one write by its fate, of the first k parts -/
def keepTo (A : List UInt8) (i : Nat) (b : List UInt8) (atoms : UInt8) : Nat → List UInt8
  | 0 => A
  | k + 1 => if bit8' atoms k then putAt (keepTo A i b atoms k) (i * 64 + k * 8) ((b.drop (k * 8)).take 8) else keepTo A i b atoms k
where bit8' (x : UInt8) (j : Nat) : Bool := decide (Go.bits .and .u8 ((x.toNat : Int) / 2 ^ min (((j : Nat) : Int)).toNat IntKind.u8.bits) 1 = 1)
theorem keepTo_length {A : List UInt8} {i : Nat} {b : List UInt8} {atoms : UInt8} (hi : i * 64 + 64 ≤ A.length) (hb : b.length = 64) : ∀ k, k ≤ 8 → (keepTo A i b atoms k).length = A.length
  | 0, _ => rfl
  | k + 1, hk => by
    have ih := keepTo_length hi hb k (by omega) (atoms := atoms)
    have hl : ((b.drop (k * 8)).take 8).length = 8 := by simp; omega
    rw [keepTo]; split
    · rw [putAt_length _ _ _ (by omega), ih]
    · exact ih
def keepM (A : List UInt8) (i : Nat) (b : List UInt8) (f : Bool × UInt8) : List UInt8 := if f.1 then keepTo A i b f.2 8 else A
theorem keepM_length {A : List UInt8} {i : Nat} {b : List UInt8} {f : Bool × UInt8} (hi : i * 64 + 64 ≤ A.length) (hb : b.length = 64) : (keepM A i b f).length = A.length := by
  unfold keepM; split
  · exact keepTo_length hi hb 8 (Nat.le_refl _)
  · rfl
def crashTo (A : List UInt8) (W : List WW) (F : List (Bool × UInt8)) : Nat → List UInt8
  | 0 => A
  | k + 1 => match W[k]?, F[k]? with
    | some x, some f => keepM (crashTo A W F k) x.i x.b f
    | _, _ => crashTo A W F k
theorem crashTo_length {A : List UInt8} {W : List WW} {F : List (Bool × UInt8)} (hW : WOk A.length W) : ∀ k, (crashTo A W F k).length = A.length
  | 0 => rfl
  | k + 1 => by
    have ih := crashTo_length hW k (F := F)
    rw [crashTo]; split
    · rename_i x f hx hf
      obtain ⟨h1, h2⟩ := hW x (List.mem_of_getElem? hx)
      rw [keepM_length (by omega) h2, ih]
    · exact ih
def crashM (A : List UInt8) (W : List WW) (F : List (Bool × UInt8)) : List UInt8 := crashTo A W F W.length
def FL (F : List (Bool × UInt8)) : List Value := F.flatMap fun f => [.bool f.1, .int .u8 (f.2.toNat : Int)]
theorem FL_length : ∀ F, (FL F).length = F.length * 2
  | [] => rfl
  | x :: W => by
    have := FL_length W
    simp only [FL, List.flatMap_cons, List.length_append, List.length_cons, List.length_nil] at this ⊢; omega
theorem FL_drop : ∀ (F : List (Bool × UInt8)) (k : Nat), (FL F).drop (k * 2) = FL (F.drop k)
  | F, 0 => rfl
  | [], k + 1 => by simp [FL]
  | x :: F, k + 1 => by
    rw [show (k + 1) * 2 = k * 2 + 2 by omega, ← List.drop_drop, List.drop_drop, Nat.add_comm, ← List.drop_drop]
    exact FL_drop F k
theorem FL_two (F : List (Bool × UInt8)) (k : Nat) (h : k < F.length) : ((FL F).drop (k * 2)).take 2 = [.bool (F[k]'h).1, .int .u8 ((F[k]'h).2.toNat : Int)] := by
  rw [FL_drop, List.drop_eq_getElem_cons h]; rfl
end Go.Proofs.Ytckdlfbbkemklaa
