import Derived.Test.YtckdlfbbkemklaaZDkWalk
import Derived.Test.YtckdlfbbkemklaaZB
/- A disk by what it says: its image, what waits, and all of it in one (plain terms). -/
namespace Go.Proofs.Ytckdlfbbkemklaa
open Go Go.RowKit Go.Gv
set_option linter.unusedVariables false
set_option linter.unusedSimpArgs false

/-- a disk: what stays, what waits, is it off, when it falls -/
structure DS where
  A : List UInt8
  W : List (Nat × List UInt8)
  off : Bool
  till : Int
def WP2 (W : List WW) : List (Nat × List UInt8) := W.map fun x => (x.i, x.b)
/-- all that waits done -/
def flW (A : List UInt8) (W : List (Nat × List UInt8)) : List UInt8 := W.foldl (fun A x => putAt A (x.1 * 64) x.2) A
def DS.V (S : DS) : List UInt8 := flW S.A S.W
def DS.ok (S : DS) : Prop := S.A.length ≤ 1000000 ∧ (-1 ≤ S.till ∧ S.till ≤ 9223372036854775807) ∧ ∀ x ∈ S.W, x.1 * 64 + 64 ≤ S.A.length ∧ x.2.length = 64
theorem flW_WP (A : List UInt8) (W : List WW) : flW A (WP2 W) = flushM A W := by
  unfold flW WP2 flushM
  rw [List.foldl_map]
theorem flW_length : ∀ (W : List (Nat × List UInt8)) (A : List UInt8), (∀ x ∈ W, x.1 * 64 + 64 ≤ A.length ∧ x.2.length = 64) → (flW A W).length = A.length
  | [], A, _ => rfl
  | x :: W, A, h => by
    have hx := h x (List.mem_cons_self ..)
    have hl := putAt_length A (x.1 * 64) x.2 (by omega)
    show (flW (putAt A (x.1 * 64) x.2) W).length = _
    rw [flW_length W _ (fun y hy => by rw [hl]; exact h y (List.mem_cons_of_mem _ hy)), hl]
theorem DS.V_length {S : DS} (h : S.ok) : S.V.length = S.A.length := flW_length _ _ h.2.2
theorem flW_append (A : List UInt8) (W W' : List (Nat × List UInt8)) : flW A (W ++ W') = flW (flW A W) W' := by unfold flW; rw [List.foldl_append]
/-- a sector -/
def sec (V : List UInt8) (i : Nat) : List UInt8 := (V.drop (i * 64)).take 64
theorem sec_put_same (A : List UInt8) (i : Nat) (b : List UInt8) (hi : i * 64 + 64 ≤ A.length) (hb : b.length = 64) : sec (putAt A (i * 64) b) i = b := by
  unfold sec putAt
  rw [List.append_assoc, List.drop_append_of_le_length (by rw [List.length_take]; omega), List.drop_of_length_le (by rw [List.length_take]; omega), List.nil_append, List.take_left' hb]
theorem sec_put_other (A : List UInt8) (i j : Nat) (b : List UInt8) (hi : i * 64 + 64 ≤ A.length) (hb : b.length = 64) (hj : j ≠ i) : sec (putAt A (i * 64) b) j = sec A j := by
  unfold sec
  apply List.ext_getElem?
  intro k
  rw [List.getElem?_take, List.getElem?_take]
  split
  · rename_i hk
    rw [List.getElem?_drop, List.getElem?_drop]
    unfold putAt
    have hlt : (A.take (i * 64)).length = i * 64 := by rw [List.length_take]; omega
    by_cases hji : j < i
    · have : j * 64 + k < i * 64 := by
        have : (j + 1) * 64 ≤ i * 64 := Nat.mul_le_mul_right 64 hji
        omega
      rw [List.append_assoc, List.getElem?_append_left (by omega), List.getElem?_take, if_pos this]
    · have : i * 64 + 64 ≤ j * 64 + k := by
        have : (i + 1) * 64 ≤ j * 64 := Nat.mul_le_mul_right 64 (by omega)
        omega
      rw [List.getElem?_append_right (by rw [List.length_append]; omega), List.getElem?_drop, List.length_append, hlt, hb]
      congr 1; omega
  · rfl
theorem lastW_sec {N : Nat} : ∀ (k : Nat) (W : List WW) (A : List UInt8), A.length = N → (∀ x ∈ W, x.i * 64 + 64 ≤ N ∧ x.b.length = 64) → ∀ i : Nat, k ≤ W.length → (lastW W (i : Int) k).getD (sec A i) = sec (flushM A (W.take k)) i
  | 0, W, A, _, _, i, _ => rfl
  | k + 1, W, A, hA, hW, i, hk => by
    have hlt : k < W.length := by omega
    have hx := hW _ (List.getElem_mem hlt)
    have hfl : (flushM A (W.take k)).length = N := flush_length _ _ (fun y hy => hW y (List.mem_of_mem_take hy)) hA
    have ht : flushM A (W.take (k + 1)) = putAt (flushM A (W.take k)) ((W[k]'hlt).i * 64) (W[k]'hlt).b := by
      rw [flushM, List.take_succ_eq_append_getElem hlt, List.foldl_append]; rfl
    rw [ht]
    by_cases e : (W[k]'hlt).i = i
    · rw [lastW_hit hlt (by omega), ← e, sec_put_same _ _ _ (by omega) hx.2]; rfl
    · rw [lastW_miss hlt (by omega), sec_put_other _ _ _ _ (by omega) hx.2 (by omega)]
      exact lastW_sec k W A hA hW i (by omega)
theorem readM_sec {A : List UInt8} {W : List WW} (hW : WOk A.length W) (i : Nat) : readM A W (i : Int) = sec (flushM A W) i := by
  have := lastW_sec W.length W A rfl hW i (Nat.le_refl _)
  rw [List.take_length] at this
  rw [← this]; rfl
/-- a write: the disk behind it, and the error -/
def DS.wr (S : DS) (i : Int) (b : List UInt8) : DS × Nat :=
  if mayE S.off S.A.length i ≠ 0 then (S, mayE S.off S.A.length i) else if b.length ≠ 64 then (S, 1) else if S.till = 0 then ({ S with off := true, till := -1 }, 2) else ({ S with W := S.W ++ [(i.toNat, b)], till := stopT S.till }, 0)
/-- sector by sector, up to an error -/
def DS.wrs (S : DS) (i : Int) : List (List UInt8) → DS × Nat
  | [] => (S, 0)
  | b :: bs => if (S.wr i b).2 = 0 then (S.wr i b).1.wrs (i + 1) bs else S.wr i b
theorem mayD_ok {off : Bool} {N : Nat} {i : Int} (h : mayE off N i = 0) : off = false ∧ 0 ≤ i ∧ i.toNat * 64 + 64 ≤ N := by
  unfold mayE at h
  cases off
  · simp only [Bool.false_eq_true, if_false] at h
    split at h
    · cases h
    · exact ⟨rfl, by omega, by omega⟩
  · simp at h
theorem mayD_of {N i : Nat} (h : i * 64 + 64 ≤ N) : mayE false N (i : Int) = 0 := by
  unfold mayE
  rw [if_neg (by simp), if_neg (by omega)]
theorem DS.wr_ok {S : DS} (h : S.ok) (i : Int) (b : List UInt8) : (S.wr i b).1.ok := by
  unfold DS.wr
  split
  · exact h
  · rename_i hm
    obtain ⟨_, h1, h2⟩ := mayD_ok (Classical.byContradiction hm)
    split
    · exact h
    · split
      · exact ⟨h.1, by simp, h.2.2⟩
      · refine ⟨h.1, ?_, fun x hx => ?_⟩
        · have := h.2.1
          show -1 ≤ stopT S.till ∧ stopT S.till ≤ 9223372036854775807
          unfold stopT; split <;> omega
        · rcases List.mem_append.1 hx with hx | hx
          · exact h.2.2 x hx
          · simp at hx; subst hx; exact ⟨h2, by show b.length = 64; omega⟩
theorem DS.wr_len (S : DS) (i : Int) (b : List UInt8) : (S.wr i b).1.W.length ≤ S.W.length + 1 ∧ (S.wr i b).1.A = S.A := by
  unfold DS.wr
  repeat' split
  all_goals simp
theorem DS.wrs_snoc : ∀ (bs : List (List UInt8)) (S : DS) (i : Int) (b : List UInt8), (S.wrs i bs).2 = 0 → S.wrs i (bs ++ [b]) = (S.wrs i bs).1.wr (i + bs.length) b
  | [], S, i, b, _ => by
    show (if (S.wr i b).2 = 0 then ((S.wr i b).1, 0) else S.wr i b) = S.wr (i + 0) b
    rw [Int.add_zero]
    split
    · rename_i h; rw [← h]
    · rfl
  | c :: bs, S, i, b, h => by
    show (if (S.wr i c).2 = 0 then (S.wr i c).1.wrs (i + 1) (bs ++ [b]) else S.wr i c) = _
    have hu : S.wrs i (c :: bs) = if (S.wr i c).2 = 0 then (S.wr i c).1.wrs (i + 1) bs else S.wr i c := rfl
    rw [hu] at h ⊢
    by_cases hc : (S.wr i c).2 = 0
    · rw [if_pos hc] at h ⊢
      rw [if_pos hc, DS.wrs_snoc bs _ _ b h]
      congr 1
      rw [List.length_cons]; omega
    · rw [if_neg hc] at h
      exact absurd h hc
/-- where one is an error the rest is not done -/
theorem DS.wrs_stop : ∀ (bs cs : List (List UInt8)) (S : DS) (i : Int), (S.wrs i bs).2 ≠ 0 → S.wrs i (bs ++ cs) = S.wrs i bs
  | [], _, _, _, h => absurd rfl h
  | b :: bs, cs, S, i, h => by
    show (if (S.wr i b).2 = 0 then (S.wr i b).1.wrs (i + 1) (bs ++ cs) else S.wr i b) = if (S.wr i b).2 = 0 then (S.wr i b).1.wrs (i + 1) bs else S.wr i b
    have hu : S.wrs i (b :: bs) = if (S.wr i b).2 = 0 then (S.wr i b).1.wrs (i + 1) bs else S.wr i b := rfl
    rw [hu] at h
    by_cases hc : (S.wr i b).2 = 0
    · rw [if_pos hc] at h ⊢
      rw [if_pos hc]; exact DS.wrs_stop bs cs _ _ h
    · rw [if_neg hc, if_neg hc]
theorem putAt_putAt (A : List UInt8) (i : Nat) (b c : List UInt8) (h : i ≤ A.length) : putAt (putAt A i b) (i + b.length) c = putAt A i (b ++ c) := by
  have hl : (A.take i ++ b).length = i + b.length := by rw [List.length_append, List.length_take]; omega
  unfold putAt
  rw [List.take_left' hl, List.drop_append, hl, List.drop_of_length_le (by omega), List.nil_append, show i + b.length + c.length - (i + b.length) = c.length by omega, List.drop_drop, List.length_append]
  simp [Nat.add_assoc]
theorem DS.wrs_ok : ∀ (bs : List (List UInt8)) {S : DS} (i : Int), S.ok → (S.wrs i bs).1.ok
  | [], _, _, h => h
  | b :: bs, S, i, h => by
    show (if (S.wr i b).2 = 0 then (S.wr i b).1.wrs (i + 1) bs else S.wr i b).1.ok
    split
    · exact DS.wrs_ok bs _ (DS.wr_ok h i b)
    · exact DS.wr_ok h i b
theorem DS.wrs_len : ∀ (bs : List (List UInt8)) (S : DS) (i : Int), (S.wrs i bs).1.W.length ≤ S.W.length + bs.length ∧ (S.wrs i bs).1.A = S.A
  | [], S, _ => ⟨Nat.le_refl _, rfl⟩
  | b :: bs, S, i => by
    have h1 := DS.wr_len S i b
    show (if (S.wr i b).2 = 0 then (S.wr i b).1.wrs (i + 1) bs else S.wr i b).1.W.length ≤ _ ∧ (if (S.wr i b).2 = 0 then (S.wr i b).1.wrs (i + 1) bs else S.wr i b).1.A = _
    split
    · have h2 := DS.wrs_len bs (S.wr i b).1 (i + 1)
      rw [List.length_cons]
      exact ⟨by omega, by rw [h2.2, h1.2]⟩
    · rw [List.length_cons]
      exact ⟨by omega, h1.2⟩
/-- bytes in pieces of a sector -/
def secs (b : List UInt8) (k : Nat) : List (List UInt8) := (List.range k).map (fun j => sec b j)
theorem secs_length (b : List UInt8) (k : Nat) : (secs b k).length = k := by simp [secs]
theorem secs_succ (b : List UInt8) (k : Nat) : secs b (k + 1) = secs b k ++ [sec b k] := by simp [secs, List.range_succ]
theorem sec_length {b : List UInt8} {j : Nat} (h : j * 64 + 64 ≤ b.length) : (sec b j).length = 64 := by simp [sec]; omega
/-- all of a text written where there is room, with power: what is said then -/
theorem DS.wrs_V {S : DS} (h : S.ok) (i : Nat) (b : List UInt8) (ho : S.off = false) (ht : S.till = -1) : ∀ k, i * 64 + k * 64 ≤ S.A.length → k * 64 ≤ b.length →
    (S.wrs (i : Int) (secs b k)).2 = 0 ∧ (S.wrs (i : Int) (secs b k)).1.off = false ∧ (S.wrs (i : Int) (secs b k)).1.till = -1 ∧ (S.wrs (i : Int) (secs b k)).1.V = putAt S.V (i * 64) (b.take (k * 64))
  | 0, _, _ => by
    refine ⟨rfl, ho, ht, ?_⟩
    show S.V = putAt S.V (i * 64) (b.take (0 * 64))
    simp [putAt]
  | k + 1, h1, h2 => by
    obtain ⟨g1, g2, g3, g4⟩ := DS.wrs_V h i b ho ht k (by omega) (by omega)
    have hok := DS.wrs_ok (secs b k) (i : Int) h
    have hA := (DS.wrs_len (secs b k) S (i : Int)).2
    have hl := sec_length (b := b) (j := k) (by omega)
    have hVl := DS.V_length h
    rw [secs_succ, DS.wrs_snoc _ _ _ _ g1, secs_length]
    have hm : mayE (S.wrs (i : Int) (secs b k)).1.off (S.wrs (i : Int) (secs b k)).1.A.length ((i : Int) + (k : Int)) = 0 := by
      rw [g2, hA]; exact mayD_of (i := i + k) (by omega)
    unfold DS.wr
    rw [if_neg (by rw [hm]; simp), if_neg (by omega), if_neg (by rw [g3]; decide)]
    refine ⟨rfl, g2, by show stopT _ = _; rw [g3]; rfl, ?_⟩
    show flW _ (_ ++ [_]) = _
    rw [flW_append]
    show putAt (S.wrs (i : Int) (secs b k)).1.V (((i : Int) + (k : Int)).toNat * 64) (sec b k) = _
    rw [g4, show ((i : Int) + (k : Int)).toNat = i + k by omega]
    have ht : (b.take (k * 64)).length = k * 64 := by rw [List.length_take]; omega
    have e : b.take ((k + 1) * 64) = b.take (k * 64) ++ sec b k := by
      rw [show (k + 1) * 64 = k * 64 + 64 by omega, List.take_add]; rfl
    have hp : (S.V.take (i * 64)).length = i * 64 := by rw [List.length_take]; omega
    have hq := putAt_putAt S.V (i * 64) (b.take (k * 64)) (sec b k) (by omega)
    rw [ht] at hq
    rw [e, show (i + k) * 64 = i * 64 + k * 64 by omega, hq]
end Go.Proofs.Ytckdlfbbkemklaa
