import Derived.Test.YtckdlfbbkemklaaZC
/- page: what its functions compute, in plain terms. -/
namespace Go.Gv
set_option linter.unusedVariables false
set_option linter.unusedSimpArgs false

structure PG where
  k : UInt8
  a : Int
  g : Nat
  b : List UInt8
def zeroP : PG := ⟨0, 0, 0, []⟩
def knownK (k : UInt8) : Bool := decide (k.toNat = 83) || decide (k.toNat = 76) || decide (k.toNat = 73) || decide (k.toNat = 66)
def okP (p : PG) : Bool := knownK p.k && decide (0 ≤ p.a) && decide (p.a < 512) && decide (p.b.length ≤ 238)
/-- a number's bytes, the highest first -/
def bigB (n : Nat) : Nat → List UInt8
  | 0 => []
  | k + 1 => UInt8.ofNat (n / 2 ^ (8 * k)) :: bigB n k
theorem bigB_length (n : Nat) : ∀ k, (bigB n k).length = k
  | 0 => rfl
  | k + 1 => by rw [bigB, List.length_cons, bigB_length n k]
def headP (p : PG) : List UInt8 := [p.k, 0] ++ bigB p.a.toNat 2 ++ bigB p.g 8 ++ bigB p.b.length 2 ++ p.b ++ List.replicate (238 - p.b.length) 0
def le4 (s : UInt32) (i : Nat) : List UInt8 := (List.range i).map fun j => (s >>> UInt32.ofNat (8 * j)).toUInt8
def putP (p : PG) : List UInt8 := headP p ++ le4 (crcSum (headP p)) 4
theorem headP_length (p : PG) (h : p.b.length ≤ 238) : (headP p).length = 252 := by simp [headP, bigB_length]; omega
theorem le4_length (s : UInt32) (i : Nat) : (le4 s i).length = i := by simp [le4]
theorem putP_length (p : PG) (h : p.b.length ≤ 238) : (putP p).length = 256 := by rw [putP, List.length_append, headP_length p h, le4_length]
def numB (l : List UInt8) : Nat := l.foldl (fun n c => n * 256 + c.toNat) 0
theorem numB_snoc (l : List UInt8) (c : UInt8) : numB (l ++ [c]) = numB l * 256 + c.toNat := by rw [numB, List.foldl_append]; rfl
theorem numB_lt (l : List UInt8) : numB l < 256 ^ l.length := by
  have : ∀ (r : List UInt8), numB r.reverse < 256 ^ r.length := by
    intro r
    induction r with
    | nil => simp [numB]
    | cons c r ih =>
      rw [List.reverse_cons, numB_snoc, List.length_cons, Nat.pow_succ]
      have := c.toNat_lt
      omega
  have h := this l.reverse
  rwa [List.reverse_reverse, List.length_reverse] at h
theorem fold_big (n : Nat) : ∀ k m, (bigB n k).foldl (fun n c => n * 256 + c.toNat) m = m * 256 ^ k + n % 256 ^ k
  | 0, m => by simp [bigB, Nat.mod_one]
  | k + 1, m => by
    rw [bigB, List.foldl_cons, fold_big n k]
    have e : (UInt8.ofNat (n / 2 ^ (8 * k))).toNat = n / 256 ^ k % 256 := by
      rw [UInt8.toNat_ofNat', show (2 : Nat) ^ (8 * k) = 256 ^ k by rw [Nat.pow_mul]]
    rw [e, Nat.pow_succ, Nat.add_mul, Nat.mul_assoc, Nat.mul_comm 256 (256 ^ k), Nat.add_assoc, Nat.mod_mul, Nat.mul_comm (n / 256 ^ k % 256), Nat.add_comm (256 ^ k * _)]
theorem num_big (n k : Nat) : numB (bigB n k) = n % 256 ^ k := by rw [numB, fold_big]; simp
def gotP (l : List UInt8) (n : Nat) : PG := ⟨l.getD 0 0, (numB ((l.drop 2).take 2) : Int), numB ((l.drop 4).take 8), (l.drop 14).take n⟩
def lenP (l : List UInt8) : Nat := numB ((l.drop 12).take 2)
def getP (l : List UInt8) : PG × Nat := if l.length ≠ 256 then (zeroP, 4) else if 238 < lenP l then (zeroP, 3) else if okP (gotP l (lenP l)) = true ∧ putP (gotP l (lenP l)) = l then (gotP l (lenP l), 0) else (zeroP, 3)

theorem okP_spec {p : PG} (h : okP p = true) : knownK p.k = true ∧ 0 ≤ p.a ∧ p.a < 512 ∧ p.b.length ≤ 238 := by
  simp only [okP, Bool.and_eq_true, decide_eq_true_eq] at h
  exact ⟨h.1.1.1, h.1.1.2, h.1.2, h.2⟩
theorem seg {α : Type} (A B C : List α) (i n : Nat) (hA : A.length = i) (hB : B.length = n) : ((A ++ B ++ C).drop i).take n = B := by
  subst hA; subst hB
  rw [List.append_assoc, List.drop_left, List.take_left]
theorem put_len (p : PG) (h : okP p = true) : lenP (putP p) = p.b.length := by
  have hs := okP_spec h
  have e : putP p = ([p.k, 0] ++ bigB p.a.toNat 2 ++ bigB p.g 8) ++ bigB p.b.length 2 ++ (p.b ++ List.replicate (238 - p.b.length) 0 ++ le4 (crcSum (headP p)) 4) := by simp [putP, headP]
  rw [lenP, e, seg _ _ _ 12 2 (by simp [bigB_length]) (bigB_length _ _), num_big]
  exact Nat.mod_eq_of_lt (by omega)
theorem put_got (p : PG) (h : okP p = true) (hg : p.g < 18446744073709551616) : gotP (putP p) p.b.length = p := by
  have hs := okP_spec h
  have e0 : (putP p).getD 0 0 = p.k := by simp [putP, headP]
  have e1 : putP p = [p.k, 0] ++ bigB p.a.toNat 2 ++ (bigB p.g 8 ++ bigB p.b.length 2 ++ p.b ++ List.replicate (238 - p.b.length) 0 ++ le4 (crcSum (headP p)) 4) := by simp [putP, headP]
  have e2 : putP p = ([p.k, 0] ++ bigB p.a.toNat 2) ++ bigB p.g 8 ++ (bigB p.b.length 2 ++ p.b ++ List.replicate (238 - p.b.length) 0 ++ le4 (crcSum (headP p)) 4) := by simp [putP, headP]
  have e3 : putP p = ([p.k, 0] ++ bigB p.a.toNat 2 ++ bigB p.g 8 ++ bigB p.b.length 2) ++ p.b ++ (List.replicate (238 - p.b.length) 0 ++ le4 (crcSum (headP p)) 4) := by simp [putP, headP]
  have h1 : numB (((putP p).drop 2).take 2) = p.a.toNat := by
    rw [e1, seg _ _ _ 2 2 rfl (bigB_length _ _), num_big]; exact Nat.mod_eq_of_lt (by omega)
  have h2 : numB (((putP p).drop 4).take 8) = p.g := by
    rw [e2, seg _ _ _ 4 8 (by simp [bigB_length]) (bigB_length _ _), num_big]; exact Nat.mod_eq_of_lt (by omega)
  have h3 : ((putP p).drop 14).take p.b.length = p.b := by
    rw [e3, seg _ _ _ 14 p.b.length (by simp [bigB_length]) rfl]
  unfold gotP
  rw [e0, h1, h2, h3, show ((p.a.toNat : Nat) : Int) = p.a by omega]
theorem get_put (p : PG) (h : okP p = true) (hg : p.g < 18446744073709551616) : getP (putP p) = (p, 0) := by
  have hs := okP_spec h
  rw [getP, if_neg (by rw [putP_length p hs.2.2.2]; simp), put_len p h, if_neg (by omega), put_got p h hg, if_pos ⟨h, rfl⟩]

theorem le4_bits (s : UInt32) : bitsOf (le4 s 4) = (List.range 32).map fun i => s.toBitVec.getLsbD i := by
  apply List.ext_getElem?
  intro i
  by_cases hi : i < 32
  · rw [bitsOf_get _ _ (by rw [le4_length]; omega), List.getElem?_map, List.getElem?_range hi, Option.map_some]
    congr 1
    have e : (le4 s 4).getD (i / 8) 0 = (s >>> UInt32.ofNat (8 * (i / 8))).toUInt8 := by
      rw [le4, List.getD_eq_getElem?_getD, List.getElem?_map, List.getElem?_range (by omega)]; rfl
    rw [e]
    have hq : i / 8 = 0 ∨ i / 8 = 1 ∨ i / 8 = 2 ∨ i / 8 = 3 := by omega
    have h2 : i = 8 * (i / 8) + i % 8 := by omega
    have h3 : i % 8 < 8 := by omega
    generalize i % 8 = r at h2 h3
    have key : ∀ q, q < 4 → ∀ r, r < 8 → (s >>> UInt32.ofNat (8 * q)).toUInt8.toBitVec.getLsbD r = s.toBitVec.getLsbD (8 * q + r) := by
      intro q hq r hr
      have hn : (UInt32.ofNat (8 * q)).toBitVec.toNat % 32 = 8 * q := by
        show (8 * q % 2 ^ 32) % 32 = _
        omega
      rw [show (s >>> UInt32.ofNat (8 * q)).toUInt8.toBitVec = (s >>> UInt32.ofNat (8 * q)).toBitVec.setWidth 8 from rfl, BitVec.getLsbD_setWidth, UInt32.toBitVec_shiftRight]
      simp [hr]
      congr 1
      omega
    rw [key _ (by omega) r h3, ← h2]
  · rw [List.getElem?_eq_none (by rw [bitsOf_length, le4_length]; omega), List.getElem?_eq_none (by simp; omega)]
theorem put_resid (p : PG) : crcSum (putP p) = ~~~ crcBits 32 0xFFFFFFFF := by
  have e : crcFold (crcFold (~~~ 0) (headP p)) (le4 (crcSum (headP p)) 4) = crcBits 32 0xFFFFFFFF := by
    rw [crcFold_feed, le4_bits, feed_word _ _ 32 (Nat.le_refl _), lowb_all]
    congr 1
    show crcFold (~~~ 0) (headP p) ^^^ ~~~ crcFold (~~~ 0) (headP p) = _
    apply u32_ext
    intro i hi
    simp only [UInt32.toBitVec_xor, UInt32.toBitVec_not, BitVec.getLsbD_xor, BitVec.getLsbD_not, hi, decide_true, Bool.true_and]
    have : (0xFFFFFFFF : UInt32).toBitVec.getLsbD i = true := by
      have : ∀ j : Fin 32, (0xFFFFFFFF : UInt32).toBitVec.getLsbD j.1 = true := by decide
      exact this ⟨i, hi⟩
    rw [this]; simp
  rw [crcSum, crcBehind, putP, crcFold, List.foldl_append]
  exact congrArg _ e
theorem get_turned (p : PG) (h : okP p = true) (hg : p.g < 18446744073709551616) (k : Nat) (hk : k + 32 ≤ 2048) (e : UInt32) : getP (turned (putP p) k e 32) = if e = 0 then (p, 0) else (zeroP, 3) := by
  have hs := okP_spec h
  have hl := putP_length p hs.2.2.2
  by_cases he : e = 0
  · rw [if_pos he]
    have e1 : ∀ i, turned (putP p) k e i = putP p := by
      intro i
      induction i with
      | zero => rfl
      | succ i ih => rw [turned, ih, he]; simp
    rw [e1, get_put p h hg]
  · rw [if_neg he, getP, if_neg (by rw [turned_length, hl]; simp)]
    split
    · rfl
    · rw [if_neg]
      rintro ⟨_, hq⟩
      have h1 := put_resid (gotP (turned (putP p) k e 32) (lenP (turned (putP p) k e 32)))
      rw [hq] at h1
      have h2 := put_resid p
      exact he ((crcSum_turned (putP p) k e (by rw [hl]; omega)).1 (h1.trans h2.symm))
end Go.Gv
