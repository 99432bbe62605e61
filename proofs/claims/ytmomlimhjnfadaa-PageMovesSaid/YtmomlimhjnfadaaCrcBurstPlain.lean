/- A burst of up to 32 bits tells: the sums of two texts that differ by one are not the same. -/
import Derived.Test.YtmomlimhjnfadaaCrcThreePlain
namespace Go.Gv
set_option linter.unusedSimpArgs false
set_option linter.unusedVariables false

theorem crcBit_zero {n : UInt32} (h : crcBit n = 0) : n = 0 := by
  rw [crcBit_eq] at h
  cases hl : low n with
  | false =>
    rw [hl] at h
    simp only [Bool.false_eq_true, if_false] at h
    apply u32_ext; intro i hi
    have h0 : (0 : UInt32).toBitVec.getLsbD i = false := by simp
    rw [h0]
    cases i with
    | zero => exact hl
    | succ i => rw [← shr1_bit, h]; simp
  | true =>
    rw [hl] at h
    simp only [if_true] at h
    have h31 : ((n >>> 1) ^^^ 0x82F63B78).toBitVec.getLsbD 31 = false := by rw [h]; decide
    rw [UInt32.toBitVec_xor, BitVec.getLsbD_xor, shr1_bit, BitVec.getLsbD_of_ge _ _ (by omega)] at h31
    exact absurd h31 (by decide)
theorem crcBits_nz : ∀ (k : Nat) {n : UInt32}, crcBits k n = 0 → n = 0
  | 0, _, h => h
  | k + 1, n, h => crcBit_zero (crcBits_nz k h)

/-- the difference of two feeds is the feed of the difference -/
theorem bit_xor (a b : Bool) : bit (a ^^ b) = bit a ^^^ bit b := by cases a <;> cases b <;> decide
theorem feed_xor : ∀ (x y : List Bool) (n m : UInt32), x.length = y.length → feed n x ^^^ feed m y = feed (n ^^^ m) (List.zipWith (· ^^ ·) x y)
  | [], [], _, _, _ => rfl
  | a :: x, b :: y, n, m, h => by
    show feed (crcBit (n ^^^ bit a)) x ^^^ feed (crcBit (m ^^^ bit b)) y = feed (crcBit ((n ^^^ m) ^^^ bit (a ^^ b))) _
    rw [feed_xor x y _ _ (by simpa using h), ← crcBit_xor, bit_xor]
    congr 2
    ac_rfl
  | [], _ :: _, _, _, h => by simp at h
  | _ :: _, [], _, _, h => by simp at h
theorem feed_zeros (k : Nat) : ∀ n, feed n (List.replicate k false) = crcBits k n := by
  induction k with
  | zero => intro n; rfl
  | succ k ih =>
    intro n
    show feed (crcBit (n ^^^ bit false)) (List.replicate k false) = crcBits k (crcBit n)
    rw [ih, show bit false = 0 from rfl, UInt32.xor_zero]

/-- bits that are a word's from place k on, and zero elsewhere -/
def burst (k : Nat) (e : UInt32) (i : Nat) : Bool := decide (k ≤ i) && e.toBitVec.getLsbD (i - k)
theorem burst_feed (k m : Nat) (e : UInt32) (h : k + 32 ≤ m) : feed 0 ((List.range m).map (burst k e)) = crcBits (m - (k + 32)) (crcBits 32 e) := by
  have e1 : (List.range m).map (burst k e) = List.replicate k false ++ ((List.range 32).map (fun i => e.toBitVec.getLsbD i) ++ List.replicate (m - (k + 32)) false) := by
    apply List.ext_getElem (by simp; omega)
    intro i h1 h2
    simp only [List.length_map, List.length_range] at h1
    rw [List.getElem_map, List.getElem_range, List.getElem_append]
    unfold burst
    split
    · rename_i hk
      rw [List.length_replicate] at hk
      rw [decide_eq_false (show ¬ k ≤ i by omega), Bool.false_and, List.getElem_replicate]
    · rename_i hk
      simp at hk
      rw [List.getElem_append]
      split
      · rename_i h3
        simp [hk]
      · rename_i h3
        simp at h3
        simp only [List.getElem_replicate]
        rw [BitVec.getLsbD_of_ge _ _ (by omega), Bool.and_false]
  rw [e1, feed_append, feed_append, feed_zeros (m - (k + 32)), feed_zeros k, crcBits_zero, feed_word _ _ 32 (by omega), lowb_all, UInt32.zero_xor]

theorem xor_eq_zero {a b : UInt32} (h : a ^^^ b = 0) : a = b := by
  have : a ^^^ b ^^^ b = b := by rw [h, UInt32.zero_xor]
  rwa [UInt32.xor_assoc, UInt32.xor_self, UInt32.xor_zero] at this
theorem not_inj {a b : UInt32} (h : ~~~ a = ~~~ b) : a = b := by
  have := congrArg (~~~ ·) h
  simpa using this

theorem crcSum_burst (l l' : List UInt8) (k : Nat) (e : UInt32) (hl : l'.length = l.length) (hk : k + 32 ≤ 8 * l.length)
    (hb : ∀ i, i < 8 * l.length → (l'.getD (i / 8) 0).toBitVec.getLsbD (i % 8) = ((l.getD (i / 8) 0).toBitVec.getLsbD (i % 8) ^^ burst k e i)) : (crcSum l' = crcSum l) ↔ e = 0 := by
  have hz : List.zipWith (· ^^ ·) (bitsOf l') (bitsOf l) = (List.range (8 * l.length)).map (burst k e) := by
    apply List.ext_getElem? 
    intro i
    rw [List.getElem?_zipWith]
    by_cases hi : i < 8 * l.length
    · rw [bitsOf_get l' i (by omega), bitsOf_get l i hi]
      simp only [List.getElem?_map, List.getElem?_range hi, Option.map_some]
      rw [hb i hi]
      cases (l.getD (i / 8) 0).toBitVec.getLsbD (i % 8) <;> cases burst k e i <;> rfl
    · rw [List.getElem?_eq_none (l := bitsOf l') (by rw [bitsOf_length]; omega), List.getElem?_eq_none (l := (List.range (8 * l.length)).map (burst k e)) (by simp; omega)]
  have hd : ∀ n, feed n (bitsOf l') ^^^ feed n (bitsOf l) = crcBits (8 * l.length - (k + 32)) (crcBits 32 e) := by
    intro n
    rw [feed_xor _ _ _ _ (by rw [bitsOf_length, bitsOf_length, hl]), UInt32.xor_self, hz, burst_feed k _ e hk]
  constructor
  · intro h
    unfold crcSum crcBehind at h
    have h2 := not_inj h
    rw [crcFold_feed, crcFold_feed] at h2
    have h3 := hd (~~~ 0)
    rw [h2, UInt32.xor_self] at h3
    exact crcBits_nz _ (crcBits_nz _ h3.symm)
  · intro h
    subst h
    have h3 := hd (~~~ 0)
    rw [crcBits_zero, crcBits_zero] at h3
    unfold crcSum crcBehind
    rw [crcFold_feed, crcFold_feed, xor_eq_zero h3]

/-- the text with the burst's first i bits turned -/
def turnBit (l : List UInt8) (p : Nat) : List UInt8 := l.set (p / 8) (l.getD (p / 8) 0 ^^^ (1 <<< UInt8.ofNat (p % 8)))
def turned (l : List UInt8) (k : Nat) (e : UInt32) : Nat → List UInt8
  | 0 => l
  | i + 1 => if e.toBitVec.getLsbD i then turnBit (turned l k e i) (k + i) else turned l k e i
theorem turnBit_length (l : List UInt8) (p : Nat) : (turnBit l p).length = l.length := by simp [turnBit]
theorem turned_length (l : List UInt8) (k : Nat) (e : UInt32) : ∀ i, (turned l k e i).length = l.length
  | 0 => rfl
  | i + 1 => by
    rw [turned]; split
    · rw [turnBit_length]; exact turned_length l k e i
    · exact turned_length l k e i
theorem one_shl (j i : Nat) (hj : j < 8) : ((1 : UInt8) <<< UInt8.ofNat j).toBitVec.getLsbD i = decide (i = j) := by
  have : ∀ j < 8, ((1 : UInt8) <<< UInt8.ofNat j).toBitVec = BitVec.twoPow 8 j := by decide
  rw [this j hj, BitVec.getLsbD_twoPow]
  simp [hj, eq_comm]
theorem turnBit_get (l : List UInt8) (p q : Nat) (hp : p < 8 * l.length) : ((turnBit l p).getD (q / 8) 0).toBitVec.getLsbD (q % 8) = ((l.getD (q / 8) 0).toBitVec.getLsbD (q % 8) ^^ decide (q = p)) := by
  unfold turnBit
  rw [List.getD_eq_getElem?_getD, List.getElem?_set]
  by_cases h : p / 8 = q / 8
  · rw [if_pos h, if_pos (by omega), Option.getD_some, UInt8.toBitVec_xor, BitVec.getLsbD_xor, one_shl _ _ (by omega), h]
    congr 1
    apply decide_eq_decide.2
    omega
  · rw [if_neg h, ← List.getD_eq_getElem?_getD, decide_eq_false (show ¬ q = p by intro e; exact h (by rw [e])), Bool.xor_false]
theorem turned_get (l : List UInt8) (k : Nat) (e : UInt32) (q : Nat) : ∀ i, k + i ≤ 8 * l.length → ((turned l k e i).getD (q / 8) 0).toBitVec.getLsbD (q % 8) = ((l.getD (q / 8) 0).toBitVec.getLsbD (q % 8) ^^ (decide (k ≤ q) && decide (q < k + i) && e.toBitVec.getLsbD (q - k)))
  | 0, _ => by
    rw [turned]
    have : (decide (k ≤ q) && decide (q < k + 0)) = false := by
      rw [Bool.and_eq_false_iff]
      by_cases h : k ≤ q
      · right; simp; omega
      · left; simp; omega
    rw [this, Bool.false_and, Bool.xor_false]
  | i + 1, h => by
    have ih := turned_get l k e q i (by omega)
    by_cases hq : q = k + i
    · subst hq
      have d1 : decide (k ≤ k + i) = true := by simp
      have d2 : decide (k + i < k + i) = false := by simp
      have d3 : decide (k + i < k + (i + 1)) = true := decide_eq_true (by omega)
      rw [d1, d2, Bool.and_false, Bool.false_and, Bool.xor_false] at ih
      rw [d1, d3, Bool.and_true, Bool.true_and, Nat.add_sub_cancel_left, turned]
      split
      · rename_i hb
        rw [turnBit_get _ _ _ (by rw [turned_length]; omega), ih, hb]; simp
      · rename_i hb
        rw [ih, Bool.eq_false_iff.2 hb, Bool.xor_false]
    · have d : decide (q < k + (i + 1)) = decide (q < k + i) := decide_eq_decide.2 (by omega)
      rw [d, ← ih, turned]
      split
      · rw [turnBit_get _ _ _ (by rw [turned_length]; omega), decide_eq_false hq, Bool.xor_false]
      · rfl
theorem crcSum_turned (l : List UInt8) (k : Nat) (e : UInt32) (hk : k + 32 ≤ 8 * l.length) : (crcSum (turned l k e 32) = crcSum l) ↔ e = 0 := by
  refine crcSum_burst l _ k e (turned_length _ _ _ _) hk (fun i hi => ?_)
  rw [turned_get l k e i 32 hk]
  congr 1
  unfold burst
  by_cases h : i < k + 32
  · rw [decide_eq_true h, Bool.and_true]
  · rw [decide_eq_false h, Bool.and_false, Bool.false_and, BitVec.getLsbD_of_ge _ _ (by omega), Bool.and_false]
theorem low_shr (x : UInt32) (i : Nat) (h : i < 32) : low (x >>> UInt32.ofNat i) = x.toBitVec.getLsbD i := by
  unfold low
  have h1 : (x >>> UInt32.ofNat i).toBitVec = x.toBitVec >>> i := by
    apply BitVec.eq_of_toNat_eq
    have hm : (UInt32.ofNat i).toNat % 32 = i := by simp; omega
    rw [UInt32.toNat_toBitVec, UInt32.toNat_shiftRight, hm, BitVec.toNat_ushiftRight, UInt32.toNat_toBitVec]
  rw [h1, BitVec.getLsbD_ushiftRight, Nat.add_zero]
end Go.Gv
