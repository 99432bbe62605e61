section
/- The sum as plain functions. -/
namespace Go.Gv
def crcBit (n : UInt32) : UInt32 := (n >>> 1) ^^^ (0x82F63B78 &&& (0 - (n &&& 1)))
def crcBits : Nat → UInt32 → UInt32
  | 0, n => n
  | k + 1, n => crcBits k (crcBit n)
def crcTab (i : Nat) : UInt32 := crcBits 8 (UInt32.ofNat i)
def crcByte (n : UInt32) (c : UInt8) : UInt32 := (n >>> 8) ^^^ crcTab (n.toUInt8 ^^^ c).toNat
def crcFold (n : UInt32) (l : List UInt8) : UInt32 := l.foldl crcByte n
def crcBehind (sum : UInt32) (l : List UInt8) : UInt32 := ~~~ (crcFold (~~~ sum) l)
def crcSum (l : List UInt8) : UInt32 := crcBehind 0 l
theorem crcBits_succ (k : Nat) (n : UInt32) : crcBits (k + 1) n = crcBit (crcBits k n) := by
  induction k generalizing n with
  | zero => rfl
  | succ k ih => exact ih (crcBit n)
/-- one bit, as the reference takes it -/
def refBit (n : UInt32) (bit : UInt32) : UInt32 := if (n &&& 1) ≠ bit then (n >>> 1) ^^^ 0x82F63B78 else n >>> 1
def bitAt (l : List UInt8) (i : Nat) : UInt32 := ((l.getD (i / 8) 0).toUInt32 >>> UInt32.ofNat (i % 8)) &&& 1
def refAt (l : List UInt8) : Nat → UInt32
  | 0 => 0xFFFFFFFF
  | i + 1 => refBit (refAt l i) (bitAt l i)
def refSum (l : List UInt8) : UInt32 := refAt l (8 * l.length) ^^^ 0xFFFFFFFF
end Go.Gv
end
section
/- The sum bit by bit: that the table's bytes and the reference's bits are one; that bursts are told. -/
namespace Go.Gv
set_option linter.unusedSimpArgs false

theorem u32_ext {x y : UInt32} (h : ∀ i, i < 32 → x.toBitVec.getLsbD i = y.toBitVec.getLsbD i) : x = y := by
  apply UInt32.toBitVec_inj.1
  exact BitVec.eq_of_getLsbD_eq (fun i hi => h i hi)

/-- the low bit -/
def low (n : UInt32) : Bool := n.toBitVec.getLsbD 0
theorem and_one (n : UInt32) : n &&& 1 = if low n then 1 else 0 := by
  apply u32_ext
  intro i hi
  unfold low
  have h1 : (1 : UInt32).toBitVec = 1#32 := rfl
  rw [UInt32.toBitVec_and, BitVec.getLsbD_and, h1]
  by_cases h0 : i = 0
  · subst h0
    cases h : n.toBitVec.getLsbD 0 <;> simp
  · have : (1#32).getLsbD i = false := by
      rw [BitVec.getLsbD_one]; simp [h0]
    rw [this, Bool.and_false]
    cases h : n.toBitVec.getLsbD 0
    · simp
    · simp only [if_true, h1, this]

theorem crcBit_eq (n : UInt32) : crcBit n = if low n then (n >>> 1) ^^^ 0x82F63B78 else n >>> 1 := by
  unfold crcBit
  rw [and_one]
  cases low n
  · simp
  · have e : (0x82F63B78 : UInt32) &&& (0 - 1) = 0x82F63B78 := by decide
    simp only [if_true, e]

theorem low_xor (x y : UInt32) : low (x ^^^ y) = (low x ^^ low y) := by
  unfold low; rw [UInt32.toBitVec_xor, BitVec.getLsbD_xor]
theorem shr1_bit (x : UInt32) (i : Nat) : (x >>> 1).toBitVec.getLsbD i = x.toBitVec.getLsbD (i + 1) := by
  have : (x >>> 1).toBitVec = x.toBitVec >>> 1 := rfl
  rw [this, BitVec.getLsbD_ushiftRight, Nat.add_comm]
theorem shr1_xor (x y : UInt32) : (x ^^^ y) >>> 1 = (x >>> 1) ^^^ (y >>> 1) := by
  apply u32_ext; intro i hi
  simp only [UInt32.toBitVec_xor, BitVec.getLsbD_xor, shr1_bit]
theorem crcBit_xor (x y : UInt32) : crcBit (x ^^^ y) = crcBit x ^^^ crcBit y := by
  rw [crcBit_eq, crcBit_eq, crcBit_eq, low_xor, shr1_xor]
  cases low x <;> cases low y <;> simp only [Bool.xor_false, Bool.xor_true, Bool.not_false, Bool.not_true, if_true, if_false, Bool.false_eq_true]
  · ac_rfl
  · ac_rfl
  · have e : ∀ a b p : UInt32, a ^^^ b = a ^^^ p ^^^ (b ^^^ p) := by
      intro a b p
      have : a ^^^ p ^^^ (b ^^^ p) = a ^^^ b ^^^ (p ^^^ p) := by ac_rfl
      rw [this]; simp
    exact e _ _ _
theorem crcBits_xor (k : Nat) : ∀ x y : UInt32, crcBits k (x ^^^ y) = crcBits k x ^^^ crcBits k y := by
  induction k with
  | zero => intro x y; rfl
  | succ k ih => intro x y; simp only [crcBits]; rw [crcBit_xor, ih]
theorem crcBits_zero (k : Nat) : crcBits k 0 = 0 := by
  induction k with
  | zero => rfl
  | succ k ih => exact ih

/-- a bit at a place -/
def bitPos (b : Bool) (k : Nat) : UInt32 := ⟨if b then BitVec.twoPow 32 k else 0#32⟩
theorem bitPos_get (b : Bool) (k i : Nat) (hk : k < 32) : (bitPos b k).toBitVec.getLsbD i = (b && decide (i = k)) := by
  unfold bitPos
  cases b
  · simp
  · simp [BitVec.getLsbD_twoPow, hk, eq_comm]
theorem crcBits_pos (b : Bool) : ∀ k, k < 32 → crcBits k (bitPos b k) = if b then 1 else 0 := by
  intro k
  induction k with
  | zero => intro _; cases b <;> rfl
  | succ k ih =>
    intro hk
    simp only [crcBits]
    have e : crcBit (bitPos b (k + 1)) = bitPos b k := by
      rw [crcBit_eq]
      have : low (bitPos b (k + 1)) = false := by unfold low; rw [bitPos_get _ _ _ hk]; simp
      rw [this]
      apply u32_ext; intro i hi
      simp only [Bool.false_eq_true, if_false, shr1_bit]
      rw [bitPos_get _ _ _ hk, bitPos_get _ _ _ (by omega)]
      simp
    rw [e, ih (by omega)]

def lowb (x : UInt32) (k : Nat) : UInt32 := ⟨(x.toBitVec.setWidth k).setWidth 32⟩
theorem lowb_get (x : UInt32) (k i : Nat) (hi : i < 32) : (lowb x k).toBitVec.getLsbD i = (decide (i < k) && x.toBitVec.getLsbD i) := by
  unfold lowb
  simp [BitVec.getLsbD_setWidth, hi]
theorem lowb_zero (x : UInt32) : lowb x 0 = 0 := by
  apply u32_ext; intro i hi; rw [lowb_get _ _ _ hi]; simp
theorem lowb_all (x : UInt32) : lowb x 32 = x := by
  apply u32_ext; intro i hi; rw [lowb_get _ _ _ hi]; simp [hi]
theorem lowb_succ (x : UInt32) (k : Nat) (hk : k < 32) : lowb x (k + 1) = lowb x k ^^^ bitPos (x.toBitVec.getLsbD k) k := by
  apply u32_ext; intro i hi
  rw [UInt32.toBitVec_xor, BitVec.getLsbD_xor, lowb_get _ _ _ hi, lowb_get _ _ _ hi, bitPos_get _ _ _ hk]
  by_cases h : i = k
  · subst h; simp
  · by_cases h2 : i < k
    · simp [h, h2, show i < k + 1 by omega]
    · simp [h, h2, show ¬ i < k + 1 by omega]

def bit (b : Bool) : UInt32 := if b then 1 else 0
def feed (n : UInt32) (bs : List Bool) : UInt32 := bs.foldl (fun n b => crcBit (n ^^^ bit b)) n
theorem feed_append (n : UInt32) (a b : List Bool) : feed n (a ++ b) = feed (feed n a) b := by unfold feed; rw [List.foldl_append]
theorem feed_word (n x : UInt32) : ∀ k, k ≤ 32 → feed n ((List.range k).map fun i => x.toBitVec.getLsbD i) = crcBits k (n ^^^ lowb x k) := by
  intro k
  induction k with
  | zero => intro _; rw [lowb_zero]; simp [feed, crcBits]
  | succ k ih =>
    intro hk
    rw [List.range_succ, List.map_append, feed_append, ih (by omega), lowb_succ _ _ (by omega), ← UInt32.xor_assoc, crcBits_succ, crcBits_xor k _ (bitPos _ _), crcBits_pos _ _ (by omega)]
    rfl

def bitsOf (l : List UInt8) : List Bool := l.flatMap fun c => (List.range 8).map fun i => c.toBitVec.getLsbD i
theorem byte_bits (c : UInt8) : ((List.range 8).map fun i => c.toBitVec.getLsbD i) = (List.range 8).map fun i => c.toUInt32.toBitVec.getLsbD i := by
  apply List.map_congr_left
  intro i hi
  simp at hi
  rw [UInt8.toBitVec_toUInt32, BitVec.getLsbD_setWidth]
  simp; omega
theorem lowb_byte (c : UInt8) : lowb c.toUInt32 8 = c.toUInt32 := by
  apply u32_ext; intro i hi
  rw [lowb_get _ _ _ hi, UInt8.toBitVec_toUInt32, BitVec.getLsbD_setWidth]
  by_cases h : i < 8
  · simp [h]
  · have : c.toBitVec.getLsbD i = false := BitVec.getLsbD_of_ge _ _ (by omega)
    simp [this]
theorem shift_zero (z : UInt32) : ∀ j, (∀ i, i < j → z.toBitVec.getLsbD i = false) → ∀ i, (crcBits j z).toBitVec.getLsbD i = z.toBitVec.getLsbD (i + j) := by
  intro j
  induction j generalizing z with
  | zero => intro _ i; rfl
  | succ j ih =>
    intro hz i
    simp only [crcBits]
    have e : crcBit z = z >>> 1 := by
      rw [crcBit_eq]
      have : low z = false := hz 0 (by omega)
      rw [this]; rfl
    rw [e, ih (z >>> 1) (fun i hi => by rw [shr1_bit]; exact hz (i + 1) (by omega)) i, shr1_bit]
    congr 1
theorem crcByte_eq (n : UInt32) (c : UInt8) : crcByte n c = crcBits 8 (n ^^^ c.toUInt32) := by
  have split : n ^^^ c.toUInt32 = (lowb n 8 ^^^ c.toUInt32) ^^^ (n ^^^ lowb n 8) := by
    have : (lowb n 8 ^^^ c.toUInt32) ^^^ (n ^^^ lowb n 8) = n ^^^ c.toUInt32 ^^^ (lowb n 8 ^^^ lowb n 8) := by ac_rfl
    rw [this]; simp
  rw [split, crcBits_xor]
  unfold crcByte crcTab
  have h1 : UInt32.ofNat (n.toUInt8 ^^^ c).toNat = lowb n 8 ^^^ c.toUInt32 := by
    apply u32_ext; intro i hi
    have e : (UInt32.ofNat (n.toUInt8 ^^^ c).toNat).toBitVec = (n.toUInt8 ^^^ c).toBitVec.setWidth 32 := by
      apply BitVec.eq_of_toNat_eq
      simp
    rw [e, BitVec.getLsbD_setWidth, UInt8.toBitVec_xor, BitVec.getLsbD_xor, UInt32.toBitVec_xor, BitVec.getLsbD_xor, lowb_get _ _ _ hi, UInt8.toBitVec_toUInt32, BitVec.getLsbD_setWidth]
    have e2 : n.toUInt8.toBitVec.getLsbD i = (decide (i < 8) && n.toBitVec.getLsbD i) := by
      have : n.toUInt8.toBitVec = n.toBitVec.setWidth 8 := rfl
      rw [this, BitVec.getLsbD_setWidth]
    rw [e2]; simp [hi]
  have h2 : crcBits 8 (n ^^^ lowb n 8) = n >>> 8 := by
    apply u32_ext; intro i hi
    rw [shift_zero _ 8 (fun i hi => by rw [UInt32.toBitVec_xor, BitVec.getLsbD_xor, lowb_get _ _ _ (by omega)]; simp [hi])]
    have e : (n >>> 8).toBitVec = n.toBitVec >>> 8 := rfl
    rw [e, BitVec.getLsbD_ushiftRight, UInt32.toBitVec_xor, BitVec.getLsbD_xor, Nat.add_comm 8 i]
    by_cases h : i + 8 < 32
    · rw [lowb_get _ _ _ h, decide_eq_false (show ¬ i + 8 < 8 by omega), Bool.false_and, Bool.xor_false]
    · rw [BitVec.getLsbD_of_ge _ _ (by omega), BitVec.getLsbD_of_ge _ _ (by omega)]; rfl
  rw [h1, h2, UInt32.xor_comm]
theorem crcFold_feed (l : List UInt8) : ∀ n, crcFold n l = feed n (bitsOf l) := by
  induction l with
  | nil => intro n; rfl
  | cons c l ih =>
    intro n
    have e : bitsOf (c :: l) = ((List.range 8).map fun i => c.toBitVec.getLsbD i) ++ bitsOf l := by simp [bitsOf]
    rw [e, feed_append, byte_bits, feed_word _ _ 8 (by omega), lowb_byte, ← crcByte_eq, ← ih]
    rfl
theorem bitsOf_length (l : List UInt8) : (bitsOf l).length = 8 * l.length := by
  induction l with
  | nil => rfl
  | cons c l ih =>
    have e : bitsOf (c :: l) = ((List.range 8).map fun i => c.toBitVec.getLsbD i) ++ bitsOf l := by simp [bitsOf]
    rw [e, List.length_append, ih]; simp; omega
theorem bitsOf_get (l : List UInt8) : ∀ i, i < 8 * l.length → (bitsOf l)[i]? = some ((l.getD (i / 8) 0).toBitVec.getLsbD (i % 8)) := by
  induction l with
  | nil => intro i h; simp at h
  | cons c l ih =>
    intro i h
    have e : bitsOf (c :: l) = ((List.range 8).map fun i => c.toBitVec.getLsbD i) ++ bitsOf l := by simp [bitsOf]
    rw [e, List.getElem?_append]
    by_cases h8 : i < 8
    · rw [if_pos (by simpa using h8)]
      have e1 : i / 8 = 0 := by omega
      have e2 : i % 8 = i := by omega
      rw [e1, e2]; simp [h8]
    · rw [if_neg (by simpa using h8)]
      simp only [List.length_map, List.length_range, List.length_cons] at h ⊢
      rw [ih (i - 8) (by omega)]
      have e1 : i / 8 = (i - 8) / 8 + 1 := by omega
      have e2 : i % 8 = (i - 8) % 8 := by omega
      rw [e1, e2]; simp
theorem bitAt_eq (l : List UInt8) (i : Nat) : bitAt l i = bit ((l.getD (i / 8) 0).toBitVec.getLsbD (i % 8)) := by
  unfold bitAt
  rw [and_one]
  have e : low ((l.getD (i / 8) 0).toUInt32 >>> UInt32.ofNat (i % 8)) = (l.getD (i / 8) 0).toBitVec.getLsbD (i % 8) := by
    unfold low
    have h1 : ((l.getD (i / 8) 0).toUInt32 >>> UInt32.ofNat (i % 8)).toBitVec = (l.getD (i / 8) 0).toUInt32.toBitVec >>> (i % 8) := by
      apply BitVec.eq_of_toNat_eq
      have hm : (UInt32.ofNat (i % 8)).toNat % 32 = i % 8 := by simp; omega
      rw [UInt32.toNat_toBitVec, UInt32.toNat_shiftRight, hm, BitVec.toNat_ushiftRight, UInt32.toNat_toBitVec]
    rw [h1, BitVec.getLsbD_ushiftRight, Nat.add_zero, UInt8.toBitVec_toUInt32, BitVec.getLsbD_setWidth]
    simp; omega
  rw [e]; rfl
theorem refBit_eq (n : UInt32) (b : Bool) : refBit n (bit b) = crcBit (n ^^^ bit b) := by
  unfold refBit
  rw [crcBit_eq, low_xor, shr1_xor, and_one]
  have h0 : (1 : UInt32) >>> 1 = 0 := by decide
  have h1 : low 1 = true := by decide
  have h2 : low 0 = false := by decide
  cases b <;> cases h : low n <;> simp [bit, h0, h1, h2]
theorem refAt_eq (l : List UInt8) : ∀ i, i ≤ 8 * l.length → refAt l i = feed 0xFFFFFFFF ((bitsOf l).take i) := by
  intro i
  induction i with
  | zero => intro _; rfl
  | succ i ih =>
    intro h
    have hg := bitsOf_get l i (by omega)
    rw [refAt, ih (by omega), bitAt_eq, refBit_eq]
    rw [List.take_add_one, hg, feed_append]
    rfl
theorem refSum_eq (l : List UInt8) : refSum l = crcSum l := by
  unfold refSum crcSum crcBehind
  rw [refAt_eq l _ (Nat.le_refl _), crcFold_feed, ← bitsOf_length, List.take_length]
  have e : ~~~ (0 : UInt32) = 0xFFFFFFFF := by decide
  rw [e]
  apply u32_ext; intro i hi
  have h1 : (0xFFFFFFFF : UInt32).toBitVec = BitVec.allOnes 32 := by decide
  rw [UInt32.toBitVec_xor, UInt32.toBitVec_not, h1, BitVec.getLsbD_xor, BitVec.getLsbD_not, BitVec.getLsbD_allOnes]
  simp [hi]

theorem crc_two (l : List UInt8) (q : Nat) : crcBehind (crcSum (l.take q)) (l.drop q) = crcSum l := by
  unfold crcSum crcBehind
  rw [UInt32.not_not]
  conv => rhs; rw [← List.take_append_drop q l]
  unfold crcFold
  rw [List.foldl_append]
end Go.Gv
end
section
/- The sum is linear: of three texts of one length. -/
namespace Go.Gv
set_option linter.unusedSimpArgs false

def xor3 (a b c : List UInt8) : List UInt8 := List.zipWith (· ^^^ ·) (List.zipWith (· ^^^ ·) a b) c

theorem xor3_length (a b c : List UInt8) (n : Nat) (ha : a.length = n) (hb : b.length = n) (hc : c.length = n) : (xor3 a b c).length = n := by
  unfold xor3; simp [ha, hb, hc]

theorem byte32_xor (x y : UInt8) : (x ^^^ y).toUInt32 = x.toUInt32 ^^^ y.toUInt32 := by
  apply u32_ext; intro i hi
  rw [UInt32.toBitVec_xor, BitVec.getLsbD_xor, UInt8.toBitVec_toUInt32, UInt8.toBitVec_toUInt32, UInt8.toBitVec_toUInt32, BitVec.getLsbD_setWidth, BitVec.getLsbD_setWidth, BitVec.getLsbD_setWidth, UInt8.toBitVec_xor, BitVec.getLsbD_xor]
  simp [hi]

theorem crcByte_xor (n m : UInt32) (x y : UInt8) : crcByte (n ^^^ m) (x ^^^ y) = crcByte n x ^^^ crcByte m y := by
  rw [crcByte_eq, crcByte_eq, crcByte_eq, ← crcBits_xor, byte32_xor]
  congr 1
  ac_rfl

theorem crcFold_xor : ∀ (a b : List UInt8) (n m : UInt32), a.length = b.length → crcFold (n ^^^ m) (List.zipWith (· ^^^ ·) a b) = crcFold n a ^^^ crcFold m b
  | [], [], _, _, _ => rfl
  | x :: a, y :: b, n, m, h => by
    show crcFold (crcByte (n ^^^ m) (x ^^^ y)) (List.zipWith (· ^^^ ·) a b) = crcFold (crcByte n x) a ^^^ crcFold (crcByte m y) b
    rw [crcByte_xor]
    exact crcFold_xor a b _ _ (by simpa using h)
  | [], _ :: _, _, _, h => by simp at h
  | _ :: _, [], _, _, h => by simp at h

theorem not_xor3 (x y z : UInt32) : ~~~ (x ^^^ y ^^^ z) = (~~~ x) ^^^ (~~~ y) ^^^ (~~~ z) := by
  apply u32_ext; intro i hi
  simp only [UInt32.toBitVec_not, UInt32.toBitVec_xor, BitVec.getLsbD_not, BitVec.getLsbD_xor, decide_eq_true hi, Bool.true_and]
  cases x.toBitVec.getLsbD i <;> cases y.toBitVec.getLsbD i <;> cases z.toBitVec.getLsbD i <;> rfl

theorem crcSum_xor3 (a b c : List UInt8) (n : Nat) (ha : a.length = n) (hb : b.length = n) (hc : c.length = n) : crcSum (xor3 a b c) = crcSum a ^^^ crcSum b ^^^ crcSum c := by
  unfold crcSum crcBehind xor3
  have e : ∀ m : UInt32, m = m ^^^ m ^^^ m := by intro m; rw [UInt32.xor_self, UInt32.zero_xor]
  conv => lhs; rw [e (~~~ (0 : UInt32))]
  rw [crcFold_xor _ _ _ _ (by simp [ha, hb, hc]), crcFold_xor _ _ _ _ (by rw [ha, hb]), not_xor3]

theorem xor3_get (a b c : List UInt8) (i : Nat) (ha : i < a.length) (hb : i < b.length) (hc : i < c.length) : (xor3 a b c)[i]? = some (a[i] ^^^ b[i] ^^^ c[i]) := by
  unfold xor3; simp [List.getElem?_zipWith, ha, hb, hc]

/-- the row as far as it is made -/
def madeTo (x : List UInt8) (i : Nat) : List UInt8 := x.take i ++ List.replicate (x.length - i) 0
theorem madeTo_set (x : List UInt8) (i : Nat) (h : i < x.length) : (madeTo x i).set i x[i] = madeTo x (i + 1) := by
  unfold madeTo
  have e : x.length - i = (x.length - (i + 1)) + 1 := by omega
  have e2 : (x.take i).length = i := by rw [List.length_take]; omega
  rw [List.set_append_right _ _ (by rw [e2]; exact Nat.le_refl _), e2, Nat.sub_self, e, List.replicate_succ, List.set_cons_zero, List.take_succ_eq_append_getElem h, List.append_assoc]
  rfl
theorem madeTo_all (x : List UInt8) : madeTo x x.length = x := by simp [madeTo]
theorem madeTo_zero (x : List UInt8) : madeTo x 0 = List.replicate x.length 0 := by simp [madeTo]
theorem madeTo_length (x : List UInt8) (i : Nat) (h : i ≤ x.length) : (madeTo x i).length = x.length := by simp [madeTo]; omega
end Go.Gv
end
section
/- A burst of up to 32 bits tells: the sums of two texts that differ by one are not the same. -/
namespace Go.Gv
set_option linter.unusedSimpArgs false
set_option linter.unusedVariables false

theorem crcBit_zero {n : UInt32} (h : crcBit n = 0) : n = 0 := by
  rw [crcBit_eq] at h
  cases hl : low n with
  | false =>
    rw [hl] at h
    simp only [Bool.false_eq_true, if_false] at h
    apply u32_ext; intro i hi
    have h0 : (0 : UInt32).toBitVec.getLsbD i = false := by simp
    rw [h0]
    cases i with
    | zero => exact hl
    | succ i => rw [← shr1_bit, h]; simp
  | true =>
    rw [hl] at h
    simp only [if_true] at h
    have h31 : ((n >>> 1) ^^^ 0x82F63B78).toBitVec.getLsbD 31 = false := by rw [h]; decide
    rw [UInt32.toBitVec_xor, BitVec.getLsbD_xor, shr1_bit, BitVec.getLsbD_of_ge _ _ (by omega)] at h31
    exact absurd h31 (by decide)
theorem crcBits_nz : ∀ (k : Nat) {n : UInt32}, crcBits k n = 0 → n = 0
  | 0, _, h => h
  | k + 1, n, h => crcBit_zero (crcBits_nz k h)

/-- the difference of two feeds is the feed of the difference -/
theorem bit_xor (a b : Bool) : bit (a ^^ b) = bit a ^^^ bit b := by cases a <;> cases b <;> decide
theorem feed_xor : ∀ (x y : List Bool) (n m : UInt32), x.length = y.length → feed n x ^^^ feed m y = feed (n ^^^ m) (List.zipWith (· ^^ ·) x y)
  | [], [], _, _, _ => rfl
  | a :: x, b :: y, n, m, h => by
    show feed (crcBit (n ^^^ bit a)) x ^^^ feed (crcBit (m ^^^ bit b)) y = feed (crcBit ((n ^^^ m) ^^^ bit (a ^^ b))) _
    rw [feed_xor x y _ _ (by simpa using h), ← crcBit_xor, bit_xor]
    congr 2
    ac_rfl
  | [], _ :: _, _, _, h => by simp at h
  | _ :: _, [], _, _, h => by simp at h
theorem feed_zeros (k : Nat) : ∀ n, feed n (List.replicate k false) = crcBits k n := by
  induction k with
  | zero => intro n; rfl
  | succ k ih =>
    intro n
    show feed (crcBit (n ^^^ bit false)) (List.replicate k false) = crcBits k (crcBit n)
    rw [ih, show bit false = 0 from rfl, UInt32.xor_zero]

/-- bits that are a word's from place k on, and zero elsewhere -/
def burst (k : Nat) (e : UInt32) (i : Nat) : Bool := decide (k ≤ i) && e.toBitVec.getLsbD (i - k)
theorem burst_feed (k m : Nat) (e : UInt32) (h : k + 32 ≤ m) : feed 0 ((List.range m).map (burst k e)) = crcBits (m - (k + 32)) (crcBits 32 e) := by
  have e1 : (List.range m).map (burst k e) = List.replicate k false ++ ((List.range 32).map (fun i => e.toBitVec.getLsbD i) ++ List.replicate (m - (k + 32)) false) := by
    apply List.ext_getElem (by simp; omega)
    intro i h1 h2
    simp only [List.length_map, List.length_range] at h1
    rw [List.getElem_map, List.getElem_range, List.getElem_append]
    unfold burst
    split
    · rename_i hk
      rw [List.length_replicate] at hk
      rw [decide_eq_false (show ¬ k ≤ i by omega), Bool.false_and, List.getElem_replicate]
    · rename_i hk
      simp at hk
      rw [List.getElem_append]
      split
      · rename_i h3
        simp [hk]
      · rename_i h3
        simp at h3
        simp only [List.getElem_replicate]
        rw [BitVec.getLsbD_of_ge _ _ (by omega), Bool.and_false]
  rw [e1, feed_append, feed_append, feed_zeros (m - (k + 32)), feed_zeros k, crcBits_zero, feed_word _ _ 32 (by omega), lowb_all, UInt32.zero_xor]

theorem xor_eq_zero {a b : UInt32} (h : a ^^^ b = 0) : a = b := by
  have : a ^^^ b ^^^ b = b := by rw [h, UInt32.zero_xor]
  rwa [UInt32.xor_assoc, UInt32.xor_self, UInt32.xor_zero] at this
theorem not_inj {a b : UInt32} (h : ~~~ a = ~~~ b) : a = b := by
  have := congrArg (~~~ ·) h
  simpa using this

theorem crcSum_burst (l l' : List UInt8) (k : Nat) (e : UInt32) (hl : l'.length = l.length) (hk : k + 32 ≤ 8 * l.length)
    (hb : ∀ i, i < 8 * l.length → (l'.getD (i / 8) 0).toBitVec.getLsbD (i % 8) = ((l.getD (i / 8) 0).toBitVec.getLsbD (i % 8) ^^ burst k e i)) : (crcSum l' = crcSum l) ↔ e = 0 := by
  have hz : List.zipWith (· ^^ ·) (bitsOf l') (bitsOf l) = (List.range (8 * l.length)).map (burst k e) := by
    apply List.ext_getElem? 
    intro i
    rw [List.getElem?_zipWith]
    by_cases hi : i < 8 * l.length
    · rw [bitsOf_get l' i (by omega), bitsOf_get l i hi]
      simp only [List.getElem?_map, List.getElem?_range hi, Option.map_some]
      rw [hb i hi]
      cases (l.getD (i / 8) 0).toBitVec.getLsbD (i % 8) <;> cases burst k e i <;> rfl
    · rw [List.getElem?_eq_none (l := bitsOf l') (by rw [bitsOf_length]; omega), List.getElem?_eq_none (l := (List.range (8 * l.length)).map (burst k e)) (by simp; omega)]
  have hd : ∀ n, feed n (bitsOf l') ^^^ feed n (bitsOf l) = crcBits (8 * l.length - (k + 32)) (crcBits 32 e) := by
    intro n
    rw [feed_xor _ _ _ _ (by rw [bitsOf_length, bitsOf_length, hl]), UInt32.xor_self, hz, burst_feed k _ e hk]
  constructor
  · intro h
    unfold crcSum crcBehind at h
    have h2 := not_inj h
    rw [crcFold_feed, crcFold_feed] at h2
    have h3 := hd (~~~ 0)
    rw [h2, UInt32.xor_self] at h3
    exact crcBits_nz _ (crcBits_nz _ h3.symm)
  · intro h
    subst h
    have h3 := hd (~~~ 0)
    rw [crcBits_zero, crcBits_zero] at h3
    unfold crcSum crcBehind
    rw [crcFold_feed, crcFold_feed, xor_eq_zero h3]

/-- the text with the burst's first i bits turned -/
def turnBit (l : List UInt8) (p : Nat) : List UInt8 := l.set (p / 8) (l.getD (p / 8) 0 ^^^ (1 <<< UInt8.ofNat (p % 8)))
def turned (l : List UInt8) (k : Nat) (e : UInt32) : Nat → List UInt8
  | 0 => l
  | i + 1 => if e.toBitVec.getLsbD i then turnBit (turned l k e i) (k + i) else turned l k e i
theorem turnBit_length (l : List UInt8) (p : Nat) : (turnBit l p).length = l.length := by simp [turnBit]
theorem turned_length (l : List UInt8) (k : Nat) (e : UInt32) : ∀ i, (turned l k e i).length = l.length
  | 0 => rfl
  | i + 1 => by
    rw [turned]; split
    · rw [turnBit_length]; exact turned_length l k e i
    · exact turned_length l k e i
theorem one_shl (j i : Nat) (hj : j < 8) : ((1 : UInt8) <<< UInt8.ofNat j).toBitVec.getLsbD i = decide (i = j) := by
  have : ∀ j < 8, ((1 : UInt8) <<< UInt8.ofNat j).toBitVec = BitVec.twoPow 8 j := by decide
  rw [this j hj, BitVec.getLsbD_twoPow]
  simp [hj, eq_comm]
theorem turnBit_get (l : List UInt8) (p q : Nat) (hp : p < 8 * l.length) : ((turnBit l p).getD (q / 8) 0).toBitVec.getLsbD (q % 8) = ((l.getD (q / 8) 0).toBitVec.getLsbD (q % 8) ^^ decide (q = p)) := by
  unfold turnBit
  rw [List.getD_eq_getElem?_getD, List.getElem?_set]
  by_cases h : p / 8 = q / 8
  · rw [if_pos h, if_pos (by omega), Option.getD_some, UInt8.toBitVec_xor, BitVec.getLsbD_xor, one_shl _ _ (by omega), h]
    congr 1
    apply decide_eq_decide.2
    omega
  · rw [if_neg h, ← List.getD_eq_getElem?_getD, decide_eq_false (show ¬ q = p by intro e; exact h (by rw [e])), Bool.xor_false]
theorem turned_get (l : List UInt8) (k : Nat) (e : UInt32) (q : Nat) : ∀ i, k + i ≤ 8 * l.length → ((turned l k e i).getD (q / 8) 0).toBitVec.getLsbD (q % 8) = ((l.getD (q / 8) 0).toBitVec.getLsbD (q % 8) ^^ (decide (k ≤ q) && decide (q < k + i) && e.toBitVec.getLsbD (q - k)))
  | 0, _ => by
    rw [turned]
    have : (decide (k ≤ q) && decide (q < k + 0)) = false := by
      rw [Bool.and_eq_false_iff]
      by_cases h : k ≤ q
      · right; simp; omega
      · left; simp; omega
    rw [this, Bool.false_and, Bool.xor_false]
  | i + 1, h => by
    have ih := turned_get l k e q i (by omega)
    by_cases hq : q = k + i
    · subst hq
      have d1 : decide (k ≤ k + i) = true := by simp
      have d2 : decide (k + i < k + i) = false := by simp
      have d3 : decide (k + i < k + (i + 1)) = true := decide_eq_true (by omega)
      rw [d1, d2, Bool.and_false, Bool.false_and, Bool.xor_false] at ih
      rw [d1, d3, Bool.and_true, Bool.true_and, Nat.add_sub_cancel_left, turned]
      split
      · rename_i hb
        rw [turnBit_get _ _ _ (by rw [turned_length]; omega), ih, hb]; simp
      · rename_i hb
        rw [ih, Bool.eq_false_iff.2 hb, Bool.xor_false]
    · have d : decide (q < k + (i + 1)) = decide (q < k + i) := decide_eq_decide.2 (by omega)
      rw [d, ← ih, turned]
      split
      · rw [turnBit_get _ _ _ (by rw [turned_length]; omega), decide_eq_false hq, Bool.xor_false]
      · rfl
theorem crcSum_turned (l : List UInt8) (k : Nat) (e : UInt32) (hk : k + 32 ≤ 8 * l.length) : (crcSum (turned l k e 32) = crcSum l) ↔ e = 0 := by
  refine crcSum_burst l _ k e (turned_length _ _ _ _) hk (fun i hi => ?_)
  rw [turned_get l k e i 32 hk]
  congr 1
  unfold burst
  by_cases h : i < k + 32
  · rw [decide_eq_true h, Bool.and_true]
  · rw [decide_eq_false h, Bool.and_false, Bool.false_and, BitVec.getLsbD_of_ge _ _ (by omega), Bool.and_false]
theorem low_shr (x : UInt32) (i : Nat) (h : i < 32) : low (x >>> UInt32.ofNat i) = x.toBitVec.getLsbD i := by
  unfold low
  have h1 : (x >>> UInt32.ofNat i).toBitVec = x.toBitVec >>> i := by
    apply BitVec.eq_of_toNat_eq
    have hm : (UInt32.ofNat i).toNat % 32 = i := by simp; omega
    rw [UInt32.toNat_toBitVec, UInt32.toNat_shiftRight, hm, BitVec.toNat_ushiftRight, UInt32.toNat_toBitVec]
  rw [h1, BitVec.getLsbD_ushiftRight, Nat.add_zero]
end Go.Gv
end
