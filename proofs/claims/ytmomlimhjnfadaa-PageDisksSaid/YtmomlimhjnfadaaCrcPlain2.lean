/- The sum bit by bit: that the table's bytes and the reference's bits are one; that bursts are told. -/
import Derived.Test.YtmomlimhjnfadaaCrcPlain
namespace Go.Gv
set_option linter.unusedSimpArgs false

theorem u32_ext {x y : UInt32} (h : ∀ i, i < 32 → x.toBitVec.getLsbD i = y.toBitVec.getLsbD i) : x = y := by
  apply UInt32.toBitVec_inj.1
  exact BitVec.eq_of_getLsbD_eq (fun i hi => h i hi)

/-- the low bit -/
def low (n : UInt32) : Bool := n.toBitVec.getLsbD 0
theorem and_one (n : UInt32) : n &&& 1 = if low n then 1 else 0 := by
  apply u32_ext
  intro i hi
  unfold low
  have h1 : (1 : UInt32).toBitVec = 1#32 := rfl
  rw [UInt32.toBitVec_and, BitVec.getLsbD_and, h1]
  by_cases h0 : i = 0
  · subst h0
    cases h : n.toBitVec.getLsbD 0 <;> simp
  · have : (1#32).getLsbD i = false := by
      rw [BitVec.getLsbD_one]; simp [h0]
    rw [this, Bool.and_false]
    cases h : n.toBitVec.getLsbD 0
    · simp
    · simp only [if_true, h1, this]

theorem crcBit_eq (n : UInt32) : crcBit n = if low n then (n >>> 1) ^^^ 0x82F63B78 else n >>> 1 := by
  unfold crcBit
  rw [and_one]
  cases low n
  · simp
  · have e : (0x82F63B78 : UInt32) &&& (0 - 1) = 0x82F63B78 := by decide
    simp only [if_true, e]

theorem low_xor (x y : UInt32) : low (x ^^^ y) = (low x ^^ low y) := by
  unfold low; rw [UInt32.toBitVec_xor, BitVec.getLsbD_xor]
theorem shr1_bit (x : UInt32) (i : Nat) : (x >>> 1).toBitVec.getLsbD i = x.toBitVec.getLsbD (i + 1) := by
  have : (x >>> 1).toBitVec = x.toBitVec >>> 1 := rfl
  rw [this, BitVec.getLsbD_ushiftRight, Nat.add_comm]
theorem shr1_xor (x y : UInt32) : (x ^^^ y) >>> 1 = (x >>> 1) ^^^ (y >>> 1) := by
  apply u32_ext; intro i hi
  simp only [UInt32.toBitVec_xor, BitVec.getLsbD_xor, shr1_bit]
theorem crcBit_xor (x y : UInt32) : crcBit (x ^^^ y) = crcBit x ^^^ crcBit y := by
  rw [crcBit_eq, crcBit_eq, crcBit_eq, low_xor, shr1_xor]
  cases low x <;> cases low y <;> simp only [Bool.xor_false, Bool.xor_true, Bool.not_false, Bool.not_true, if_true, if_false, Bool.false_eq_true]
  · ac_rfl
  · ac_rfl
  · have e : ∀ a b p : UInt32, a ^^^ b = a ^^^ p ^^^ (b ^^^ p) := by
      intro a b p
      have : a ^^^ p ^^^ (b ^^^ p) = a ^^^ b ^^^ (p ^^^ p) := by ac_rfl
      rw [this]; simp
    exact e _ _ _
theorem crcBits_xor (k : Nat) : ∀ x y : UInt32, crcBits k (x ^^^ y) = crcBits k x ^^^ crcBits k y := by
  induction k with
  | zero => intro x y; rfl
  | succ k ih => intro x y; simp only [crcBits]; rw [crcBit_xor, ih]
theorem crcBits_zero (k : Nat) : crcBits k 0 = 0 := by
  induction k with
  | zero => rfl
  | succ k ih => exact ih

/-- a bit at a place -/
def bitPos (b : Bool) (k : Nat) : UInt32 := ⟨if b then BitVec.twoPow 32 k else 0#32⟩
theorem bitPos_get (b : Bool) (k i : Nat) (hk : k < 32) : (bitPos b k).toBitVec.getLsbD i = (b && decide (i = k)) := by
  unfold bitPos
  cases b
  · simp
  · simp [BitVec.getLsbD_twoPow, hk, eq_comm]
theorem crcBits_pos (b : Bool) : ∀ k, k < 32 → crcBits k (bitPos b k) = if b then 1 else 0 := by
  intro k
  induction k with
  | zero => intro _; cases b <;> rfl
  | succ k ih =>
    intro hk
    simp only [crcBits]
    have e : crcBit (bitPos b (k + 1)) = bitPos b k := by
      rw [crcBit_eq]
      have : low (bitPos b (k + 1)) = false := by unfold low; rw [bitPos_get _ _ _ hk]; simp
      rw [this]
      apply u32_ext; intro i hi
      simp only [Bool.false_eq_true, if_false, shr1_bit]
      rw [bitPos_get _ _ _ hk, bitPos_get _ _ _ (by omega)]
      simp
    rw [e, ih (by omega)]

def lowb (x : UInt32) (k : Nat) : UInt32 := ⟨(x.toBitVec.setWidth k).setWidth 32⟩
theorem lowb_get (x : UInt32) (k i : Nat) (hi : i < 32) : (lowb x k).toBitVec.getLsbD i = (decide (i < k) && x.toBitVec.getLsbD i) := by
  unfold lowb
  simp [BitVec.getLsbD_setWidth, hi]
theorem lowb_zero (x : UInt32) : lowb x 0 = 0 := by
  apply u32_ext; intro i hi; rw [lowb_get _ _ _ hi]; simp
theorem lowb_all (x : UInt32) : lowb x 32 = x := by
  apply u32_ext; intro i hi; rw [lowb_get _ _ _ hi]; simp [hi]
theorem lowb_succ (x : UInt32) (k : Nat) (hk : k < 32) : lowb x (k + 1) = lowb x k ^^^ bitPos (x.toBitVec.getLsbD k) k := by
  apply u32_ext; intro i hi
  rw [UInt32.toBitVec_xor, BitVec.getLsbD_xor, lowb_get _ _ _ hi, lowb_get _ _ _ hi, bitPos_get _ _ _ hk]
  by_cases h : i = k
  · subst h; simp
  · by_cases h2 : i < k
    · simp [h, h2, show i < k + 1 by omega]
    · simp [h, h2, show ¬ i < k + 1 by omega]

def bit (b : Bool) : UInt32 := if b then 1 else 0
def feed (n : UInt32) (bs : List Bool) : UInt32 := bs.foldl (fun n b => crcBit (n ^^^ bit b)) n
theorem feed_append (n : UInt32) (a b : List Bool) : feed n (a ++ b) = feed (feed n a) b := by unfold feed; rw [List.foldl_append]
theorem feed_word (n x : UInt32) : ∀ k, k ≤ 32 → feed n ((List.range k).map fun i => x.toBitVec.getLsbD i) = crcBits k (n ^^^ lowb x k) := by
  intro k
  induction k with
  | zero => intro _; rw [lowb_zero]; simp [feed, crcBits]
  | succ k ih =>
    intro hk
    rw [List.range_succ, List.map_append, feed_append, ih (by omega), lowb_succ _ _ (by omega), ← UInt32.xor_assoc, crcBits_succ, crcBits_xor k _ (bitPos _ _), crcBits_pos _ _ (by omega)]
    rfl

def bitsOf (l : List UInt8) : List Bool := l.flatMap fun c => (List.range 8).map fun i => c.toBitVec.getLsbD i
theorem byte_bits (c : UInt8) : ((List.range 8).map fun i => c.toBitVec.getLsbD i) = (List.range 8).map fun i => c.toUInt32.toBitVec.getLsbD i := by
  apply List.map_congr_left
  intro i hi
  simp at hi
  rw [UInt8.toBitVec_toUInt32, BitVec.getLsbD_setWidth]
  simp; omega
theorem lowb_byte (c : UInt8) : lowb c.toUInt32 8 = c.toUInt32 := by
  apply u32_ext; intro i hi
  rw [lowb_get _ _ _ hi, UInt8.toBitVec_toUInt32, BitVec.getLsbD_setWidth]
  by_cases h : i < 8
  · simp [h]
  · have : c.toBitVec.getLsbD i = false := BitVec.getLsbD_of_ge _ _ (by omega)
    simp [this]
theorem shift_zero (z : UInt32) : ∀ j, (∀ i, i < j → z.toBitVec.getLsbD i = false) → ∀ i, (crcBits j z).toBitVec.getLsbD i = z.toBitVec.getLsbD (i + j) := by
  intro j
  induction j generalizing z with
  | zero => intro _ i; rfl
  | succ j ih =>
    intro hz i
    simp only [crcBits]
    have e : crcBit z = z >>> 1 := by
      rw [crcBit_eq]
      have : low z = false := hz 0 (by omega)
      rw [this]; rfl
    rw [e, ih (z >>> 1) (fun i hi => by rw [shr1_bit]; exact hz (i + 1) (by omega)) i, shr1_bit]
    congr 1
theorem crcByte_eq (n : UInt32) (c : UInt8) : crcByte n c = crcBits 8 (n ^^^ c.toUInt32) := by
  have split : n ^^^ c.toUInt32 = (lowb n 8 ^^^ c.toUInt32) ^^^ (n ^^^ lowb n 8) := by
    have : (lowb n 8 ^^^ c.toUInt32) ^^^ (n ^^^ lowb n 8) = n ^^^ c.toUInt32 ^^^ (lowb n 8 ^^^ lowb n 8) := by ac_rfl
    rw [this]; simp
  rw [split, crcBits_xor]
  unfold crcByte crcTab
  have h1 : UInt32.ofNat (n.toUInt8 ^^^ c).toNat = lowb n 8 ^^^ c.toUInt32 := by
    apply u32_ext; intro i hi
    have e : (UInt32.ofNat (n.toUInt8 ^^^ c).toNat).toBitVec = (n.toUInt8 ^^^ c).toBitVec.setWidth 32 := by
      apply BitVec.eq_of_toNat_eq
      simp
    rw [e, BitVec.getLsbD_setWidth, UInt8.toBitVec_xor, BitVec.getLsbD_xor, UInt32.toBitVec_xor, BitVec.getLsbD_xor, lowb_get _ _ _ hi, UInt8.toBitVec_toUInt32, BitVec.getLsbD_setWidth]
    have e2 : n.toUInt8.toBitVec.getLsbD i = (decide (i < 8) && n.toBitVec.getLsbD i) := by
      have : n.toUInt8.toBitVec = n.toBitVec.setWidth 8 := rfl
      rw [this, BitVec.getLsbD_setWidth]
    rw [e2]; simp [hi]
  have h2 : crcBits 8 (n ^^^ lowb n 8) = n >>> 8 := by
    apply u32_ext; intro i hi
    rw [shift_zero _ 8 (fun i hi => by rw [UInt32.toBitVec_xor, BitVec.getLsbD_xor, lowb_get _ _ _ (by omega)]; simp [hi])]
    have e : (n >>> 8).toBitVec = n.toBitVec >>> 8 := rfl
    rw [e, BitVec.getLsbD_ushiftRight, UInt32.toBitVec_xor, BitVec.getLsbD_xor, Nat.add_comm 8 i]
    by_cases h : i + 8 < 32
    · rw [lowb_get _ _ _ h, decide_eq_false (show ¬ i + 8 < 8 by omega), Bool.false_and, Bool.xor_false]
    · rw [BitVec.getLsbD_of_ge _ _ (by omega), BitVec.getLsbD_of_ge _ _ (by omega)]; rfl
  rw [h1, h2, UInt32.xor_comm]
theorem crcFold_feed (l : List UInt8) : ∀ n, crcFold n l = feed n (bitsOf l) := by
  induction l with
  | nil => intro n; rfl
  | cons c l ih =>
    intro n
    have e : bitsOf (c :: l) = ((List.range 8).map fun i => c.toBitVec.getLsbD i) ++ bitsOf l := by simp [bitsOf]
    rw [e, feed_append, byte_bits, feed_word _ _ 8 (by omega), lowb_byte, ← crcByte_eq, ← ih]
    rfl
theorem bitsOf_length (l : List UInt8) : (bitsOf l).length = 8 * l.length := by
  induction l with
  | nil => rfl
  | cons c l ih =>
    have e : bitsOf (c :: l) = ((List.range 8).map fun i => c.toBitVec.getLsbD i) ++ bitsOf l := by simp [bitsOf]
    rw [e, List.length_append, ih]; simp; omega
theorem bitsOf_get (l : List UInt8) : ∀ i, i < 8 * l.length → (bitsOf l)[i]? = some ((l.getD (i / 8) 0).toBitVec.getLsbD (i % 8)) := by
  induction l with
  | nil => intro i h; simp at h
  | cons c l ih =>
    intro i h
    have e : bitsOf (c :: l) = ((List.range 8).map fun i => c.toBitVec.getLsbD i) ++ bitsOf l := by simp [bitsOf]
    rw [e, List.getElem?_append]
    by_cases h8 : i < 8
    · rw [if_pos (by simpa using h8)]
      have e1 : i / 8 = 0 := by omega
      have e2 : i % 8 = i := by omega
      rw [e1, e2]; simp [h8]
    · rw [if_neg (by simpa using h8)]
      simp only [List.length_map, List.length_range, List.length_cons] at h ⊢
      rw [ih (i - 8) (by omega)]
      have e1 : i / 8 = (i - 8) / 8 + 1 := by omega
      have e2 : i % 8 = (i - 8) % 8 := by omega
      rw [e1, e2]; simp
theorem bitAt_eq (l : List UInt8) (i : Nat) : bitAt l i = bit ((l.getD (i / 8) 0).toBitVec.getLsbD (i % 8)) := by
  unfold bitAt
  rw [and_one]
  have e : low ((l.getD (i / 8) 0).toUInt32 >>> UInt32.ofNat (i % 8)) = (l.getD (i / 8) 0).toBitVec.getLsbD (i % 8) := by
    unfold low
    have h1 : ((l.getD (i / 8) 0).toUInt32 >>> UInt32.ofNat (i % 8)).toBitVec = (l.getD (i / 8) 0).toUInt32.toBitVec >>> (i % 8) := by
      apply BitVec.eq_of_toNat_eq
      have hm : (UInt32.ofNat (i % 8)).toNat % 32 = i % 8 := by simp; omega
      rw [UInt32.toNat_toBitVec, UInt32.toNat_shiftRight, hm, BitVec.toNat_ushiftRight, UInt32.toNat_toBitVec]
    rw [h1, BitVec.getLsbD_ushiftRight, Nat.add_zero, UInt8.toBitVec_toUInt32, BitVec.getLsbD_setWidth]
    simp; omega
  rw [e]; rfl
theorem refBit_eq (n : UInt32) (b : Bool) : refBit n (bit b) = crcBit (n ^^^ bit b) := by
  unfold refBit
  rw [crcBit_eq, low_xor, shr1_xor, and_one]
  have h0 : (1 : UInt32) >>> 1 = 0 := by decide
  have h1 : low 1 = true := by decide
  have h2 : low 0 = false := by decide
  cases b <;> cases h : low n <;> simp [bit, h0, h1, h2]
theorem refAt_eq (l : List UInt8) : ∀ i, i ≤ 8 * l.length → refAt l i = feed 0xFFFFFFFF ((bitsOf l).take i) := by
  intro i
  induction i with
  | zero => intro _; rfl
  | succ i ih =>
    intro h
    have hg := bitsOf_get l i (by omega)
    rw [refAt, ih (by omega), bitAt_eq, refBit_eq]
    rw [List.take_add_one, hg, feed_append]
    rfl
theorem refSum_eq (l : List UInt8) : refSum l = crcSum l := by
  unfold refSum crcSum crcBehind
  rw [refAt_eq l _ (Nat.le_refl _), crcFold_feed, ← bitsOf_length, List.take_length]
  have e : ~~~ (0 : UInt32) = 0xFFFFFFFF := by decide
  rw [e]
  apply u32_ext; intro i hi
  have h1 : (0xFFFFFFFF : UInt32).toBitVec = BitVec.allOnes 32 := by decide
  rw [UInt32.toBitVec_xor, UInt32.toBitVec_not, h1, BitVec.getLsbD_xor, BitVec.getLsbD_not, BitVec.getLsbD_allOnes]
  simp [hi]

theorem crc_two (l : List UInt8) (q : Nat) : crcBehind (crcSum (l.take q)) (l.drop q) = crcSum l := by
  unfold crcSum crcBehind
  rw [UInt32.not_not]
  conv => rhs; rw [← List.take_append_drop q l]
  unfold crcFold
  rw [List.foldl_append]
end Go.Gv
