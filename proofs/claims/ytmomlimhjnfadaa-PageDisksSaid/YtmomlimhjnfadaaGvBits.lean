/- Whole numbers of the model against Lean's own fixed widths. -/
import Derived.Test.YtmomlimhjnfadaaGvCall
namespace Go.Gv
open Go Go.RowKit
set_option linter.unusedVariables false
set_option linter.unusedSimpArgs false

theorem wrap_i64 {i : Int} (h : -9223372036854775808 ≤ i ∧ i ≤ 9223372036854775807) : IntKind.i64.wrap i = i := IntWalk.i64_in i h
theorem wrap_u8 {i : Int} (h : 0 ≤ i ∧ i ≤ 255) : IntKind.u8.wrap i = i := by
  show i % 256 = i; omega
theorem wrap_u16 {i : Int} (h : 0 ≤ i ∧ i ≤ 65535) : IntKind.u16.wrap i = i := by
  show i % 65536 = i; omega
theorem wrap_u32 {i : Int} (h : 0 ≤ i ∧ i ≤ 4294967295) : IntKind.u32.wrap i = i := by
  show i % 4294967296 = i; omega
theorem wrap_u64 {i : Int} (h : 0 ≤ i ∧ i ≤ 18446744073709551615) : IntKind.u64.wrap i = i := by
  show i % 18446744073709551616 = i; omega
theorem wrapu8 (i : Int) : IntKind.u8.wrap i = i % 256 := rfl
theorem wrapu32 (i : Int) : IntKind.u32.wrap i = i % 4294967296 := rfl
theorem wrapu64 (i : Int) : IntKind.u64.wrap i = i % 18446744073709551616 := rfl

theorem ofInt_nat (w n : Nat) : BitVec.ofInt w (n : Int) = BitVec.ofNat w n := by
  apply BitVec.eq_of_toNat_eq
  simp

theorem xor32 (x y : UInt32) : Go.bits .xor .u32 (x.toNat : Int) (y.toNat : Int) = ((x ^^^ y).toNat : Int) := by
  show ((BitVec.ofInt 32 (x.toNat : Int) ^^^ BitVec.ofInt 32 (y.toNat : Int)).toNat : Int) % 4294967296 = _
  rw [ofInt_nat, ofInt_nat]
  have h1 : BitVec.ofNat 32 x.toNat = x.toBitVec := by apply BitVec.eq_of_toNat_eq; simp
  have h2 : BitVec.ofNat 32 y.toNat = y.toBitVec := by apply BitVec.eq_of_toNat_eq; simp
  rw [h1, h2, ← UInt32.toBitVec_xor]
  have := (x ^^^ y).toNat_lt
  show ((x ^^^ y).toNat : Int) % 4294967296 = _
  omega
theorem and32 (x y : UInt32) : Go.bits .and .u32 (x.toNat : Int) (y.toNat : Int) = ((x &&& y).toNat : Int) := by
  show ((BitVec.ofInt 32 (x.toNat : Int) &&& BitVec.ofInt 32 (y.toNat : Int)).toNat : Int) % 4294967296 = _
  rw [ofInt_nat, ofInt_nat]
  have h1 : BitVec.ofNat 32 x.toNat = x.toBitVec := by apply BitVec.eq_of_toNat_eq; simp
  have h2 : BitVec.ofNat 32 y.toNat = y.toBitVec := by apply BitVec.eq_of_toNat_eq; simp
  rw [h1, h2, ← UInt32.toBitVec_and]
  have := (x &&& y).toNat_lt
  show ((x &&& y).toNat : Int) % 4294967296 = _
  omega
theorem xor8 (x y : UInt8) : Go.bits .xor .u8 (x.toNat : Int) (y.toNat : Int) = ((x ^^^ y).toNat : Int) := by
  show ((BitVec.ofInt 8 (x.toNat : Int) ^^^ BitVec.ofInt 8 (y.toNat : Int)).toNat : Int) % 256 = _
  rw [ofInt_nat, ofInt_nat]
  have h1 : BitVec.ofNat 8 x.toNat = x.toBitVec := by apply BitVec.eq_of_toNat_eq; simp
  have h2 : BitVec.ofNat 8 y.toNat = y.toBitVec := by apply BitVec.eq_of_toNat_eq; simp
  rw [h1, h2, ← UInt8.toBitVec_xor]
  have := (x ^^^ y).toNat_lt
  show ((x ^^^ y).toNat : Int) % 256 = _
  omega
theorem or8 (x y : UInt8) : Go.bits .or .u8 (x.toNat : Int) (y.toNat : Int) = ((x ||| y).toNat : Int) := by
  show ((BitVec.ofInt 8 (x.toNat : Int) ||| BitVec.ofInt 8 (y.toNat : Int)).toNat : Int) % 256 = _
  rw [ofInt_nat, ofInt_nat]
  have h1 : BitVec.ofNat 8 x.toNat = x.toBitVec := by apply BitVec.eq_of_toNat_eq; simp
  have h2 : BitVec.ofNat 8 y.toNat = y.toBitVec := by apply BitVec.eq_of_toNat_eq; simp
  rw [h1, h2, ← UInt8.toBitVec_or]
  have := (x ||| y).toNat_lt
  show ((x ||| y).toNat : Int) % 256 = _
  omega
theorem com32 (x : UInt32) : Go.bits .xor .u32 (if IntKind.u32.signed then -1 else IntKind.u32.max) (x.toNat : Int) = ((~~~ x).toNat : Int) := by
  have e : (if IntKind.u32.signed then -1 else IntKind.u32.max : Int) = ((0xFFFFFFFF : UInt32).toNat : Int) := by decide
  rw [e, xor32]
  congr 2
theorem shr32 (x : UInt32) (k : Nat) (hk : k < 32) (j : Int) (hj : j = k) : (x.toNat : Int) / 2 ^ min j.toNat IntKind.u32.bits = ((x >>> UInt32.ofNat k).toNat : Int) := by
  subst hj
  have hm : min (Int.toNat (k : Int)) IntKind.u32.bits = k := by simp [IntKind.bits]; omega
  rw [hm, UInt32.toNat_shiftRight, Nat.shiftRight_eq_div_pow]
  have : (UInt32.ofNat k).toNat % 32 = k := by simp; omega
  rw [this]
  norm_cast
theorem low8 (x : UInt32) : IntKind.u8.wrap (x.toNat : Int) = (x.toUInt8.toNat : Int) := by
  rw [wrapu8]; simp
theorem neg32 (x : UInt32) : IntKind.u32.wrap (0 - (x.toNat : Int)) = ((0 - x).toNat : Int) := by
  rw [wrapu32, UInt32.toNat_sub]
  have := x.toNat_lt
  simp
  omega

section
variable {P : Program} {w0 : World} {n : NT} {L : Slots} {H H' R : List Atom} {G : Act → World → Prop}
/-- a slot's value in another spelling -/
theorem Tri.setv (k : Nat) {u : Value} (v : Value) (h : look L k = some u) (hv : u = v) (t : Tri w0 G n ((k, v) :: L) H) : Tri w0 G n L H := fun a w ha hw =>
  t a w ⟨ha.defers, ha.size, fun t u e => by
    rw [look_cons] at e
    by_cases hk : k = t
    · subst hk; simp at e; subst e; subst hv; exact ha.get _ _ h
    · rw [if_neg hk] at e; exact ha.get _ _ e⟩ hw
theorem Tri.seti (k : Nat) {ik : IntKind} {i : Int} (j : Int) (h : look L k = some (.int ik i)) (hi : i = j) (t : Tri w0 G n ((k, .int ik j) :: L) H) : Tri w0 G n L H := Tri.setv k _ h (by rw [hi]) t
theorem Tri.setb (k : Nat) {i : Bool} (j : Bool) (h : look L k = some (.bool i)) (hi : i = j) (t : Tri w0 G n ((k, .bool j) :: L) H) : Tri w0 G n L H := Tri.setv k _ h (by rw [hi]) t

/-- the end of a round -/
theorem Tri.again {α : Type} {m : α → Nat} {Lx : α → Slots} {Hx : α → List Atom} {mx : Nat} (y : α) (hm : m y < mx) (hL : SubL L (Lx y)) (p : Pulls H (Hx y) R) : Tri w0 (fun a w => ∃ y, m y < mx ∧ Has a n (Lx y) ∧ St w0 w (Hx y)) n L H := fun a w ha hw =>
  ⟨y, hm, ha.sub hL, (hw.pulls p).1, Sat.left (hw.pulls p).2⟩
theorem Tri.eqA {A B : Atom} (p : Pull H A H') (e : A = B) (k : Tri w0 G n L (B :: H')) : Tri w0 G n L H := by subst e; exact Tri.pull p k
theorem St.all {As : List Atom} (p : Pulls H As R) : ∀ w, St w0 w H → St w0 w As := fun w hw => ⟨(hw.pulls p).1, Sat.left (hw.pulls p).2⟩
theorem fin_R {Rr : List Atom → Prop} {Hn F : List Atom} (p : Pulls H (Hn ++ F) R) (hr : Rr Hn) : ∀ w, St w0 w H → ∃ H', Rr H' ∧ St w0 w (H' ++ F) := fun w hw => ⟨Hn, hr, (hw.pulls p).1, Sat.left (hw.pulls p).2⟩
end
end Go.Gv
