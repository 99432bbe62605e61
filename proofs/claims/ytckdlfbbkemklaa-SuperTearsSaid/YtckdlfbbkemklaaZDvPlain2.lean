import Derived.Test.YtckdlfbbkemklaaZPgDisk
import Derived.Test.YtckdlfbbkemklaaZDkWalk2
/- Pages of a disk, in plain terms. -/
namespace Go.Proofs.Ytckdlfbbkemklaa
open Go Go.RowKit Go.Gv
set_option linter.unusedVariables false
set_option linter.unusedSimpArgs false

theorem seg_same (n : Nat) (A : List UInt8) (i : Nat) (b : List UInt8) (hi : i * n + n ≤ A.length) (hb : b.length = n) : ((putAt A (i * n) b).drop (i * n)).take n = b := by
  unfold putAt
  rw [List.append_assoc, List.drop_append_of_le_length (by rw [List.length_take]; omega), List.drop_of_length_le (by rw [List.length_take]; omega), List.nil_append, List.take_left' hb]
theorem seg_other (n : Nat) (A : List UInt8) (i j : Nat) (b : List UInt8) (hi : i * n + n ≤ A.length) (hb : b.length = n) (hj : j ≠ i) : ((putAt A (i * n) b).drop (j * n)).take n = (A.drop (j * n)).take n := by
  apply List.ext_getElem?
  intro k
  rw [List.getElem?_take, List.getElem?_take]
  split
  · rename_i hk
    rw [List.getElem?_drop, List.getElem?_drop]
    unfold putAt
    have hlt : (A.take (i * n)).length = i * n := by rw [List.length_take]; omega
    by_cases hji : j < i
    · have : j * n + k < i * n := by
        have := Nat.mul_le_mul_right n (show j + 1 ≤ i from hji)
        rw [Nat.add_mul] at this; omega
      rw [List.append_assoc, List.getElem?_append_left (by omega), List.getElem?_take, if_pos this]
    · have : i * n + n ≤ j * n + k := by
        have := Nat.mul_le_mul_right n (show i + 1 ≤ j by omega)
        rw [Nat.add_mul] at this; omega
      rw [List.getElem?_append_right (by rw [List.length_append]; omega), List.getElem?_drop, List.length_append, hlt, hb]
      congr 1; omega
  · rfl
theorem pgAt_same (A : List UInt8) (i : Nat) (b : List UInt8) (hi : i * 256 + 256 ≤ A.length) (hb : b.length = 256) : pgAt (putAt A (i * 256) b) i = b := seg_same 256 A i b hi hb
theorem pgAt_other (A : List UInt8) (i j : Nat) (b : List UInt8) (hi : i * 256 + 256 ≤ A.length) (hb : b.length = 256) (hj : j ≠ i) : pgAt (putAt A (i * 256) b) j = pgAt A j := seg_other 256 A i j b hi hb hj
/-- a disk with power -/
def DS.on (S : DS) : Prop := S.ok ∧ S.off = false ∧ S.till = -1
theorem DS.wrs_page {S : DS} (h : S.on) (a : Nat) (b : List UInt8) (hb : b.length = 256) (ha : a * 256 + 256 ≤ S.A.length) :
    (S.wrs ((a : Int) * 4) (secs b 4)).2 = 0 ∧ (S.wrs ((a : Int) * 4) (secs b 4)).1.on ∧ (S.wrs ((a : Int) * 4) (secs b 4)).1.V = putAt S.V (a * 256) b ∧ (S.wrs ((a : Int) * 4) (secs b 4)).1.A = S.A ∧ (S.wrs ((a : Int) * 4) (secs b 4)).1.W.length ≤ S.W.length + 4 := by
  have h1 := DS.wrs_V h.1 (a * 4) b h.2.1 h.2.2 4 (by omega) (by omega)
  have h2 := DS.wrs_len (secs b 4) S ((a : Int) * 4)
  have e : ((a * 4 : Nat) : Int) = (a : Int) * 4 := by omega
  rw [e] at h1
  rw [secs_length] at h2
  refine ⟨h1.1, ⟨DS.wrs_ok _ _ h.1, h1.2.1, h1.2.2.1⟩, ?_, h2.2, h2.1⟩
  rw [h1.2.2.2, show a * 4 * 64 = a * 256 by omega, List.take_of_length_le (by omega)]
theorem rdE_page {S : DS} (h : S.on) (a : Nat) (ha : a * 256 + 256 ≤ S.A.length) : rdE S ((a : Int) * 4) 4 = 0 := by
  have := rdE_of (S := S) (a := a * 4) h.2.1 4 (by omega)
  rwa [show ((a * 4 : Nat) : Int) = (a : Int) * 4 by omega] at this
theorem rdPg_on {S : DS} (h : S.on) (a : Nat) (ha : a * 256 + 256 ≤ S.A.length) (kind : UInt8) : rdPg S (a : Int) kind = if (getP (pgAt S.V a)).2 = 0 ∧ (getP (pgAt S.V a)).1.a = (a : Int) ∧ (getP (pgAt S.V a)).1.k = kind then getP (pgAt S.V a) else (zeroP, 3) := by
  rw [rdPg, rdE_page h a ha, if_neg (by simp)]; rfl
/-- behind the end -/
theorem rdPg_beyond {S : DS} (h : S.on) (a : Nat) (ha : S.A.length ≤ a * 256) (kind : UInt8) : rdPg S (a : Int) kind = (zeroP, 1) := by
  have e : rdE S ((a : Int) * 4) 1 = 1 := by
    rw [rdE, if_neg (by simp [rdE]), h.2.1, mayE, if_neg (by simp), if_pos (.inr (by omega))]
  have e4 : rdE S ((a : Int) * 4) 4 = 1 := by
    have := rdE_mono (S := S) (i := (a : Int) * 4) (k := 1) (by rw [e]; simp) 3
    rw [show 1 + 3 = 4 from rfl] at this
    rw [this, e]
  rw [rdPg, e4, if_pos (by simp)]
/-- an empty disk -/
def DS.new (k : Nat) : DS := ⟨List.replicate (k * 256) 0, [], false, -1⟩
theorem DS.new_on (k : Nat) (h : k ≤ 512) : (DS.new k).on := ⟨⟨by show (List.replicate _ _).length ≤ _; simp; omega, by show -1 ≤ (-1 : Int) ∧ (-1 : Int) ≤ _; omega, fun x hx => by cases hx⟩, rfl, rfl⟩
theorem DS.new_ok (k : Nat) (h : k ≤ 512) : (DS.new k).ok := (DS.new_on k h).1
theorem DS.new_len (k : Nat) : (DS.new k).A.length = k * 256 := List.length_replicate
theorem DS.new_W (k : Nat) : (DS.new k).W = [] := rfl
theorem disk_NewD (k : Nat) (h : 8 ≤ k ∧ k ≤ 512) : SpecR Try.prog 25 #[.int .i64 (k : Int)] (fun _ => True) (fun r H' => ∃ p, r = .tuple #[.pointer (some ⟨p, 0, none⟩), .int .i64 0] ∧ H' = [DSK p (DS.new k)]) := by
  refine SpecR.conv (disk_New k h) (fun r H' hr => ?_)
  obtain ⟨p, a, rfl, rfl⟩ := hr
  exact ⟨_, ⟨p, rfl, rfl⟩, fun w0 w H hw => dsk_close (S := DS.new k) (W := []) rfl hw⟩
end Go.Proofs.Ytckdlfbbkemklaa
