import Derived.Test.YtckdlfbbkemklaaZPgPlain
import Derived.Test.YtckdlfbbkemklaaZDvPlain2
section
/- super: what its functions compute, in plain terms. -/
namespace Go.Gv
set_option linter.unusedVariables false
set_option linter.unusedSimpArgs false

structure SP where
  gen : Nat
  addr : Int
  height : Int
  bitmap : Int
  pages : Int
def zeroS : SP := ⟨0, 0, 0, 0, 0⟩
def okS (s : SP) : Bool :=
  decide (s.gen ≠ 0) && (decide (8 ≤ s.pages) && (decide (s.pages ≤ 512) && ((decide (2 ≤ s.bitmap) && decide (s.bitmap < s.pages)) &&
    (if s.height = 0 then decide (s.addr = 0) else decide (0 < s.height) && (decide (s.height ≤ 5) && ((decide (2 ≤ s.addr) && decide (s.addr < s.pages)) && decide (s.addr ≠ s.bitmap)))))))
theorem okS_spec {s : SP} (h : okS s = true) : s.gen ≠ 0 ∧ 8 ≤ s.pages ∧ s.pages ≤ 512 ∧ 2 ≤ s.bitmap ∧ s.bitmap < s.pages ∧ 0 ≤ s.height ∧ s.height ≤ 5 ∧ 0 ≤ s.addr ∧ s.addr < s.pages := by
  simp only [okS, Bool.and_eq_true, decide_eq_true_eq] at h
  obtain ⟨h1, h2, h3, ⟨h4, h5⟩, h6⟩ := h
  split at h6
  · have := of_decide_eq_true h6
    exact ⟨h1, h2, h3, h4, h5, by omega, by omega, by omega, by omega⟩
  · simp only [Bool.and_eq_true, decide_eq_true_eq] at h6
    exact ⟨h1, h2, h3, h4, h5, by omega, h6.2.1, by omega, h6.2.2.1.2⟩
def putS (s : SP) : List UInt8 := bigB s.gen 8 ++ bigB s.addr.toNat 2 ++ [UInt8.ofNat s.height.toNat] ++ bigB s.bitmap.toNat 2 ++ bigB s.pages.toNat 2
theorem putS_length (s : SP) : (putS s).length = 15 := by simp [putS, bigB_length]
def gotS (l : List UInt8) : SP := ⟨numB (l.take 8), numB ((l.drop 8).take 2), (l.getD 10 0).toNat, numB ((l.drop 11).take 2), numB ((l.drop 13).take 2)⟩
def getS (l : List UInt8) : SP × Nat := if l.length ≠ 15 then (zeroS, 3) else if okS (gotS l) = true then (gotS l, 0) else (zeroS, 3)
theorem got_putS {s : SP} (h : okS s = true) (hg : s.gen < 18446744073709551616) : gotS (putS s) = s := by
  obtain ⟨h1, h2, h3, h4, h5, h6, h7, h8, h9⟩ := okS_spec h
  have a1 : (putS s).take 8 = bigB s.gen 8 := by
    rw [putS, List.append_assoc, List.append_assoc, List.append_assoc, List.take_left' (bigB_length _ _)]
  have a2 : ((putS s).drop 8).take 2 = bigB s.addr.toNat 2 := by
    have e : putS s = bigB s.gen 8 ++ bigB s.addr.toNat 2 ++ ([UInt8.ofNat s.height.toNat] ++ bigB s.bitmap.toNat 2 ++ bigB s.pages.toNat 2) := by simp [putS]
    rw [e, seg _ _ _ 8 2 (bigB_length _ _) (bigB_length _ _)]
  have a3 : (putS s).getD 10 0 = UInt8.ofNat s.height.toNat := by
    have e : putS s = (bigB s.gen 8 ++ bigB s.addr.toNat 2) ++ (UInt8.ofNat s.height.toNat :: (bigB s.bitmap.toNat 2 ++ bigB s.pages.toNat 2)) := by simp [putS]
    rw [e, List.getD_eq_getElem?_getD, List.getElem?_append_right (by simp [bigB_length])]
    simp [bigB_length]
  have a4 : ((putS s).drop 11).take 2 = bigB s.bitmap.toNat 2 := by
    have e : putS s = (bigB s.gen 8 ++ bigB s.addr.toNat 2 ++ [UInt8.ofNat s.height.toNat]) ++ bigB s.bitmap.toNat 2 ++ bigB s.pages.toNat 2 := by simp [putS]
    rw [e, seg _ _ _ 11 2 (by simp [bigB_length]) (bigB_length _ _)]
  have a5 : ((putS s).drop 13).take 2 = bigB s.pages.toNat 2 := by
    have e : putS s = (bigB s.gen 8 ++ bigB s.addr.toNat 2 ++ [UInt8.ofNat s.height.toNat] ++ bigB s.bitmap.toNat 2) ++ bigB s.pages.toNat 2 ++ [] := by simp [putS]
    rw [e, seg _ _ _ 13 2 (by simp [bigB_length]) (bigB_length _ _)]
  unfold gotS
  rw [a1, a2, a3, a4, a5, num_big, num_big, num_big, num_big]
  have e3 : (UInt8.ofNat s.height.toNat).toNat = s.height.toNat := by rw [UInt8.toNat_ofNat']; omega
  rw [e3]
  cases s
  simp only [SP.mk.injEq]
  simp only at h1 h2 h3 h4 h5 h6 h7 h8 h9 hg
  refine ⟨by omega, by omega, by omega, by omega, by omega⟩
theorem bigB_snoc (n : Nat) (c : UInt8) : ∀ k, bigB (n * 256 + c.toNat) (k + 1) = bigB n k ++ [c]
  | 0 => by
    have hc := c.toNat_lt
    show [UInt8.ofNat ((n * 256 + c.toNat) / 2 ^ (8 * 0))] = [c]
    congr 1
    apply UInt8.toNat_inj.1
    rw [UInt8.toNat_ofNat']
    omega
  | k + 1 => by
    have hc := c.toNat_lt
    have ih := bigB_snoc n c k
    rw [bigB, ih]
    rw [show bigB n (k + 1) = UInt8.ofNat (n / 2 ^ (8 * k)) :: bigB n k from rfl, List.cons_append]
    congr 2
    have e : (2 : Nat) ^ (8 * (k + 1)) = 256 * 2 ^ (8 * k) := by rw [show 8 * (k + 1) = 8 * k + 8 by omega, Nat.pow_add, Nat.mul_comm]
    rw [e, ← Nat.div_div_eq_div_mul]
    congr 1
    omega
theorem big_num (l : List UInt8) : bigB (numB l) l.length = l := by
  have : ∀ r : List UInt8, bigB (numB r.reverse) r.length = r.reverse := by
    intro r
    induction r with
    | nil => rfl
    | cons c r ih => rw [List.reverse_cons, numB_snoc, List.length_cons, bigB_snoc, ih]
  have h := this l.reverse
  rwa [List.reverse_reverse, List.length_reverse] at h
theorem cut15 {l : List UInt8} (h : l.length = 15) : l = l.take 8 ++ (l.drop 8).take 2 ++ [l.getD 10 0] ++ (l.drop 11).take 2 ++ (l.drop 13).take 2 := by
  match l, h with
  | [a, b, c, d, e, f, g, i, j, k, m, n, o, p, q], _ => rfl
theorem put_gotS {l : List UInt8} (h : l.length = 15) : putS (gotS l) = l := by
  have b1 := big_num (l.take 8)
  have b2 := big_num ((l.drop 8).take 2)
  have b3 := big_num ((l.drop 11).take 2)
  have b4 := big_num ((l.drop 13).take 2)
  rw [show (l.take 8).length = 8 by rw [List.length_take]; omega] at b1
  rw [show ((l.drop 8).take 2).length = 2 by rw [List.length_take, List.length_drop]; omega] at b2
  rw [show ((l.drop 11).take 2).length = 2 by rw [List.length_take, List.length_drop]; omega] at b3
  rw [show ((l.drop 13).take 2).length = 2 by rw [List.length_take, List.length_drop]; omega] at b4
  unfold putS gotS
  simp only [Int.toNat_natCast, UInt8.ofNat_toNat]
  rw [b1, b2, b3, b4]
  exact (cut15 h).symm
theorem get_putS {s : SP} (h : okS s = true) (hg : s.gen < 18446744073709551616) : getS (putS s) = (s, 0) := by
  rw [getS, if_neg (by rw [putS_length]; simp), got_putS h hg, if_pos h]
theorem getS_ok {l : List UInt8} (h : (getS l).2 = 0) : okS (getS l).1 = true ∧ putS (getS l).1 = l ∧ (getS l).1.gen < 18446744073709551616 := by
  unfold getS at h ⊢
  split at h
  · cases h
  · rename_i h1
    split at h
    · rename_i h2
      rw [if_neg h1, if_pos h2]
      refine ⟨h2, put_gotS (by omega), ?_⟩
      have := numB_lt (l.take 8)
      rw [show (l.take 8).length = 8 by rw [List.length_take]; omega] at this
      exact this
    · cases h
theorem getS_bad {l : List UInt8} (h : (getS l).2 ≠ 0) : getS l = (zeroS, 3) := by
  unfold getS at h ⊢
  split
  · rfl
  · rename_i h1
    split
    · rename_i h2
      rw [if_neg h1, if_pos h2] at h
      exact absurd rfl h
    · rfl
end Go.Gv
end
section
/- super: supers of a disk, in plain terms. -/
namespace Go.Proofs.Ytckdlfbbkemklaa
open Go Go.RowKit Go.Gv
set_option linter.unusedVariables false
set_option linter.unusedSimpArgs false

/-- a super that is read: it, is it right, the error -/
def rdS (S : DS) (at_ : Nat) : SP × Bool × Nat :=
  if (rdPg S (at_ : Int) 83).2 = 3 then (zeroS, false, 0)
  else if (rdPg S (at_ : Int) 83).2 ≠ 0 then (zeroS, false, (rdPg S (at_ : Int) 83).2)
  else ((getS (rdPg S (at_ : Int) 83).1.b).1, decide ((getS (rdPg S (at_ : Int) 83).1.b).2 = 0) && (decide ((getS (rdPg S (at_ : Int) 83).1.b).1.gen = (rdPg S (at_ : Int) 83).1.g) && (decide ((getS (rdPg S (at_ : Int) 83).1.b).1.gen % 2 = at_) && decide ((getS (rdPg S (at_ : Int) 83).1.b).1.pages = ((S.A.length / 256 : Nat) : Int)))), 0)
/-- the best of the first few -/
def nwTo (S : DS) : Nat → SP × Nat
  | 0 => (zeroS, 0)
  | k + 1 => if (nwTo S k).2 ≠ 0 then nwTo S k else if (rdS S k).2.2 ≠ 0 then (zeroS, (rdS S k).2.2) else if (rdS S k).2.1 = true ∧ (nwTo S k).1.gen < (rdS S k).1.gen then ((rdS S k).1, 0) else nwTo S k
def nwS (S : DS) : SP × Nat := if (nwTo S 2).2 ≠ 0 then nwTo S 2 else if (nwTo S 2).1.gen = 0 then (zeroS, 3) else nwTo S 2
/-- a super's page -/
def pgS (s : SP) : PG := ⟨83, ((s.gen % 2 : Nat) : Int), s.gen, putS s⟩
theorem pgS_ok (s : SP) : okP (pgS s) = true := by
  have h1 : knownK (pgS s).k = true := (by decide : knownK 83 = true)
  have h2 : (0 : Int) ≤ (pgS s).a := by show (0 : Int) ≤ ((s.gen % 2 : Nat) : Int); omega
  have h3 : (pgS s).a < 512 := by show ((s.gen % 2 : Nat) : Int) < 512; omega
  have h4 : (pgS s).b.length ≤ 238 := by show (putS s).length ≤ 238; rw [putS_length]; omega
  rw [okP, h1, decide_eq_true h2, decide_eq_true h3, decide_eq_true h4]; rfl
theorem pgS_len (s : SP) : (putP (pgS s)).length = 256 := putP_length _ (okP_spec (pgS_ok s)).2.2.2
/-- a super that is written -/
def wrS (S : DS) (s : SP) : DS × Nat := if okS s = true then wrPg S (pgS s) else (S, 1)
theorem wrS_on {S : DS} (h : S.on) (hA : 512 ≤ S.A.length) {s : SP} (hs : okS s = true) :
    (wrS S s).2 = 0 ∧ (wrS S s).1.on ∧ (wrS S s).1.V = putAt S.V (s.gen % 2 * 256) (putP (pgS s)) ∧ (wrS S s).1.A = S.A ∧ (wrS S s).1.W.length ≤ S.W.length + 4 := by
  have hm : s.gen % 2 * 256 + 256 ≤ S.A.length := by omega
  have := DS.wrs_page h (s.gen % 2) (putP (pgS s)) (pgS_len s) hm
  rw [wrS, if_pos hs, wrPg, if_pos (pgS_ok s)]
  exact this
theorem rdS_pg {S : DS} (h : S.on) (hA : 512 ≤ S.A.length) {s : SP} (hs : okS s = true) (hg : s.gen < 18446744073709551616) {a : Nat} (ha : a = s.gen % 2) (hp : pgAt S.V a = putP (pgS s)) :
    rdS S a = (s, decide (s.pages = ((S.A.length / 256 : Nat) : Int)), 0) := by
  have hm : a * 256 + 256 ≤ S.A.length := by omega
  have hget := get_put (pgS s) (pgS_ok s) hg
  have hr : rdPg S (a : Int) 83 = (pgS s, 0) := by
    rw [rdPg_on h a hm, hp, hget, if_pos ⟨rfl, by rw [ha]; rfl, rfl⟩]
  have hgs : getS (pgS s).b = (s, 0) := get_putS hs hg
  rw [rdS, hr, if_neg (by simp), if_neg (by simp), hgs]
  have e1 : s.gen = (pgS s).g := rfl
  have e2 : s.gen % 2 = a := ha.symm
  simp [e2, ← e1]
theorem rdS_none {S : DS} (h : S.on) {a : Nat} (hm : a * 256 + 256 ≤ S.A.length) (hp : (getP (pgAt S.V a)).2 ≠ 0) : rdS S a = (zeroS, false, 0) := by
  have hr : rdPg S (a : Int) 83 = (zeroP, 3) := by
    rw [rdPg_on h a hm, if_neg (fun q => hp q.1)]
  rw [rdS, hr, if_pos rfl]
/-- what two supers make -/
theorem nwS_two {S : DS} {s0 s1 : SP} {b0 b1 : Bool} (h0 : rdS S 0 = (s0, b0, 0)) (h1 : rdS S 1 = (s1, b1, 0)) :
    nwS S = (let q := if b0 = true ∧ 0 < s0.gen then s0 else zeroS
             let r := if b1 = true ∧ q.gen < s1.gen then s1 else q
             if r.gen = 0 then (zeroS, 3) else (r, 0)) := by
  have e0 : nwTo S 1 = (if b0 = true ∧ 0 < s0.gen then s0 else zeroS, 0) := by
    show (if (nwTo S 0).2 ≠ 0 then nwTo S 0 else if (rdS S 0).2.2 ≠ 0 then (zeroS, (rdS S 0).2.2) else if (rdS S 0).2.1 = true ∧ (nwTo S 0).1.gen < (rdS S 0).1.gen then ((rdS S 0).1, 0) else nwTo S 0) = _
    rw [h0]
    show (if (0 : Nat) ≠ 0 then nwTo S 0 else if (0 : Nat) ≠ 0 then (zeroS, 0) else if b0 = true ∧ 0 < s0.gen then (s0, 0) else (zeroS, 0)) = _
    rw [if_neg (by simp), if_neg (by simp)]
    split <;> rfl
  have e1 : nwTo S 2 = (let q := if b0 = true ∧ 0 < s0.gen then s0 else zeroS
                        if b1 = true ∧ q.gen < s1.gen then s1 else q, 0) := by
    show (if (nwTo S 1).2 ≠ 0 then nwTo S 1 else if (rdS S 1).2.2 ≠ 0 then (zeroS, (rdS S 1).2.2) else if (rdS S 1).2.1 = true ∧ (nwTo S 1).1.gen < (rdS S 1).1.gen then ((rdS S 1).1, 0) else nwTo S 1) = _
    rw [h1, e0]
    simp only [ne_eq, not_true_eq_false, if_false]
    (repeat' split) <;> rfl
  rw [nwS, e1]
  simp only [ne_eq, not_true_eq_false, if_false]
theorem okS_gen {s : SP} (h : okS s = true) : s.gen ≠ 0 := (okS_spec h).1
end Go.Proofs.Ytckdlfbbkemklaa
end
section
/- super: supers that are written in turn, in plain terms. -/
namespace Go.Proofs.Ytckdlfbbkemklaa
open Go Go.RowKit Go.Gv
set_option linter.unusedVariables false
set_option linter.unusedSimpArgs false

/-- a page that says nothing, or a super that is older -/
def Old1 (S : DS) (n : Nat) (P : Int) (a : Nat) : Prop :=
  (getP (pgAt S.V a)).2 ≠ 0 ∨ ∃ s : SP, okS s = true ∧ s.gen < 18446744073709551616 ∧ a = s.gen % 2 ∧ s.gen < n ∧ s.pages = P ∧ pgAt S.V a = putP (pgS s)
def InvS (S : DS) (n : Nat) (P : Int) : Prop := ∀ a, a < 2 → Old1 S n P a
theorem getP_nought : getP (List.replicate 256 0) = (zeroP, 3) := by
  have hl : lenP (List.replicate 256 0) = 0 := by decide
  have hk : (gotP (List.replicate 256 0) 0).k = 0 := by decide
  rw [getP, if_neg (by rw [List.length_replicate]; simp), hl, if_neg (by simp), if_neg (fun h => ?_)]
  have := (okP_spec h.1).1
  rw [hk] at this
  exact absurd this (by decide)
theorem pgAt_fresh (k a : Nat) (h : a < k) : pgAt (DS.new k).V a = List.replicate 256 0 := by
  show ((List.replicate (k * 256) (0 : UInt8)).drop (a * 256)).take 256 = _
  rw [List.drop_replicate, List.take_replicate, Nat.min_eq_left (by omega)]
theorem inv_new (k n : Nat) (P : Int) (h : 2 ≤ k) : InvS (DS.new k) n P := fun a ha => .inl (by rw [pgAt_fresh k a (by omega), getP_nought]; simp)
theorem inv_step {S : DS} (h : S.on) (hA : 512 ≤ S.A.length) {s : SP} {P : Int} (hs : okS s = true) (hg : s.gen < 18446744073709551616) (hP : s.pages = P) (hI : InvS S s.gen P) :
    InvS (wrS S s).1 (s.gen + 1) P ∧ pgAt (wrS S s).1.V (s.gen % 2) = putP (pgS s) := by
  obtain ⟨_, _, hV, _, _⟩ := wrS_on h hA hs
  have hl : S.V.length = S.A.length := DS.V_length h.1
  have e : pgAt (wrS S s).1.V (s.gen % 2) = putP (pgS s) := by rw [hV]; exact pgAt_same _ _ _ (by omega) (pgS_len s)
  refine ⟨fun a ha => ?_, e⟩
  by_cases hq : a = s.gen % 2
  · exact .inr ⟨s, hs, hg, hq, by omega, hP, by rw [hq]; exact e⟩
  · have e2 : pgAt (wrS S s).1.V a = pgAt S.V a := by rw [hV]; exact pgAt_other _ _ _ _ (by omega) (pgS_len s) hq
    rcases hI a ha with hb | ⟨t, h1, h2, h3, h4, h5, h6⟩
    · exact .inl (by rw [e2]; exact hb)
    · exact .inr ⟨t, h1, h2, h3, by omega, h5, by rw [e2]; exact h6⟩
/-- the other place says less -/
theorem nw_of {S : DS} {s q : SP} {a : Nat} {b : Bool} (ha : a < 2) (h0 : rdS S a = (s, true, 0)) (h1 : rdS S (1 - a) = (q, b, 0)) (hg : 0 < s.gen) (hq : b = true → q.gen < s.gen) : nwS S = (s, 0) := by
  match a, ha with
  | 0, _ =>
    rw [nwS_two h0 h1]
    have hn : ¬ (b = true ∧ s.gen < q.gen) := fun c => by have := hq c.1; omega
    have hz : ¬ s.gen = 0 := by omega
    simp only [true_and, if_pos hg, if_neg hn, if_neg hz]
  | 1, _ =>
    rw [nwS_two h1 h0]
    have hz : ¬ s.gen = 0 := by omega
    by_cases hb : b = true ∧ 0 < q.gen
    · have := hq hb.1
      simp only [true_and, if_pos hb, if_pos this, if_neg hz]
    · have hz2 : zeroS.gen < s.gen := hg
      simp only [true_and, if_neg hb, if_pos hz2, if_neg hz]
theorem old_rd {S : DS} (h : S.on) (hA : 512 ≤ S.A.length) {n : Nat} {P : Int} {a : Nat} (ha : a < 2) (hO : Old1 S n P a) :
    ∃ q b, rdS S a = (q, b, 0) ∧ (b = true → q.gen < n ∧ q.gen % 2 = a ∧ P = ((S.A.length / 256 : Nat) : Int)) := by
  rcases hO with hb | ⟨t, h1, h2, h3, h4, h5, h6⟩
  · exact ⟨_, _, rdS_none h (by omega) hb, fun q => by cases q⟩
  · exact ⟨_, _, rdS_pg h hA h1 h2 h3 h6, fun q => ⟨h4, h3.symm, by rw [← h5]; exact of_decide_eq_true q⟩⟩
theorem inv_newest {S : DS} (h : S.on) (hA : 512 ≤ S.A.length) {s : SP} {P : Int} (hs : okS s = true) (hg : s.gen < 18446744073709551616) (hP : s.pages = ((S.A.length / 256 : Nat) : Int)) (hI : InvS S (s.gen + 1) P) (hp : pgAt S.V (s.gen % 2) = putP (pgS s)) : nwS S = (s, 0) := by
  have h0 := rdS_pg h hA hs hg rfl hp
  rw [decide_eq_true hP] at h0
  obtain ⟨q, b, h1, h2⟩ := old_rd h hA (a := 1 - s.gen % 2) (by omega) (hI _ (by omega))
  have := okS_gen hs
  exact nw_of (by omega) h0 h1 (by omega) (fun hb => by have := h2 hb; omega)
theorem inv_none {S : DS} (h : S.on) (hA : 512 ≤ S.A.length) {n : Nat} {P : Int} (hI : InvS S n P) (hP : P ≠ ((S.A.length / 256 : Nat) : Int) ∨ n ≤ 1) : nwS S = (zeroS, 3) := by
  obtain ⟨q0, b0, h0, k0⟩ := old_rd h hA (a := 0) (by omega) (hI 0 (by omega))
  obtain ⟨q1, b1, h1, k1⟩ := old_rd h hA (a := 1) (by omega) (hI 1 (by omega))
  rw [nwS_two h0 h1]
  have e0 : ¬ (b0 = true ∧ 0 < q0.gen) := fun c => by
    have := k0 c.1
    rcases hP with hP | hP
    · exact hP this.2.2
    · omega
  have e1 : ¬ (b1 = true ∧ zeroS.gen < q1.gen) := fun c => by
    have := k1 c.1
    have hz : zeroS.gen = 0 := rfl
    rcases hP with hP | hP
    · exact hP this.2.2
    · omega
  simp only [if_neg e0, if_neg e1]
  rfl
theorem spG1 : okS ⟨1, 0, 0, 2, 8⟩ = true := by decide
theorem spG2 : okS ⟨2, 0, 0, 3, 8⟩ = true := by decide
end Go.Proofs.Ytckdlfbbkemklaa
end
