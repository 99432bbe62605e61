/- Texts of this claim, put together: TxPlain16, TmPlain, TxPlain14, TxPlain17, TxPlain12, TxPlain18, GvLaw, TxRoomsWalk. -/
import Derived.Test.YtcglabmlhljkmaaGreatZ08
import Derived.Test.YtcglabmlhljkmaaGreatZ09
import Derived.Test.YtcglabmlhljkmaaGreatZ05
import Derived.Test.YtcglabmlhljkmaaGreatZ02
import Derived.Test.YtcglabmlhljkmaaGreatZ07
import Derived.Test.YtcglabmlhljkmaaGreatZ00
set_option maxHeartbeats 64000000
set_option linter.unusedVariables false
set_option linter.unusedSimpArgs false
namespace Go.Proofs.YtcglabmlhljkmaaGreat
open Go Go.RowKit Go.Gv
def bun (P : Nat → Bool) : Nat → Nat
 | 0 => 0
 | n + 1 => bun P n + if P n = true then 1 else 0
theorem bun_all {P : Nat → Bool} {M : Nat} (h : ∀ p, p < M → P p = true) : ∀ n, M ≤ n → M ≤ bun P n
 | 0, hn => by omega
 | n + 1, hn => by
  rw [bun]
  by_cases hm : M ≤ n
  ·have := bun_all h n hm
   split <;> omega
  ·have e : M = n + 1 := by omega
   have h1 : n ≤ bun P n := by
    have : ∀ p, p < n → P p = true := fun p hp => h p (by omega)
    exact bun_all this n (Nat.le_refl _)
   rw [if_pos (h n (by omega))]; omega
theorem bun_mono {P Q : Nat → Bool} (h : ∀ p, Q p = true → P p = true) : ∀ n, bun Q n ≤ bun P n
 | 0 => Nat.le_refl _
 | n + 1 => by
  have := bun_mono h n
  rw [bun, bun]
  by_cases hq : Q n = true
  ·rw [if_pos hq, if_pos (h n hq)]; omega
  ·rw [if_neg hq]; split <;> omega
theorem bun_set {P Q : Nat → Bool} {t : Nat} (h : ∀ p, p ≠ t → Q p = P p) : ∀ n, bun Q n ≤ bun P n + 1 ∧ (n ≤ t → bun Q n = bun P n)
 | 0 => ⟨Nat.zero_le _, fun _ => rfl⟩
 | n + 1 => by
  obtain ⟨h1, h2⟩ := bun_set h n
  rw [bun, bun]
  by_cases hn : n = t
  ·have e := h2 (by omega)
   refine ⟨?_, fun c => by omega⟩
   rw [e]
   split
   ·split <;> omega
   ·split <;> omega
  ·rw [h n hn]
   exact ⟨by split <;> omega, fun c => by rw [h2 (by omega)]⟩
def BU (m o : BM) : Nat := bun (bothAt m o) 512
def HiM (m o : BM) (M : Nat) : Prop := ∀ j, M ≤ j → bothAt m o j = false
structure CtxL (k : Nat) (v : VS) : Prop where
 k8 : 8 ≤ k ∧ k ≤ 512
 on : v.S.on
 len : v.S.A.length = k * 256
 mp : v.m.p = (k : Int)
 ml : v.m.u.length = 512
 ol : v.old.u.length = 512
theorem VG.ctx {k : Nat} {U O : List Nat} {v : VS} (h : VG k U O v) : CtxL k v := ⟨h.k8, h.on, h.len, h.m.p, h.m.len, h.o.len⟩
def lowV (k : Nat) (v v' : VS) : Prop := CtxL k v → CtxL k v' ∧ v.S.W.length ≤ v'.S.W.length ∧ v'.old = v.old ∧ ∀ M, M ≤ k → HiM v.m v.old M → 4 * BU v.m v.old + (v'.S.W.length - v.S.W.length) ≤ 4 * M →
 HiM v'.m v'.old M ∧ 4 * BU v'.m v'.old ≤ 4 * BU v.m v.old + (v'.S.W.length - v.S.W.length)
theorem lowV.rfl {k : Nat} {v : VS} : lowV k v v := fun c => ⟨c, Nat.le_refl _, Eq.refl _, fun M _ h1 _ => ⟨h1, by omega⟩⟩
theorem lowV.trans {k : Nat} {v v' v'' : VS} (h : lowV k v v') (h' : lowV k v' v'') : lowV k v v'' := fun c => by
 obtain ⟨c1, w1, o1, l1⟩ := h c
 obtain ⟨c2, w2, o2, l2⟩ := h' c1
 refine ⟨c2, Nat.le_trans w1 w2, o2.trans o1, fun M hk hM hb => ?_⟩
 obtain ⟨a1, a2⟩ := l1 M hk hM (by omega)
 obtain ⟨b1, b2⟩ := l2 M hk a1 (by omega)
 exact ⟨b1, by omega⟩
theorem wrs_exact : ∀ (bs : List (List UInt8)) (S : DS) (i : Int), (S.wrs i bs).2 = 0 → (S.wrs i bs).1.W.length = S.W.length + bs.length
 | [], S, i, _ => rfl
 | b :: bs, S, i, h => by
  have he : S.wrs i (b :: bs) = if (S.wr i b).2 = 0 then (S.wr i b).1.wrs (i + 1) bs else S.wr i b := rfl
  rw [he] at h ⊢
  by_cases h0 : (S.wr i b).2 = 0
  ·rw [if_pos h0] at h ⊢
   have h1 := wrs_exact bs _ _ h
   have h2 : (S.wr i b).1.W.length = S.W.length + 1 := by
    unfold DS.wr at h0 ⊢
    split at h0
    ·rename_i q; exact absurd h0 q
    ·rename_i q
     rw [if_neg q]
     split at h0
     ·cases h0
     ·rename_i q2
      rw [if_neg q2]
      split at h0
      ·cases h0
      ·rename_i q3
       rw [if_neg q3]
       show (S.W ++ [_]).length = _
       rw [lAp]; rfl
   rw [h1, h2, lCn]; omega
  ·rw [if_neg h0] at h
   exact absurd h h0
theorem take_low {m o : BM} {k : Nat} (h8 : 8 ≤ k ∧ k ≤ 512) (hp : m.p = (k : Int)) (hl : m.u.length = 512) :
  (takeM m o 1).2.2 ≠ 0 ∨ ∃ t : Nat, takeM m o 1 = (⟨m.p, m.u.set t true⟩, (t : Int), 0) ∧ t < k ∧ bothAt m o t = false ∧ ∀ p, p < t → bothAt m o p = true := by
 cases ha : alikeM m o with
 | false => left; rw [takeM, ha]; show (1 : Nat) ≠ 0; decide
 | true =>
  have h1 : (!alikeM m o) = false := by rw [ha]; rfl
  rcases least_free (bothAt m o) k with hall | ⟨t, ht, hf, hb⟩
  ·left
   have hs : seek m o 1 m.p.toNat 0 = none := seek_none _ _ _ _ (fun p hp' => hall p (by omega))
   rw [takeM, h1, hs]; show (5 : Nat) ≠ 0; decide
  ·right
   have hs : seek m o 1 m.p.toNat 0 = some t := seek_some _ _ t hf hb _ _ (Nat.zero_le _) (by omega)
   exact ⟨t, by rw [takeM, h1, hs]; rfl, ht, hf, hb⟩
theorem both_set {m o : BM} {t : Nat} (ht : t < m.u.length) (b : Bool) (p : Nat) : bothAt ⟨m.p, m.u.set t b⟩ o p = if p = t then (b || useAt o.u t) else bothAt m o p := by
 rw [bothAt]
 show (useAt (m.u.set t b) p || useAt o.u p) = _
 rw [useAt_set _ _ _ _ ht]
 by_cases e : p = t
 ·rw [if_pos e, if_pos e, e]
 ·rw [if_neg e, if_neg e]; rfl
theorem wrN_low (k : Nat) (v : VS) (leaf : Bool) (x : ND3) : lowV k v (wrN v leaf x).1 := fun c => by
 have h8 := c.k8
 rw [wrN]
 split
 ·exact lowV.rfl c
 ·rename_i hr
  have hr : rightN leaf x.E x.K x.D = true := by
   cases hh : rightN leaf x.E x.K x.D with
   | true => rfl
   | false => exact absurd hh hr
  split
  ·exact lowV.rfl c
  ·rename_i h0
   rcases take_low (o := v.old) h8 c.mp c.ml with q | ⟨t, e, ht, hf, hb⟩
   ·exact absurd q h0
   ·rw [e]
    dsimp only
    have ht5 : t < v.m.u.length := by rw [c.ml]; omega
    obtain ⟨q, hq⟩ : ∃ q : PG, q = ⟨kindN leaf, (t : Int), v.gen, putN leaf x.E x.K x.D⟩ := ⟨_, rfl⟩
    rw [← hq]
    have hok : okP q = true := by
     have hb := putN_len hr
     rw [hq]
     show (knownK (kindN leaf) && decide ((0 : Int) ≤ (t : Int)) && decide ((t : Int) < 512) && decide ((putN leaf x.E x.K x.D).length ≤ 238)) = true
     rw [kindN_known, dTt (by omega), dTt (by omega), dTt hb]; rfl
    have hpl : (putP q).length = 256 := putP_length q (okP_spec hok).2.2.2
    have hfit : t * 256 + 256 ≤ v.S.A.length := by rw [c.len]; exact fitk ht
    obtain ⟨w1, w2, w3, w4, w5⟩ := DS.wrs_page c.on t (putP q) hpl hfit
    have hwp : wrPg v.S q = v.S.wrs ((t : Int) * 4) (secs (putP q) 4) := by rw [wrPg, if_pos hok, hq]
    have w6 := wrs_exact _ _ _ w1
    rw [secs_length] at w6
    rw [hwp]
    refine ⟨⟨h8, w2, by show (v.S.wrs _ _).1.A.length = _; rw [w4, c.len], c.mp, by show (v.m.u.set t true).length = 512; rw [List.length_set, c.ml], c.ol⟩, by show _ ≤ (v.S.wrs _ _).1.W.length; omega, rfl, fun M hk hM hbm => ?_⟩
    have hbm : 4 * BU v.m v.old + ((v.S.wrs ((t : Int) * 4) (secs (putP q) 4)).1.W.length - v.S.W.length) ≤ 4 * M := hbm
    rw [w6] at hbm
    have htM : t < M := by
     rcases Nat.lt_or_ge t M with h | h
     ·exact h
     ·have := bun_all (P := bothAt v.m v.old) (M := M) (fun p hp => hb p (by omega)) 512 (by omega)
      have e2 : BU v.m v.old = bun (bothAt v.m v.old) 512 := rfl
      omega
    refine ⟨fun j hj => ?_, ?_⟩
    ·show bothAt ⟨v.m.p, v.m.u.set t true⟩ v.old j = false
     rw [both_set ht5, if_neg (by omega)]
     exact hM j hj
    ·show 4 * bun (bothAt ⟨v.m.p, v.m.u.set t true⟩ v.old) 512 ≤ 4 * BU v.m v.old + ((v.S.wrs ((t : Int) * 4) (secs (putP q) 4)).1.W.length - v.S.W.length)
     have := (bun_set (P := bothAt v.m v.old) (Q := bothAt ⟨v.m.p, v.m.u.set t true⟩ v.old) (t := t) (fun p hp => by rw [both_set ht5, if_neg hp]) 512).1
     have e2 : BU v.m v.old = bun (bothAt v.m v.old) 512 := rfl
     omega
theorem giN_low (k : Nat) (v : VS) (a : Int) : lowV k v (giN v a).1 := fun c => by
 rw [giN]; split
 ·rename_i h0
  obtain ⟨u, hu, hl, hs⟩ : ∃ u, (giveM v.m a 1).1 = ⟨v.m.p, u⟩ ∧ u.length = 512 ∧ ∀ p, bothAt ⟨v.m.p, u⟩ v.old p = true → bothAt v.m v.old p = true := by
   rw [giveM] at h0 ⊢
   split at h0
   ·cases h0
   ·rename_i q1
    rw [if_neg q1]
    split at h0
    ·rename_i q2
     rw [if_pos q2]
     refine ⟨_, rfl, ?_, fun p hp => ?_⟩
     ·rw [setFrom_length]; exact c.ml
     ·have e : setFrom v.m.u false a.toNat (1 : Int).toNat = v.m.u.set a.toNat false := rfl
      rw [e] at hp
      by_cases hlt : a.toNat < v.m.u.length
      ·rw [both_set hlt] at hp
       by_cases e2 : p = a.toNat
       ·rw [if_pos e2, Bool.false_or] at hp
        rw [bothAt, e2, hp, Bool.or_true]
       ·rw [if_neg e2] at hp; exact hp
      ·rw [List.set_eq_of_length_le (by omega)] at hp; exact hp
    ·cases h0
  dsimp only
  rw [hu]
  refine ⟨⟨c.k8, c.on, c.len, c.mp, hl, c.ol⟩, Nat.le_refl _, rfl, fun M hk hM hb => ⟨fun j hj => ?_, ?_⟩⟩
  ·show bothAt ⟨v.m.p, u⟩ v.old j = false
   cases h : bothAt ⟨v.m.p, u⟩ v.old j with
   | false => rfl
   | true => have := hs j h; rw [hM j hj] at this; cases this
  ·show 4 * bun (bothAt ⟨v.m.p, u⟩ v.old) 512 ≤ 4 * bun (bothAt v.m v.old) 512 + (v.S.W.length - v.S.W.length)
   have := bun_mono hs 512
   omega
 ·exact lowV.rfl c
theorem unGo_low (k : Nat) (leaf : Bool) : ∀ (xs : List ND3) (v : VS), lowV k v (unGo leaf v xs).1
 | [], v => lowV.rfl
 | x :: xs, v => by
  rw [unGo]; split
  ·exact wrN_low k v leaf x
  ·exact (wrN_low k v leaf x).trans (unGo_low k leaf xs _)
theorem unN_low (k : Nat) (leaf : Bool) (xs : List ND3) (v : VS) : lowV k v (unN leaf v xs).1 := unGo_low k leaf xs v
theorem rpN_low (k : Nat) (v : VS) (leaf : Bool) (x : ND3) (i c : Nat) (xs : List ND3) : lowV k v (rpN leaf v x i c xs).1 := by
 rw [rpN]; split <;> exact unN_low k leaf xs v
theorem inN_low (k : Nat) : ∀ (h : Nat) (v : VS) (a : Int) (x : ENT), lowV k v (inN h v a x).1
 | 0, v, a, x => lowV.rfl
 | h + 1, v, a, x => by
  rw [inN]
  split
  ·exact lowV.rfl
  ·split
   ·exact giN_low k v a
   ·split
    ·exact giN_low k v a
    ·have ih := (giN_low k v a).trans (inN_low k h (giN v a).1 ((rdN v.S a false).D.getD (childN (rdN v.S a false).K x.key) 0) x)
     split
     ·exact ih.trans (rpN_low k _ _ _ _ _ _)
     ·exact ih
theorem lwN_low (k : Nat) : ∀ (h : Nat) (v : VS) (a : Int), lowV k v (lwN h v a).1
 | 0, v, a => lowV.rfl
 | 1, v, a => lowV.rfl
 | h + 2, v, a => by
  rw [lwN]; split
  ·exact lowV.rfl
  ·exact (giN_low k v a).trans (lwN_low k (h + 1) _ _)
theorem sgN_low (k : Nat) (leaf : Bool) (v : VS) (xs : List ND3) (h : Nat) : lowV k v (sgN leaf v xs h).1 := by
 rw [sgN]; split
 ·exact lowV.rfl
 ·split
  ·exact lwN_low k _ _ _
  ·exact wrN_low k _ _ _
theorem roN_low (k : Nat) : ∀ (f : Nat) (leaf : Bool) (v : VS) (xs : List ND3) (h : Nat), lowV k v (roN f leaf v xs h).1
 | 0, leaf, v, xs, h => by
  rw [roN]; split
  ·exact lowV.rfl
  ·exact sgN_low k _ _ _ _
 | f + 1, leaf, v, xs, h => by
  rw [roN]; split
  ·split
   ·exact (unN_low k leaf xs v).trans (roN_low k f _ _ _ _)
   ·exact unN_low k leaf xs v
  ·split
   ·exact lowV.rfl
   ·exact sgN_low k _ _ _ _
theorem iN_low (k : Nat) (v : VS) (a : Int) (h : Nat) (x : ENT) : lowV k v (iN v a h x).1 := by
 rw [iN]; split
 ·exact lowV.rfl
 ·split
  ·exact roN_low k _ _ _ _ _
  ·split
   ·exact (inN_low k h v a x).trans (roN_low k _ _ _ _ _)
   ·exact inN_low k h v a x
theorem seek_first (m o : BM) (n : Int) : ∀ f i t, seek m o n f i = some t → ∀ j, i < j → (runTo m o j : Int) = n → (t : Int) + n ≤ j
 | 0, i, t, h, j, hj, hr => by cases h
 | f + 1, i, t, h, j, hj, hr => by
  rw [seek] at h
  split at h
  ·rename_i hc
   have e : i + 1 - n.toNat = t := by injection h
   have hle : (runTo m o (i + 1) : Int) ≤ ((i + 1 : Nat) : Int) := by
    have : ∀ q, runTo m o q ≤ q := by
     intro q
     induction q with
     | zero => exact Nat.le_refl _
     | succ q ih => rw [runTo]; split <;> omega
    have := this (i + 1)
    omega
   omega
  ·rename_i hc
   have hji : j ≠ i + 1 := fun q => hc (by rw [← q]; exact hr)
   exact seek_first m o n f (i + 1) t h j (by omega) hr
theorem run_high {m o : BM} {M : Nat} (hM : HiM m o M) : ∀ n, n ≤ runTo m o (M + n) ∧ ∃ j, j ≤ M + n ∧ (n = 0 ∨ 0 < j) ∧ runTo m o j = n
 | 0 => ⟨Nat.zero_le _, ⟨0, Nat.zero_le _, .inl rfl, rfl⟩⟩
 | n + 1 => by
  obtain ⟨h1, j, hj, hj0, hr⟩ := run_high hM n
  have hs : ∀ q, M ≤ q → runTo m o (q + 1) = runTo m o q + 1 := fun q hq => by
   rw [runTo, hM q hq]; rfl
  refine ⟨by show n + 1 ≤ runTo m o (M + n + 1); rw [hs (M + n) (by omega)]; omega, ?_⟩
  have key : ∀ q, ∃ b, b ≤ q ∧ runTo m o q = q - b ∧ ∀ i, b ≤ i → i ≤ q → runTo m o i = i - b := by
   intro q
   induction q with
   | zero => exact ⟨0, Nat.le_refl _, rfl, fun i _ h2 => by rw [Nat.le_zero.1 h2]; rfl⟩
   | succ q ih =>
    obtain ⟨b, hb, hb2, hb3⟩ := ih
    cases hq : bothAt m o q with
    | true =>
     refine ⟨q + 1, Nat.le_refl _, by rw [runTo, hq, Nat.sub_self]; rfl, fun i h1 h2 => ?_⟩
     have : i = q + 1 := by omega
     subst this
     rw [runTo, hq, Nat.sub_self]; rfl
    | false =>
     have e : runTo m o (q + 1) = q + 1 - b := by rw [runTo, hq, hb2]; show q - b + 1 = _; omega
     refine ⟨b, by omega, e, fun i h1 h2 => ?_⟩
     rcases Nat.lt_or_ge i (q + 1) with c | c
     ·exact hb3 i h1 (by omega)
     ·have : i = q + 1 := by omega
      subst this; exact e
  obtain ⟨b, hb, hb2, hb3⟩ := key (M + n + 1)
  have h2 : n + 1 ≤ runTo m o (M + n + 1) := by rw [hs (M + n) (by omega)]; omega
  refine ⟨b + (n + 1), by omega, .inr (by omega), ?_⟩
  rw [hb3 (b + (n + 1)) (by omega) (by omega)]; omega
theorem take_first {m o m2 : BM} {M n t : Nat} (hM : HiM m o M) (hn : 1 ≤ n) (h : takeM m o (n : Int) = (m2, (t : Int), 0)) : t ≤ M ∧ m2 = ⟨m.p, setFrom m.u true t n⟩ := by
 rw [takeM] at h
 split at h
 ·injection h with _ q; injection q with _ q; cases q
 ·split at h
  ·rename_i at_ hs
   injection h with q1 q2
   injection q2 with q2 q3
   have e : at_ = t := by omega
   subst e
   obtain ⟨_, j, hj, hj0, hr⟩ := run_high hM n
   have h1 := seek_first m o (n : Int) _ _ _ hs j (by omega) (by rw [hr])
   refine ⟨by omega, q1.symm.trans ?_⟩
   rfl
  ·injection h with _ q; injection q with _ q; cases q
theorem hi_run {m o : BM} {M n t : Nat} (hM : HiM m o M) (ht : t ≤ M) (hl : m.u.length = 512) (hf : t + n ≤ 512) : ∀ j, j ≤ n → HiM ⟨m.p, setFrom m.u true t j⟩ o (M + n) ∧ BU ⟨m.p, setFrom m.u true t j⟩ o ≤ BU m o + j
 | 0, _ => by
  have e : (⟨m.p, setFrom m.u true t 0⟩ : BM) = m := rfl
  rw [e]
  exact ⟨fun i hi => hM i (by omega), Nat.le_add_right _ _⟩
 | j + 1, hj => by
  obtain ⟨h1, h2⟩ := hi_run hM ht hl hf j (by omega)
  have hlt : t + j < (setFrom m.u true t j).length := by rw [setFrom_length, hl]; omega
  have hs : ∀ p, bothAt ⟨m.p, setFrom m.u true t (j + 1)⟩ o p = if p = t + j then (true || useAt o.u (t + j)) else bothAt ⟨m.p, setFrom m.u true t j⟩ o p := fun p => both_set (m := ⟨m.p, setFrom m.u true t j⟩) hlt true p
  refine ⟨fun i hi => ?_, ?_⟩
  ·rw [hs, if_neg (by omega)]; exact h1 i hi
  ·have := (bun_set (P := bothAt ⟨m.p, setFrom m.u true t j⟩ o) (Q := bothAt ⟨m.p, setFrom m.u true t (j + 1)⟩ o) (t := t + j) (fun p hp => by rw [hs, if_neg hp]) 512).1
   have e1 : BU ⟨m.p, setFrom m.u true t (j + 1)⟩ o = bun (bothAt ⟨m.p, setFrom m.u true t (j + 1)⟩ o) 512 := rfl
   have e2 : BU ⟨m.p, setFrom m.u true t j⟩ o = bun (bothAt ⟨m.p, setFrom m.u true t j⟩ o) 512 := rfl
   omega
theorem hi_runF {m o : BM} {M : Nat} (hM : HiM m o M) (n : Nat) : runF m o M n := fun i h1 _ => hM i h1
theorem hi_fre {k M n : Nat} {U O : List Nat} {v : VS} (hv : VG k U O v) (hM : HiM v.m v.old M) (h2 : 2 ≤ M) (hk : M + n ≤ k) : Fre k U O n := by
 refine ⟨runL M n, by rw [runL, List.length_range'], by rw [runL]; exact List.nodup_range', fun i hi => ?_⟩
 obtain ⟨q1, q2⟩ := runL_mem.1 hi
 have hb := hM i q1
 have hno : ¬ (i < 2 ∨ i ∈ U ∨ i ∈ O) := fun c => by rw [(both_use hv.m hv.o i).2 c] at hb; cases hb
 exact ⟨⟨by omega, by omega⟩, fun c => hno (.inr (.inl c)), fun c => hno (.inr (.inr c))⟩
theorem lo_sum {S : DS} {h n : Nat} : ∀ (D : List Int), (∀ d ∈ D, n ≤ (wkE S h d).length) → n * D.length ≤ (D.flatMap (wkE S h)).length
 | [], _ => Nat.zero_le _
 | d :: D, hd => by
  have h1 := hd d (List.mem_cons_self ..)
  have h2 := lo_sum D (fun z hz => hd z (mCm _ hz))
  rw [List.flatMap_cons, lAp, lCn, Nat.mul_succ]; omega
def tZ (n : Nat) : List UInt8 := List.replicate n 0
theorem tZ_len (n : Nat) : (tZ n).length = n := List.length_replicate
theorem tZ_B8 (n : Nat) : B8 (tZ n) = List.replicate n (.int .u8 0) := by rw [B8, tZ, List.map_replicate]; rfl
def mu3 (h : Nat) : Nat := if h = 1 then 3 else 8
theorem mu3_lim (h : Nat) : mu3 (h + 1) ≤ limN h := by
 rw [mu3, limN]
 by_cases h0 : h = 0
 ·rw [if_pos (by omega), if_pos h0]; decide
 ·rw [if_neg (by omega), if_neg h0]; exact Nat.le_refl _
theorem mu3_two (h : Nat) : 2 ≤ mu3 (h + 1) := by
 rw [mu3]; split <;> decide
theorem mu3_one : mu3 1 ≤ 3 := Nat.le_refl _
def lo3 : Nat → Nat
 | 0 => 3
 | h + 1 => 8 * lo3 h
theorem lo3_le {S : DS} {k : Nat} : ∀ (h : Nat) (a : Int), tkG S k mu3 (h + 1) (mu3 (h + 1)) a → lo3 h ≤ (wkE S (h + 1) a).length
 | h, a, g => by
  obtain ⟨_, _, _, g3, ⟨g4, g5, g6⟩, g7, g8⟩ := g
  rw [wkE, lAp]
  cases h with
  | zero =>
   have : 3 ≤ (rdN S a (decide (0 = 0))).E.length := g5
   show 3 ≤ _
   omega
  | succ h =>
   rw [dFf (Nat.succ_ne_zero h)] at g5 g7 ⊢
   have h1 : 8 ≤ (rdN S a false).D.length := g5
   have h2 := lo_sum _ (fun d hd => lo3_le h d (g7 d hd))
   have h3 : lo3 h * 8 ≤ lo3 h * (rdN S a false).D.length := Nat.mul_le_mul_left _ h1
   show 8 * lo3 h ≤ _
   omega
theorem ti_few3 {k : Nat} {O R : List Nat} {v : VS} {a : Int} {h : Nat} {E : List ENT} (ti : TI k mu3 O R v a h E) (hE : E.length < 48) : h ≤ 2 ∧ (pgN v.S h a).length ≤ 17 := by
 rcases ti.g with h0 | g
 ·subst h0; exact ⟨by decide, by show 0 ≤ 17; decide⟩
 ·rcases h with _ | _ | _ | h
  ·exact ⟨by decide, by show 0 ≤ 17; decide⟩
  ·refine ⟨by decide, ?_⟩
   have e : (rdN v.S a (decide (0 = 0))).D.flatMap (pgN v.S 0) = [] := by rw [List.flatMap_eq_nil_iff]; intro d _; rfl
   show (a.toNat :: (rdN v.S a (decide (0 = 0))).D.flatMap (pgN v.S 0)).length ≤ 17
   rw [e]; show 1 ≤ 17; decide
  ·refine ⟨by decide, ?_⟩
   obtain ⟨_, _, _, _, ⟨_, _, g6⟩, _, _⟩ := g
   have h16 : (rdN v.S a (decide (1 = 0))).D.length ≤ 16 := g6
   have hs : ∀ D : List Int, (D.flatMap (pgN v.S (0 + 1))).length = D.length := fun D => by
    induction D with
    | nil => rfl
    | cons d D ih =>
     rw [List.flatMap_cons, lAp, ih, lCn]
     have e : (rdN v.S d (decide (0 = 0))).D.flatMap (pgN v.S 0) = [] := by rw [List.flatMap_eq_nil_iff]; intro d _; rfl
     have : (pgN v.S (0 + 1) d).length = 1 := by rw [pgN, e]; rfl
     omega
   rw [pgN, lCn, hs]; omega
  ·exfalso
   have hEe := congrArg List.length ti.ents
   obtain ⟨_, _, _, g3, ⟨g4, g5, g6⟩, g7, g8⟩ := g
   rw [dFf (Nat.succ_ne_zero (h + 1))] at g5 g7
   have h2 : 2 ≤ (rdN v.S a false).D.length := g5
   have h3 : lo3 (h + 1) * (rdN v.S a false).D.length ≤ ((rdN v.S a false).D.flatMap (wkE v.S (h + 2))).length := lo_sum _ (fun d hd => lo3_le (h + 1) d (g7 d hd))
   have h4 : 24 ≤ lo3 (h + 1) := by
    show 24 ≤ 8 * lo3 h
    have : ∀ h, 3 ≤ lo3 h := fun h => by
     induction h with
     | zero => exact Nat.le_refl _
     | succ h ih => show 3 ≤ 8 * lo3 h; omega
    have := this h
    omega
   have h5 : lo3 (h + 1) * 2 ≤ lo3 (h + 1) * (rdN v.S a false).D.length := Nat.mul_le_mul_left _ h2
   rw [wkE, dFf (Nat.succ_ne_zero (h + 1)), lAp] at hEe
   omega
theorem bun_mem {P : Nat → Bool} : ∀ (n : Nat) (L : List Nat), (∀ p, p < n → P p = true → p ∈ L) → bun P n ≤ L.length
 | 0, L, _ => Nat.zero_le _
 | n + 1, L, h => by
  rw [bun]
  by_cases hn : P n = true
  ·have hm := h n (Nat.lt_succ_self n) hn
   have ih := bun_mem n (L.erase n) (fun p hp hP => (List.mem_erase_of_ne (by omega)).2 (h p (by omega) hP))
   rw [List.length_erase_of_mem hm] at ih
   have : 0 < L.length := List.length_pos_of_mem hm
   rw [if_pos hn]; omega
  ·have ih := bun_mem n L (fun p hp hP => h p (by omega) hP)
   rw [if_neg hn]; omega
theorem VG.bu {k : Nat} {U O : List Nat} {v : VS} (hv : VG k U O v) : BU v.m v.old ≤ U.length + O.length + 2 := by
 have h := bun_mem (P := bothAt v.m v.old) 512 (0 :: 1 :: (U ++ O)) (fun p _ hp => by
  rcases (both_use hv.m hv.o p).1 hp with c | c | c
  ·rcases p with _ | _ | p
   ·exact List.mem_cons_self ..
   ·exact mCm _ (List.mem_cons_self ..)
   ·omega
  ·exact mCm _ (mCm _ (mAl _ c))
  ·exact mCm _ (mCm _ (mAr _ c)))
 rw [lCn, lCn, lAp] at h
 exact h
theorem Fre.sub2 {k : Nat} {U U' O : List Nat} {n : Nat} (h : Fre k U O n) (hs : ∀ i ∈ U', i ∈ U ∨ i ∈ O) : Fre k U' O n := by
 obtain ⟨l, h1, h2, h3⟩ := h
 exact ⟨l, h1, h2, fun i hi => ⟨(h3 i hi).1, fun c => (hs i c).elim (h3 i hi).2.1 (h3 i hi).2.2, (h3 i hi).2.2⟩⟩
def kR (i : Nat) : KEY := (((i % 3 : Nat) : Int), (i : Int))
def xR (i : Nat) : ENT := ⟨kR i, (i : Int), 0, 0, 1, 0, 0⟩
theorem kR_inj {i j : Nat} (h : kR i = kR j) : i = j := by
 have := congrArg Prod.snd h
 have : (i : Int) = (j : Int) := this
 omega
theorem nE_len {E : List ENT} {z : Nat} (h : ∀ y ∈ E, y.len = (z : Int)) : (txs E).length = (z + 255) / 256 * E.length := by
 induction E with
 | nil => rfl
 | cons y E ih =>
  rw [txs, List.flatMap_cons, lAp, lCn, Nat.mul_succ]
  have h1 := ih (fun w hw => h w (mCm _ hw))
  rw [txs] at h1
  rw [h1, txP, runL, List.length_range', nE, pagesE, h y (List.mem_cons_self ..)]
  omega
theorem xR_ok {i z : Nat} (hi : i < 40) (hz : 1 ≤ z ∧ z ≤ 900) : entOk (entT (xR i) 2 (tZ z)) = true := by
 have hl := tZ_len z
 have e : entT (xR i) 2 (tZ z) = ⟨kR i, (i : Int), 2, (z : Int), 1, 0, (crcSum (tZ z)).toNat⟩ := by rw [entT, hl]; rfl
 rw [e]
 simp only [entOk, keyOk, betw, kR, pagesE, Bool.and_eq_true, decide_eq_true_eq]
 exact ⟨⟨⟨⟨⟨⟨⟨dTt (by omega), dTt (by omega)⟩, dTt (Int.le_refl _)⟩, by omega⟩, by omega⟩, dTt (by omega)⟩, by omega⟩, by omega⟩
structure Put0 (S0 : DS) (s : SP) (m : BM) (z i : Nat) (v : VS) (a : Int) (h : Nat) (E : List ENT) : Prop where
 xi : TXI 300 mu3 S0 s m 2 0 [] v a h E
 n : E.length = i
 all : ∀ y ∈ E, ∃ j, j < i ∧ y.key = kR j ∧ y.fin = (j : Int) ∧ y.len = (z : Int)
 has : ∀ j, j < i → ∃ y ∈ E, y.key = kR j
 hi : HiM v.m v.old (60 + (z + 255) / 256 * i)
 W : v.S.W.length ≤ 100 * i
theorem put0_chk {S0 : DS} {s : SP} {m : BM} {z i : Nat} {v : VS} {a : Int} {h : Nat} {E : List ENT} (P : Put0 S0 s m z i v a h E) : chkE E (xR i) = 0 := by
 rw [chkE, if_neg (fun c => ?_), if_neg (fun c => ?_)]
 ·obtain ⟨y, hy, hk⟩ := List.any_eq_true.1 c
  obtain ⟨j, hj, _, hf, _⟩ := P.all y hy
  simp only [meetsE, Bool.and_eq_true, decide_eq_true_eq] at hk
  have h2 : (i : Int) ≤ y.fin := hk.2.1
  omega
 ·obtain ⟨y, hy, hk⟩ := List.any_eq_true.1 c
  obtain ⟨j, hj, hkj, _⟩ := P.all y hy
  have : y.key = kR i := of_decide_eq_true hk
  rw [hkj] at this
  have := kR_inj this
  omega
theorem put0_step {S0 : DS} {s : SP} {m : BM} {z i : Nat} {v : VS} {a : Int} {h : Nat} {E : List ENT} (P : Put0 S0 s m z i v a h E) (hi : i < 39) (hz : 1 ≤ z ∧ z ≤ 900) (hO : bsU S0 s 2 0 [] = [2]) :
  ∃ t m2 v2 a2 h2, PutR 300 mu3 S0 s m 2 0 [] v a h E (xR i) (tZ z) t m2 v2 a2 h2 ∧ Put0 S0 s m z (i + 1) v2 a2 h2 (insE E (entT (xR i) (t : Int) (tZ z))) := by
 have hok := xR_ok (i := i) (by omega) hz
 have hc := put0_chk P
 have hR : i64R (xR i).key.2 ∧ i64R (xR i).fin := by
  have : i64R (i : Int) := by rw [i64R]; omega
  exact ⟨this, this⟩
 obtain ⟨n, hn⟩ : ∃ n, n = (z + 255) / 256 := ⟨_, rfl⟩
 have hn4 : 1 ≤ n ∧ n ≤ 4 := by omega
 have hzl := tZ_len z
 have hni : n * i ≤ 4 * 39 := Nat.mul_le_mul hn4.2 (by omega)
 have hsc : n * (i + 1) = n * i + n := Nat.mul_succ n i
 have hH := P.hi
 rw [← hn] at hH
 have ti := P.xi.ti
 have hfew := ti_few3 ti (by rw [P.n]; omega)
 have hbu := ti.vg.bu
 have htx : (txs E).length = n * i := by
  rw [nE_len (z := z) (fun y hy => by obtain ⟨_, _, _, _, q⟩ := P.all y hy; exact q), P.n, hn]
 have hUl : ∀ {v' : VS} {t : Nat}, (pgN v'.S h a).length = (pgN v.S h a).length → (pgN v'.S h a ++ (runL t n ++ (2 :: txs E))).length ≤ 17 + n + 1 + n * i := fun e => by
  rw [lAp, e, lAp, runL, List.length_range', lCn, htx]; omega
 have mid : ∀ t m2, TxtR 300 mu3 (bsU S0 s 2 0 []) (2 :: txs E) v a h E (tZ z) n t m2 → HiM m2 v.old (60 + n * i + n) ∧ 4 * BU m2 v.old + 76 ≤ 4 * (60 + n * i + n) ∧ VG 300 (pgN (putV v m2 t (tZ z)).S h a ++ (runL t n ++ (2 :: txs E))) (bsU S0 s 2 0 []) (putV v m2 t (tZ z)) ∧ (putV v m2 t (tZ z)).S.W.length = v.S.W.length + n * 4 := fun t m2 T => by
  obtain ⟨f1, f2⟩ := take_first hH hn4.1 T.tk
  obtain ⟨g1, _⟩ := hi_run (n := n) hH f1 ti.vg.m.len (by have := T.fit; omega) n (Nat.le_refl _)
  rw [← f2] at g1
  have hvg := T.ti.vg
  have hb := hvg.bu
  have hl : (pgN (putV v m2 t (tZ z)).S h a).length ≤ 17 := (ti_few3 T.ti (by rw [P.n]; omega)).2
  rw [hO] at hb
  have hb2 : BU m2 v.old ≤ (pgN (putV v m2 t (tZ z)).S h a ++ (runL t n ++ (2 :: txs E))).length + 1 + 2 := hb
  rw [lAp, lAp, runL, List.length_range', lCn, htx] at hb2
  refine ⟨g1, by omega, hvg, ?_⟩
  have hw := wrs_exact (secs (padB (tZ z)) ((padB (tZ z)).length / 64)) v.S ((t : Int) * 4) T.w
  rw [secs_length] at hw
  have hpl : (padB (tZ z)).length = n * 256 := by rw [padB_len, hzl, ← hn]
  show (v.S.wrs _ _).1.W.length = _
  rw [hw, hpl]; omega
 rcases put_spec mu3_lim P.xi hok hR hc with ⟨t, m2, v2, a2, h2, r⟩ | ⟨_, hno⟩ | ⟨t, m2, T, h5, hF⟩
 ·refine ⟨t, m2, v2, a2, h2, r, r.xi, ?_, ?_, ?_, ?_, ?_⟩
  ·rw [insE_len, P.n]
  ·intro y hy
   rcases List.mem_cons.1 ((insE_perm E _).mem_iff.1 hy) with rfl | hy
   ·exact ⟨i, Nat.lt_succ_self i, rfl, rfl, by show ((tZ z).length : Int) = _; rw [hzl]⟩
   ·obtain ⟨j, q1, q2⟩ := P.all y hy
    exact ⟨j, by omega, q2⟩
  ·intro j hj
   by_cases e : j = i
   ·exact ⟨_, (insE_perm E _).mem_iff.2 (List.mem_cons_self ..), by rw [e]; rfl⟩
   ·obtain ⟨y, q1, q2⟩ := P.has j (by omega)
    exact ⟨y, (insE_perm E _).mem_iff.2 (mCm _ q1), q2⟩
  ·have T := r.mid
   rw [hzl, ← hn] at T
   obtain ⟨g1, g2, g3, g4⟩ := mid t m2 T
   have hlw := iN_low 300 (putV v m2 t (tZ z)) a h (entT (xR i) (t : Int) (tZ z)) g3.ctx
   rw [r.i] at hlw
   obtain ⟨_, l2, l3, l4⟩ := hlw
   have hW := r.W
   rw [hzl, ← hn] at hW
   have l2 : (putV v m2 t (tZ z)).S.W.length ≤ v2.S.W.length := l2
   have := (l4 (60 + n * i + n) (by omega) g1 (by
    show 4 * BU m2 v.old + (v2.S.W.length - (putV v m2 t (tZ z)).S.W.length) ≤ _
    omega)).1
   rw [← hn, hsc, ← Nat.add_assoc]
   exact this
  ·have hW := r.W
   rw [hzl, ← hn] at hW
   have := P.W
   omega
 ·exact absurd (hi_runF hH n) (by have := hno (60 + n * i) (by rw [hzl, ← hn]; omega); rw [hzl, ← hn] at this; exact this)
 ·exfalso
  rw [hzl, ← hn] at T hF
  obtain ⟨g1, g2, g3, g4⟩ := mid t m2 T
  rcases hF with hF | hF
  ·exact hF (hi_fre g3 (M := 60 + n * i + n) g1 (by omega) (by omega))
  ·omega
theorem empty_free {k : Nat} {mu : Nat → Nat} {S : DS} {s : SP} {m : BM} {b : Nat} (c : CMT k mu S s m b 0 []) : freeM m + 3 = k := by
 have := c.cm.mok.free
 have e : (bsU S s b 0 []).length = 1 := rfl
 omega
theorem CM.image {k : Nat} {S : DS} {s : SP} {m : BM} {U : List Nat} (c : CM k S s m U) (i : Nat) (hi : i % 2 = s.gen % 2) : (S.A.drop (i % 2 * 256)).take 256 = putP (pgS s) ∧ getP (putP (pgS s)) = (pgS s, 0) := by
 have e : S.V = S.A := by
  show flW S.A S.W = S.A
  rw [c.W]; rfl
 have hg := c.gen
 refine ⟨?_, get_put _ (pgS_ok s) (by show s.gen < 18446744073709551616; omega)⟩
 have := c.sup
 rw [pgAt, e, ← hi] at this
 exact this
theorem ti_nil {k : Nat} {mu : Nat → Nat} {O R : List Nat} {v : VS} {a : Int} {h : Nat} (ti : TI k mu O R v a h []) : h = 0 := by
 rcases ti.g with q | g
 ·exact q
 ·exact absurd ti.ents (tk_ne h (rmin h) a g)
structure Drop1 (S0 : DS) (s : SP) (m : BM) (b h0 : Nat) (E0 : List ENT) (kk i : Nat) (v : VS) (a : Int) (h : Nat) (E : List ENT) : Prop where
 xi : TXI 300 mu3 S0 s m b h0 E0 v a h E
 n : E.length < 48
 all : ∀ y ∈ E, ∃ j, i ≤ j ∧ j < kk ∧ y.key = kR j
 has : ∀ j, i ≤ j → j < kk → ∃ y ∈ E, y.key = kR j
 sub : ∀ y ∈ E, y ∈ E0
 W : v.S.W.length ≤ 100 * i
theorem drop1_step {S0 : DS} {s : SP} {m : BM} {b h0 : Nat} {E0 : List ENT} {kk i : Nat} {v : VS} {a : Int} {h : Nat} {E : List ENT} (P : Drop1 S0 s m b h0 E0 kk i v a h E) (hi : i < kk) (hk : kk < 40) (hO : (bsU S0 s b h0 E0).length ≤ 200) :
  ∃ y v1 a1 h1 m3, y.key = kR i ∧ DropR 300 mu3 S0 s m b h0 E0 v a h E y v1 a1 h1 m3 ∧ Drop1 S0 s m b h0 E0 kk (i + 1) (mapV v1 m3) a1 h1 (delE E (kR i)) := by
 obtain ⟨y, hy, hyk⟩ := P.has i (Nat.le_refl _) hi
 have hfew := ti_few3 P.xi.ti P.n
 have hW := P.W
 rcases drop_spec mu3_lim mu3_two mu3_one P.xi hy (by omega) with ⟨v1, a1, h1, m3, r⟩ | ⟨_, _, _, _, hn⟩
 ·refine ⟨y, v1, a1, h1, m3, hyk, r, ?_⟩
  have hW1 := r.W
  rw [← hyk]
  refine ⟨r.xi, Nat.lt_of_le_of_lt (delE_len _ _) P.n, fun z hz => ?_, fun j h1 h2 => ?_, fun z hz => P.sub z (List.mem_filter.1 hz).1, by show v1.S.W.length ≤ _; omega⟩
  ·obtain ⟨q1, q2⟩ := List.mem_filter.1 hz
   obtain ⟨j, j1, j2, j3⟩ := P.all z q1
   refine ⟨j, ?_, j2, j3⟩
   rcases Nat.lt_or_ge i j with c | c
   ·exact c
   ·have e : j = i := by omega
    rw [j3, hyk, e, dTt rfl] at q2
    cases q2
  ·obtain ⟨z, z1, z2⟩ := P.has j (by omega) h2
   refine ⟨z, List.mem_filter.2 ⟨z1, ?_⟩, z2⟩
   rw [z2, hyk, dFf (fun c => by have := kR_inj c; omega)]; rfl
 ·exfalso
  refine hn (Fre.sub2 (U := pgN v.S h a) (fre_few (by omega)) (fun p hp => ?_))
  rcases List.mem_append.1 hp with c | c
  ·exact .inl c
  ·refine .inr (mAr _ ?_)
   rcases List.mem_cons.1 c with rfl | c
   ·exact List.mem_cons_self ..
   ·obtain ⟨z, z1, z2⟩ := List.mem_flatMap.1 c
    exact mCm _ (List.mem_flatMap.2 ⟨z, P.sub z z1, z2⟩)
theorem rooms_put {S0 : DS} {s : SP} {m : BM} {z i : Nat} {v : VS} {a : Int} {h : Nat} {E : List ENT} (P : Put0 S0 s m z i v a h E) (hi : i < 40) (hz : 1 ≤ z ∧ z ≤ 900) (hg : s.gen + 1 < 1000000000) :
  ∃ t m1 m2, CmG v s m m1 m2 a h t ∧ CMT 300 mu3 (cmS v.S (spN s a h t) m2) (spN s a h t) m2 t h E ∧ (freeM m2 = 297 ↔ i = 0) ∧ (bsU (cmS v.S (spN s a h t) m2) (spN s a h t) t h E).length ≤ 200 ∧
   Drop1 (cmS v.S (spN s a h t) m2) (spN s a h t) m2 t h E i 0 ⟨cmS v.S (spN s a h t) m2, (spN s a h t).gen + 1, m2, m2⟩ (spN s a h t).addr h E := by
 obtain ⟨n, hn⟩ : ∃ n, n = (z + 255) / 256 := ⟨_, rfl⟩
 have hn4 : 1 ≤ n ∧ n ≤ 4 := by omega
 have hni : n * i ≤ 4 * 39 := Nat.mul_le_mul hn4.2 (by omega)
 have hW := P.W
 have htx : (txs E).length = n * i := by
  rw [nE_len (z := z) (fun y hy => by obtain ⟨_, _, _, _, q⟩ := P.all y hy; exact q), P.n, hn]
 rcases commit_spec P.xi (by omega) hg with ⟨t, m1, m2, C, D, _, _⟩ | ⟨_, _, _, _, hno⟩
 ·refine ⟨t, m1, m2, C, D, ?_, ?_, ?_⟩
  ·have hf := D.cm.mok.free
   rw [bsU, lAp, lCn, htx] at hf
   constructor
   ·intro q
    rcases Nat.eq_zero_or_pos i with c | c
    ·exact c
    ·have := Nat.mul_le_mul hn4.1 c
     omega
   ·intro q
    subst q
    have hE : E = [] := List.eq_nil_of_length_eq_zero P.n
    subst hE
    have h0 := ti_nil P.xi.ti
    subst h0
    have e : (pgN (cmS v.S (spN s a 0 t) m2) 0 (spN s a 0 t).addr).length = 0 := rfl
    rw [e] at hf
    omega
  ·have hp := (ti_few3 (D.ti 1 (by decide)) (by rw [P.n]; omega)).2
   have hp : (pgN (cmS v.S (spN s a h t) m2) h (spN s a h t).addr).length ≤ 17 := hp
   rw [bsU, lAp, lCn, htx]; omega
  ·refine ⟨D.begin, by rw [P.n]; omega, fun y hy => ?_, fun j _ hj => P.has j hj, fun y hy => hy, ?_⟩
   ·obtain ⟨j, j1, j2, _⟩ := P.all y hy
    exact ⟨j, Nat.zero_le _, j1, j2⟩
   ·show (cmS v.S (spN s a h t) m2).W.length ≤ _
    rw [D.cm.W]; exact Nat.zero_le _
 ·exfalso
  have hH := P.hi
  rw [← hn] at hH
  refine hno (Fre.sub (hi_fre P.xi.ti.vg (M := 60 + n * i) hH (by omega) (by omega)) (fun p hp => ?_))
  rcases List.mem_append.1 hp with c | c
  ·exact mAl _ c
  ·exact mAr _ (mCm _ c)
theorem rooms_drop {S0 : DS} {s : SP} {m : BM} {b h0 : Nat} {E0 : List ENT} {kk : Nat} {v : VS} {a : Int} {h : Nat} {E : List ENT} (P : Drop1 S0 s m b h0 E0 kk kk v a h E) (hk : kk < 40) (hO : (bsU S0 s b h0 E0).length ≤ 200) (hg : s.gen + 1 < 1000000000) :
  E = [] ∧ h = 0 ∧ ∃ t m1 m2, CmG v s m m1 m2 a 0 t ∧ CMT 300 mu3 (cmS v.S (spN s a 0 t) m2) (spN s a 0 t) m2 t 0 [] ∧ freeM m2 = 297 := by
 have hE : E = [] := by
  cases hc : E with
  | nil => rfl
  | cons y l =>
   obtain ⟨j, j1, j2, _⟩ := P.all y (by rw [hc]; exact List.mem_cons_self ..)
   omega
 subst hE
 have h0' := ti_nil P.xi.ti
 subst h0'
 have hW := P.W
 refine ⟨rfl, rfl, ?_⟩
 rcases commit_spec P.xi (by omega) hg with ⟨t, m1, m2, C, D, _, _⟩ | ⟨_, _, _, _, hno⟩
 ·have := empty_free D
  exact ⟨t, m1, m2, C, D, by omega⟩
 ·exact absurd (fre_few (k := 300) (n := 1) (U := pgN v.S 0 a ++ txs []) (O := bsU S0 s b h0 E0) (by show 1 + 0 + _ + 2 ≤ 300; omega)) hno
end Go.Proofs.YtcglabmlhljkmaaGreat
namespace Go.Gv
open Go Go.RowKit
theorem below_of_st {w w' : World} {H : List Atom} (h : St w w' (H ++ [Ex (hp w)])) : Below w.heap.size w w' :=
 ⟨h.1.os, h.1.tape, h.1.output, h.1.size, (Sat.exhp (av := fun _ => True) h.2).1⟩
def LawR (w : World) : Value → World → Prop := fun v w' => ∃ H', (fun v (_ : List Atom) => v = .bool true) v H' ∧ St w w' (H' ++ [Ex (hp w)])
theorem law_calls {P : Program} {f : FuncId} {args : Array Value} {w : World} (h : Calls P f args w (Ret (LawR w))) : Calls P f args w fun e w' => e = .returned (.bool true) ∧ Below w.heap.size w w' :=
 h.mono fun e w' he => by
  cases e with
  | returned v => obtain ⟨H', rfl, hs⟩ := he; exact ⟨rfl, below_of_st hs⟩
  | panicked c => exact he.elim
  | outgrown => exact he.elim
theorem fin_law {H R F : List Atom} (w : World) (p : Pulls H (F ++ [Ex (hp w)]) R) (v : Value) (hv : v = .bool true) : ∀ w', St w w' H → LawR w v w' := fun w' hw => ⟨F, hv, (hw.pulls p).1, Sat.left (hw.pulls p).2⟩
end Go.Gv
namespace Go.Proofs.YtcglabmlhljkmaaGreat
open Go Go.RowKit Go.Gv
structure RO (kk : Nat) where
 r : Nat
 S : DS
 s : SP
 m : BM
 b : Nat
 h : Nat
 E : List ENT
 pv : Nat
 hr : r ≤ 2
 c : CMT 300 mu3 S s m b h E
 g : s.gen = r + 1
 f0 : r = 0 → b = 2 ∧ h = 0 ∧ E = [] ∧ HiM m m 60
 f1 : r = 1 → Drop1 S s m b h E kk 0 ⟨S, s.gen + 1, m, m⟩ s.addr h E ∧ (bsU S s b h E).length ≤ 200
structure RP (S : DS) (s : SP) (m : BM) (z kk : Nat) where
 i : Nat
 v : VS
 a : Int
 h : Nat
 E : List ENT
 hi : i ≤ kk
 P : Put0 S s m z i v a h E
structure RD (S : DS) (s : SP) (m : BM) (b h0 : Nat) (E0 : List ENT) (kk : Nat) where
 i : Nat
 v : VS
 a : Int
 h : Nat
 E : List ENT
 hi : i ≤ kk
 P : Drop1 S s m b h0 E0 kk i v a h E
theorem fm_hi : HiM (fm1 300) (fm1 300) 60 := fun j hj => by
 have c := fm_cmt mu3 (k := 300) (by decide)
 have i := c.cm.mok
 have hno : useAt (fm1 300).u j = false := by
  cases h : useAt (fm1 300).u j with
  | false => rfl
  | true =>
   have hU : bsU (fmS 300) (spF 300) 2 0 [] = [2] := rfl
   rcases (i.use j).1 h with q | q
   ·omega
   ·rw [hU, List.mem_singleton] at q; omega
 rw [bothAt, hno]; rfl
set_option maxRecDepth 8000 in
theorem txnRooms_walk (w : World) (x y : Int) : Calls Tryz.prog 7 #[.int .i64 x, .int .i64 y] w (Ret (LawR w)) := by
 refine Calls.enter Tryz.func7 rfl rfl rfl (St.rebase w) ?_
 simp only [argSlots]
 obtain ⟨kk, hkk⟩ : ∃ k : Nat, (k : Int) = x % 18446744073709551616 % 40 := ⟨(x % 18446744073709551616 % 40).toNat, by omega⟩
 obtain ⟨z, hz⟩ : ∃ z : Nat, (z : Int) = 1 + y % 18446744073709551616 % 900 := ⟨(1 + y % 18446744073709551616 % 900).toNat, by omega⟩
 have hk40 : kk < 40 := by omega
 have hz9 : 1 ≤ z ∧ z ≤ 900 := by omega
 have h8 : 8 ≤ 300 ∧ 300 ≤ 512 := by decide
 have hfr := fm_free h8
 have hfo := fun d => txn_Format d 300 h8
 have c0 := fm_cmt mu3 h8
 have hhi := fm_hi
 have hs0 : spF 300 = ⟨1, 0, 0, 2, ((300 : Nat) : Int)⟩ := rfl
 obtain ⟨S0, hS⟩ : ∃ S, S = fmS 300 := ⟨_, rfl⟩
 obtain ⟨m0, hm⟩ : ∃ m, m = fm1 300 := ⟨_, rfl⟩
 obtain ⟨s0, hs⟩ : ∃ s, s = spF 300 := ⟨_, rfl⟩
 rw [← hS, ← hm, ← hs] at c0
 rw [← hm] at hfr hhi
 simp only [← hS, ← hm, ← hs] at hfo
 rw [← hs] at hs0
 have hsg : s0.gen = 1 := by rw [hs0]
 have hml := c0.cm.mok.len
 have hgen1 : (1 : Nat) = s0.gen := hsg.symm
 have h300 : ((300 : Nat) : Int) = 300 := rfl
 have hnew := disk_NewD 300 h8
 rw [h300] at hnew
 refine Ws ?_
 refine Zcr hnew ?_
 rintro r1 H1 ⟨d, rfl, rfl⟩
 refine Wap ?_
 refine Ws ?_
 refine Zcs (hfo d) ?_
 rintro r2 H2 ⟨pb, pv0, rfl, rfl⟩
 refine Wap ?_
 refine Ws ?_
 refine Zcv law16_stays ?_
 refine Ws ?_
 refine Zz 27 false ?_
 refine Ws ?_
 refine Zz 31 false ?_
 refine Ws ?_
 refine Zz 34 false ?_
 refine Ws ?_
 refine Zi 9 (kk : Int) ?_ (hi := by first | omega | (rw [hkk]; omega))
 refine Ws ?_
 refine Zd (base_Free pb d pv0 s0 m0 false false hml) ?_
 rw [hfr]
 refine Ws ?_
 refine Zat (blk pv0 _ _) (blk pv0 146 (viewL d ⟨S0, s0.gen, m0, m0⟩)) ?_ (e := by rw [← hgen1])
 have st0 : RO kk := ⟨0, S0, s0, m0, 2, 0, [], pv0, Nat.zero_le _, c0, hsg, fun _ => ⟨rfl, rfl, rfl, hhi⟩, fun q => by cases q⟩
 (refine Wl (α := RO kk) (fun q => 2 - q.r) (fun q => [(1, .int .i64 y), (5, .pointer (some ⟨d, 0, none⟩)), (7, .pointer (some ⟨pb, 0, none⟩)), (9, .int .i64 (kk : Int)), (10, .int .i64 ((300 - 3 : Nat) : Int)), (11, .int .i64 (q.r : Int))]) (fun q => [blk pb 161 (baseL d q.pv q.s q.m false false), blk q.pv 146 (viewL d ⟨q.S, q.s.gen, q.m, q.m⟩), DSK d q.S, Ex (hp w)]) ⟨0, S0, s0, m0, 2, 0, [], pv0, Nat.zero_le _, c0, hsg, fun _ => ⟨rfl, rfl, rfl, hhi⟩, fun q => by cases q⟩ ?_; rintro ⟨r, S, s, m, b, h0, E0, pv, hr, c, hg, f0, f1⟩ mx hmx; (try dsimp only at hmx ⊢))
 (try dsimp only)
 have hml := c.cm.mok.len
 have hvok := (c.cm.view (s.gen + 1) (by omega)).ok
 have hgl : s.gen + 1 < 1000000000 := by omega
 refine Ws ?_
 (refine Wcd ?_ ?_ <;> intro hc)
 ·have hbe := base_Begin pb d pv S s m hvok (c.cm.mok.right h8) (by rw [c.cm.div]; exact c.cm.mok.p)
  refine Ws ?_
  refine Zcs hbe ?_
  rintro r4 H4 ⟨pt, tv, rfl, rfl⟩
  refine Wap ?_
  refine Ws ?_
  refine Zat (blk pt _ _) (blk pt 163 (txL pb tv s.addr (h0 : Int) false)) ?_ (e := by rw [c.hh])
  rcases (show r = 0 ∨ r = 1 by omega) with hr0 | hr1
  ·subst hr0
   obtain ⟨hb, hh, hE, hHi⟩ := f0 rfl
   subst hb; subst hh; subst hE
   have hO : bsU S s 2 0 [] = [2] := rfl
   have hP0 : Put0 S s m z 0 ⟨S, s.gen + 1, m, m⟩ s.addr 0 [] := ⟨c.begin, rfl, (fun y hy => by cases hy), (fun j hj => by omega), by rw [Nat.mul_zero]; exact hHi, by show S.W.length ≤ _; rw [c.cm.W]; exact Nat.zero_le _⟩
   (refine Wl (α := RP S s m z kk) (fun q => kk - q.i) (fun q => [(1, .int .i64 y), (5, .pointer (some ⟨d, 0, none⟩)), (7, .pointer (some ⟨pb, 0, none⟩)), (9, .int .i64 (kk : Int)), (10, .int .i64 ((300 - 3 : Nat) : Int)), (11, .int .i64 ((0 : Nat) : Int)), (12, .pointer (some ⟨pt, 0, none⟩)), (13, .int .i64 0), (14, .int .i64 (q.i : Int))]) (fun q => [blk pt 163 (txL pb tv q.a (q.h : Int) false), blk pb 161 (baseL d pv s m true false), blk tv 146 (viewL d q.v), DSK d q.v.S, Ex (hp w)]) ⟨0, ⟨S, s.gen + 1, m, m⟩, s.addr, 0, [], Nat.zero_le _, hP0⟩ ?_; rintro ⟨i, v, a, h, E, hi, P⟩ mx hmx; (try dsimp only at hmx ⊢))
   (try dsimp only)
   refine Ws ?_
   (refine Wcd ?_ ?_ <;> intro hci)
   ·have hik : i < kk := by omega
    have hik' : i + 1 ≤ kk := hik
    obtain ⟨t, m2, v2, a2, h2, PR, P'⟩ := put0_step P (by omega) hz9 hO
    have hWv := P.W
    have hRi : i64R (xR i).key.2 ∧ i64R (xR i).fin := by
     have : i64R (i : Int) := by rw [i64R]; omega
     exact ⟨this, this⟩
    refine Ws ?_
    refine Zi 56 (((i % 3 : Nat)) : Int) ?_ (hi := by omega)
    refine Zbu (ys := keyL (kR i)) ?_
    refine Ws ?_
    refine Zal fun b15 => ?_
    refine Ws ?_
    refine ZSa (ys := keyL (kR i)) ?_ (h1 := by exact two_int _ _)
    refine Ws ?_
    refine Zz 60 true ?_
    refine Ws ?_
    refine Wm [blk b15 38 (keyL (kR i))] ?_
    refine Wq [0] ?_
    refine Zm 1 (h := fun _ _ qK => by exact Zla (cs := keyL (kR i)) qK (hl := by rfl)) (k := ?_)
    refine Wq [2] ?_
    refine Zm 3 (h := fun _ _ qK => by exact Zbu (ys := entL (xR i)) qK) (k := ?_)
    refine Wq [4, 5, 6, 7, 8] ?_
    refine ZA 9 ?_
    refine Zomake1 (m := z) ?_ (hi := by first | omega | (rw [hz]; omega)) (hj := by first | omega | (rw [hz]; omega))
    intro bz
    refine Tri.open (A := blk bz 5 (List.replicate z (.int .u8 0))) Wp (fun hzz hbz => ?_)
    have hrz : Rd hzz (.slice (some ⟨bz, 0, none⟩) z z) (tZ z).length (B8 (tZ z)) := by
     rw [tZ_len, tZ_B8]
     exact blk_Rd hbz ⟨Nat.le_refl _, by omega⟩ (by rw [List.take_of_length_le (Nat.le_refl _)])
    have hput := txn_PutX mu3_lim P.xi PR (xR_ok (by omega) hz9) hRi (put0_chk P) (by omega) pt pb tv d pv true (.slice (some ⟨bz, 0, none⟩) z z) hzz hrz
    refine Zw ?_
    refine ZA 10 ?_
    refine Zd hput ?_
    refine Zw ?_
    refine Wq [11] ?_
    refine ZE ?_
    refine Ws ?_
    refine Zz 72 false ?_
    refine Ws ?_
    refine Zi 14 ((i + 1 : Nat) : Int) ?_ (hi := by omega)
    exact Zag ⟨i + 1, v2, a2, h2, _, hik', P'⟩
   ·have hik : i = kk := by omega
    subst hik
    obtain ⟨t, m1, m2, C, D, hF, hO2, DD⟩ := rooms_put P hk40 hz9 hgl
    refine Ws ?_
    refine Zz 79 false ?_
    refine Ws ?_
    refine Zcs (txn_Commit pt pb tv d pv v a h s m m1 m2 true t C) ?_
    rintro r6 H6 ⟨pv2, rfl, rfl⟩
    refine Wap ?_
    refine Ws ?_
    refine Zz 84 false ?_
    refine Ws ?_
    refine Zd (base_Free pb d pv2 (spN s a h t) m2 false false D.cm.mok.len) ?_
    refine Ws ?_
    refine Zz 91 false ?_
    have hfz : decide ((freeM m2 : Int) = ((300 - 3 : Nat) : Int)) = decide ((i : Int) = 0) := decide_eq_decide.2 (by
     have : ((300 - 3 : Nat) : Int) = 297 := rfl
     rw [this]
     constructor
     ·intro q; have := hF.1 (by omega); omega
     ·intro q; have := hF.2 (by omega); omega)
    refine Zz 88 (decide ((i : Int) = 0)) ?_ (hi := by exact hfz)
    refine Ws ?_
    refine Zz 96 false ?_ (hi := by simp)
    have hg1 : (spN s a h t).gen = 1 + 1 := by show s.gen + 1 = 1 + 1; omega
    have hn0 : (1 : Nat) = 0 → t = 2 ∧ h = 0 ∧ E = [] ∧ HiM m2 m2 60 := fun q => by cases q
    refine Zat (blk pv2 _ _) (blk pv2 146 (viewL d ⟨cmS v.S (spN s a h t) m2, (spN s a h t).gen, m2, m2⟩)) ?_
    refine Ws ?_
    refine Zi 11 ((1 : Nat) : Int) ?_ (hi := by rfl)
    exact Zag ⟨1, cmS v.S (spN s a h t) m2, spN s a h t, m2, t, h, E, pv2, Nat.le_succ 1, D, hg1, hn0, fun _ => ⟨DD, hO2⟩⟩
  ·subst hr1
   obtain ⟨hP0, hO⟩ := f1 rfl
   (refine Wl (α := RD S s m b h0 E0 kk) (fun q => kk - q.i) (fun q => [(1, .int .i64 y), (5, .pointer (some ⟨d, 0, none⟩)), (7, .pointer (some ⟨pb, 0, none⟩)), (9, .int .i64 (kk : Int)), (10, .int .i64 ((300 - 3 : Nat) : Int)), (11, .int .i64 ((1 : Nat) : Int)), (12, .pointer (some ⟨pt, 0, none⟩)), (13, .int .i64 0), (14, .int .i64 (q.i : Int))]) (fun q => [blk pt 163 (txL pb tv q.a (q.h : Int) false), blk pb 161 (baseL d pv s m true false), blk tv 146 (viewL d q.v), DSK d q.v.S, Ex (hp w)]) ⟨0, ⟨S, s.gen + 1, m, m⟩, s.addr, h0, E0, Nat.zero_le _, hP0⟩ ?_; rintro ⟨i, v, a, h, E, hi, P⟩ mx hmx; (try dsimp only at hmx ⊢))
   (try dsimp only)
   refine Ws ?_
   (refine Wcd ?_ ?_ <;> intro hci)
   ·have hik : i < kk := by omega
    have hik' : i + 1 ≤ kk := hik
    have hWv := P.W
    obtain ⟨yE, v1, a1, h1, m3, hyk, DR, P'⟩ := drop1_step P hik hk40 hO
    have hvv := P.xi.ti.vg.ok
    have hby := ((P.xi.tx yE (by
     have := DR.f.2
     have hm := (ti_fd yE.key P.xi.ti).2
     rw [this] at hm
     rcases hf : E.find? (fun q => decide (q.key = yE.key)) with _ | q
     ·rw [fdE, hf] at hm
      have := congrArg Prod.snd hm
      cases this
     ·have hq := List.mem_of_find?_eq_some hf
      rw [fdE, hf] at hm
      have := congrArg Prod.fst hm
      have : yE = q := this
      rw [this]; exact hq)).bounds).2
    have hdr := txn_Drop pt pb tv d pv v a h s m true (kR i) hvv (by omega) hml P.xi.ti.h5 yE v1 a1 h1 m3 (by rw [← hyk]; exact DR.f.1) (by rw [← hyk]; exact DR.f.2) (by rw [← hyk]; exact DR.g) (by rw [← hyk]; exact DR.d) ⟨by omega, hby.2⟩ DR.gv DR.ok DR.len DR.rm DR.p
    refine Ws ?_
    refine Zi 56 (((i % 3 : Nat)) : Int) ?_ (hi := by omega)
    refine Zbu (ys := keyL (kR i)) ?_
    refine Ws ?_
    refine Zal fun b15 => ?_
    refine Ws ?_
    refine ZSa (ys := keyL (kR i)) ?_ (h1 := by exact two_int _ _)
    refine Ws ?_
    refine Zz 60 false ?_
    refine Ws ?_
    refine Zla (cs := keyL (kR i)) ?_ (hl := by rfl)
    refine Ws ?_
    refine Zd hdr ?_
    refine Ws ?_
    refine Zz 76 false ?_
    refine Ws ?_
    refine Zi 14 ((i + 1 : Nat) : Int) ?_ (hi := by omega)
    exact Zag ⟨i + 1, mapV v1 m3, a1, h1, _, hik', P'⟩
   ·have hik : i = kk := by omega
    subst hik
    obtain ⟨hE, hh, t, m1, m2, C, D, hF⟩ := rooms_drop P hk40 hO hgl
    subst hh
    refine Ws ?_
    refine Zz 79 false ?_
    refine Ws ?_
    refine Zcs (txn_Commit pt pb tv d pv v a 0 s m m1 m2 true t C) ?_
    rintro r6 H6 ⟨pv2, rfl, rfl⟩
    refine Wap ?_
    refine Ws ?_
    refine Zz 84 false ?_
    refine Ws ?_
    refine Zd (base_Free pb d pv2 (spN s a 0 t) m2 false false D.cm.mok.len) ?_
    rw [hF]
    refine Ws ?_
    refine Zz 91 true ?_
    refine Zz 88 true ?_
    refine Ws ?_
    refine Zz 96 false ?_
    have hg1 : (spN s a 0 t).gen = 2 + 1 := by show s.gen + 1 = 2 + 1; omega
    have hn0 : (2 : Nat) = 0 → t = 2 ∧ 0 = 0 ∧ ([] : List ENT) = [] ∧ HiM m2 m2 60 := fun q => by cases q
    have hn1 : (2 : Nat) = 1 → Drop1 (cmS v.S (spN s a 0 t) m2) (spN s a 0 t) m2 t 0 [] i 0 ⟨cmS v.S (spN s a 0 t) m2, (spN s a 0 t).gen + 1, m2, m2⟩ (spN s a 0 t).addr 0 [] ∧ (bsU (cmS v.S (spN s a 0 t) m2) (spN s a 0 t) t 0 []).length ≤ 200 := fun q => by cases q
    refine Zat (blk pv2 _ _) (blk pv2 146 (viewL d ⟨cmS v.S (spN s a 0 t) m2, (spN s a 0 t).gen, m2, m2⟩)) ?_
    refine Ws ?_
    refine Zi 11 ((2 : Nat) : Int) ?_ (hi := by rfl)
    exact Zag ⟨2, cmS v.S (spN s a 0 t) m2, spN s a 0 t, m2, t, 0, [], pv2, Nat.le_refl 2, D, hg1, hn0, hn1⟩
 ·refine Ws ?_
  refine Zd (law16_sound c pb d pv false) ?_
  refine Ws ?_
  (first | with_reducible apply Tri.fin | with_reducible apply Tri.finN)
  case hr => rfl
  case h => exact ResL.cons (Res1.tmp rfl) ResL.nil
  exact fin_law (F := []) w Wps _ rfl
end Go.Proofs.YtcglabmlhljkmaaGreat
