/- Texts of this claim, put together: BtPlain, DvPlain2, LwPlain, WkPlain2, TvPlain10, TxPlain, WkPlain3, WkPlain4, TvPlain11, TvPlain6, TvPlain12, TvPlain7, TvPlain8, TvPlain13, TvPlain14, TfPlain, TvPlain15, TvPlain16, TvPlain17, TvPlain18, TvPlain19, TxPlain2, SpPlain, SpPlain2. -/
import Derived.Test.YtcglabmlhljkmaaGreatZ04
import Derived.Test.YtcglabmlhljkmaaGreatZ03
import Derived.Test.YtcglabmlhljkmaaGreatZ02
import Derived.Test.YtcglabmlhljkmaaGreatZ00
set_option maxHeartbeats 64000000
set_option linter.unusedVariables false
set_option linter.unusedSimpArgs false
namespace Go.Gv
theorem useAt_new (k : Int) (j : Nat) : useAt (newM k).u j = decide (j < 2) := by
 unfold useAt
 show ([true, true] ++ List.replicate 510 false).getD j false = _
 rw [gDe, List.getElem?_append]
 split
 ·rename_i h
  have : j = 0 ∨ j = 1 := by simp at h; omega
  rcases this with rfl | rfl <;> rfl
 ·rename_i h
  simp at h
  rw [dFf (show ¬ j < 2 by omega), List.getElem?_replicate]
  split <;> rfl
theorem newM_p (k : Nat) (h : 8 ≤ k ∧ k ≤ 512) : (newM (k : Int)).p = (k : Int) := by
 show min (max (k : Int) 8) 512 = _
 omega
theorem free_new (k : Nat) (h : 8 ≤ k ∧ k ≤ 512) : ∀ K, freeTo (newM (k : Int)) K = min K k - 2
 | 0 => by simp [freeTo]
 | K + 1 => by
  rw [freeTo, free_new k h K, newM_p k h, useAt_new]
  by_cases h1 : K < k
  ·by_cases h2 : K < 2
   ·rw [dTt h2, if_neg (by simp)]; omega
   ·rw [dFf h2, dTt (show (K : Int) < k by omega), if_pos (by simp)]; omega
  ·rw [dFf (show ¬ (K : Int) < k by omega), if_neg (by simp)]; omega
theorem freeTo_far (p : Int) (u : List Bool) (j : Nat) (b : Bool) (hj : j < u.length) : ∀ K, K ≤ j → freeTo ⟨p, u.set j b⟩ K = freeTo ⟨p, u⟩ K
 | 0, _ => rfl
 | K + 1, h => by
  rw [freeTo, freeTo, freeTo_far p u j b hj K (by omega)]
  simp only [useAt_set u j K b hj, if_neg (show ¬ K = j by omega)]
theorem freeTo_take (p : Int) (u : List Bool) (j : Nat) (hj : j < u.length) (hp : (j : Int) < p) (hu : useAt u j = false) : ∀ K, j < K → freeTo ⟨p, u.set j true⟩ K + 1 = freeTo ⟨p, u⟩ K
 | 0, h => by omega
 | K + 1, h => by
  rw [freeTo, freeTo]
  by_cases e : K = j
  ·subst e
   rw [freeTo_far p u K true hj K (Nat.le_refl _)]
   simp only [useAt_set u K K true hj, if_true, hu, dTt hp]
   simp
  ·have ih := freeTo_take p u j hj hp hu K (by omega)
   simp only [useAt_set u j K true hj, if_neg e]
   omega
theorem freeTo_give (p : Int) (u : List Bool) (j : Nat) (hj : j < u.length) (hp : (j : Int) < p) (hu : useAt u j = true) : ∀ K, j < K → freeTo ⟨p, u.set j false⟩ K = freeTo ⟨p, u⟩ K + 1
 | 0, h => by omega
 | K + 1, h => by
  rw [freeTo, freeTo]
  by_cases e : K = j
  ·subst e
   rw [freeTo_far p u K false hj K (Nat.le_refl _)]
   simp only [useAt_set u K K false hj, if_true, hu, dTt hp]
   simp
  ·have ih := freeTo_give p u j hj hp hu K (by omega)
   simp only [useAt_set u j K false hj, if_neg e]
   omega
structure Inv (k : Nat) (m : BM) (had : List Nat) : Prop where
 len : m.u.length = 512
 p : m.p = (k : Int)
 use : ∀ j, useAt m.u j = true ↔ (j < 2 ∨ j ∈ had)
 rng : ∀ a ∈ had, 2 ≤ a ∧ a < k
 nodup : had.Nodup
 free : freeM m + 2 + had.length = k
theorem Inv.new (k : Nat) (h : 8 ≤ k ∧ k ≤ 512) : Inv k (newM k) [] :=
 ⟨newM_length _, newM_p k h, fun j => by rw [useAt_new]; simp, fun a ha => by simp at ha, List.nodup_nil, by
  show freeTo _ 512 + 2 + 0 = k
  rw [free_new k h]; omega⟩
theorem right_of {m : BM} (k : Nat) (h : 8 ≤ k ∧ k ≤ 512) (hp : m.p = (k : Int)) (h0 : ∀ j, j < 2 → useAt m.u j = true) (h1 : ∀ j, k ≤ j → useAt m.u j = false) : rightM m = true := by
 have hf : (List.range 512).all (fitAt m) = true := fit_all (fun j _ => by
  unfold fitAt
  rw [hp]
  by_cases h2 : j < 2
  ·rw [dTt h2, h0 j h2, dFf (show ¬ ((k : Int) ≤ (j : Int)) by omega)]; rfl
  ·by_cases h3 : k ≤ j
   ·rw [dFf h2, h1 j h3]; simp
   ·rw [dFf h2, dFf (show ¬ ((k : Int) ≤ (j : Int)) by omega)]; simp)
 rw [rightM, hf, hp, dTt (show (8 : Int) ≤ k by omega), dTt (show (k : Int) ≤ 512 by omega)]; rfl
theorem Inv.right {k : Nat} {m : BM} {had : List Nat} (i : Inv k m had) (h : 8 ≤ k ∧ k ≤ 512) : rightM m = true :=
 right_of k h i.p (fun j hj => (i.use j).2 (.inl hj)) (fun j hj => by
  cases hu : useAt m.u j
  ·rfl
  ·rcases (i.use j).1 hu with h2 | h2
   ·omega
   ·have := i.rng j h2; omega)
theorem new_right (k : Nat) (h : 8 ≤ k ∧ k ≤ 512) : rightM (newM k) = true := (Inv.new k h).right h
theorem Inv.give {k : Nat} {m : BM} {A B : List Nat} {x : Nat} (i : Inv k m (A ++ x :: B)) (h : 8 ≤ k ∧ k ≤ 512) :
  giveM m x 1 = (⟨m.p, m.u.set x false⟩, 0) ∧ Inv k ⟨m.p, m.u.set x false⟩ (A ++ B) := by
 have hx := i.rng x (by simp)
 have hxl : x < m.u.length := by rw [i.len]; omega
 have hux : useAt m.u x = true := (i.use x).2 (.inr (by simp))
 have hnd := i.nodup
 rw [List.nodup_append] at hnd
 obtain ⟨n1, n2, n3⟩ := hnd
 rw [List.nodup_cons] at n2
 constructor
 ·have h1 : (!rightM m) = false := by rw [i.right h]; rfl
  have h6 : allUsed m (x : Int).toNat (1 : Int).toNat = true := List.all_eq_true.2 (fun j hj => by
   have : j = 0 := by simp at hj; omega
   subst this; simpa using hux)
  have hp := i.p
  rw [giveM, h1, h6, dFf (show ¬ (1 : Int) < 0 by omega), dFf (show ¬ (x : Int) < 2 by omega), dFf (show ¬ m.p < (x : Int) by omega), dFf (show ¬ m.p - (x : Int) < 1 by omega)]
  rfl
 ·refine ⟨by simp [i.len], i.p, fun j => ?_, fun a ha => i.rng a (by simp at ha ⊢; rcases ha with h | h <;> simp [h]), ?_, ?_⟩
  ·simp only [useAt_set _ _ _ _ hxl]
   by_cases e : j = x
   ·subst e
    rw [if_pos rfl]
    constructor
    ·intro h; cases h
    ·rintro (h | h)
     ·omega
     ·simp at h
      rcases h with h | h
      ·exact absurd rfl (n3 j h j (by simp))
      ·exact absurd h n2.1
   ·rw [if_neg e, i.use]
    simp [e]
  ·rw [List.nodup_append]
   exact ⟨n1, n2.2, fun a ha b hb => n3 a ha b (by simp [hb])⟩
  ·have := freeTo_give m.p m.u x hxl (by rw [i.p]; omega) hux 512 (by omega)
   have hf := i.free
   simp only [lAp, lCn] at hf ⊢
   show freeTo _ 512 + 2 + _ = k
   rw [this]
   have : freeM m = freeTo ⟨m.p, m.u⟩ 512 := rfl
   omega
theorem both_new {k : Nat} {m : BM} {had : List Nat} (i : Inv k m had) (p : Nat) : bothAt m (newM k) p = useAt m.u p := by
 rw [bothAt, useAt_new]
 by_cases h : p < 2
 ·rw [(i.use p).2 (.inl h)]; rfl
 ·rw [dFf h, Bool.or_false]
theorem run_all (m o : BM) : ∀ i, (∀ p, p < i → bothAt m o p = true) → runTo m o i = 0
 | 0, _ => rfl
 | i + 1, h => by rw [runTo, h i (by omega), if_pos rfl]
theorem seek_none (m o : BM) : ∀ f i, (∀ p, p < i + f → bothAt m o p = true) → seek m o 1 f i = none
 | 0, _, _ => rfl
 | f + 1, i, h => by
  rw [seek, run_all m o (i + 1) (fun p hp => h p (by omega)), if_neg (by omega)]
  exact seek_none m o f (i + 1) (fun p hp => h p (by omega))
theorem seek_some (m o : BM) (t : Nat) (ht : bothAt m o t = false) (hb : ∀ p, p < t → bothAt m o p = true) : ∀ f i, i ≤ t → t < i + f → seek m o 1 f i = some t
 | 0, _, _, h => by omega
 | f + 1, i, h1, h2 => by
  by_cases e : i = t
  ·subst e
   have hr : runTo m o (i + 1) = 1 := by rw [runTo, ht, if_neg (by simp), run_all m o i hb]
   rw [seek, hr, if_pos (show ((1 : Nat) : Int) = 1 from rfl)]
   rfl
  ·rw [seek, run_all m o (i + 1) (fun p hp => hb p (by omega)), if_neg (by omega)]
   exact seek_some m o t ht hb f (i + 1) (by omega) (by omega)
theorem Inv.alike {k : Nat} {m : BM} {had : List Nat} (i : Inv k m had) (h : 8 ≤ k ∧ k ≤ 512) : alikeM m (newM k) = true := by
 rw [alikeM, i.right h, new_right k h, i.p, newM_p k h]; simp
theorem Inv.full {k : Nat} {m : BM} {had : List Nat} (i : Inv k m had) (h : 8 ≤ k ∧ k ≤ 512) (hu : ∀ p, 2 ≤ p → p < k → useAt m.u p = true) : takeM m (newM k) 1 = (zeroM, 0, 5) := by
 have hs : seek m (newM k) 1 m.p.toNat 0 = none := seek_none _ _ _ _ (fun p hp => by
  rw [both_new i]
  by_cases h2 : p < 2
  ·exact (i.use p).2 (.inl h2)
  ·exact hu p (by omega) (by have := i.p; omega))
 have h1 : (!alikeM m (newM k)) = false := by rw [i.alike h]; rfl
 rw [takeM, h1, hs]; rfl
theorem Inv.take {k : Nat} {m : BM} {had : List Nat} (i : Inv k m had) (h : 8 ≤ k ∧ k ≤ 512) (t : Nat) (ht : 2 ≤ t ∧ t < k) (hf : useAt m.u t = false) (hu : ∀ p, 2 ≤ p → p < t → useAt m.u p = true) :
  takeM m (newM k) 1 = (⟨m.p, m.u.set t true⟩, (t : Int), 0) ∧ Inv k ⟨m.p, m.u.set t true⟩ (had ++ [t]) := by
 have htl : t < m.u.length := by rw [i.len]; omega
 have hp := i.p
 constructor
 ·have hs : seek m (newM k) 1 m.p.toNat 0 = some t := seek_some _ _ t (by rw [both_new i]; exact hf) (fun p hp => by
   rw [both_new i]
   by_cases h2 : p < 2
   ·exact (i.use p).2 (.inl h2)
   ·exact hu p (by omega) hp) _ _ (Nat.zero_le _) (by omega)
  have h1 : (!alikeM m (newM k)) = false := by rw [i.alike h]; rfl
  rw [takeM, h1, hs]; rfl
 ·have hnot : t ∉ had := fun hm => by
   have := (i.use t).2 (.inr hm)
   rw [this] at hf; cases hf
  refine ⟨by simp [i.len], i.p, fun j => ?_, fun a ha => ?_, ?_, ?_⟩
  ·simp only [useAt_set _ _ _ _ htl]
   by_cases e : j = t
   ·subst e; simp
   ·rw [if_neg e, i.use]; simp [e]
  ·simp at ha
   rcases ha with ha | rfl
   ·exact i.rng a ha
   ·exact ht
  ·rw [List.nodup_append]
   exact ⟨i.nodup, by simp, fun a ha b hb => by simp at hb; subst hb; intro e; subst e; exact hnot ha⟩
  ·have := freeTo_take m.p m.u t htl (by rw [i.p]; omega) hf 512 (by omega)
   have hfr := i.free
   simp only [lAp, lCn, List.length_nil]
   show freeTo _ 512 + 2 + _ = k
   have : freeM m = freeTo ⟨m.p, m.u⟩ 512 := rfl
   omega
end Go.Gv
namespace Go.Proofs.YtcglabmlhljkmaaGreat
open Go Go.RowKit Go.Gv
theorem seg_same (n : Nat) (A : List UInt8) (i : Nat) (b : List UInt8) (hi : i * n + n ≤ A.length) (hb : b.length = n) : ((putAt A (i * n) b).drop (i * n)).take n = b := by
 unfold putAt
 rw [aAs, List.drop_append_of_le_length (by rw [lTk]; omega), List.drop_of_length_le (by rw [lTk]; omega), nAp, List.take_left' hb]
theorem seg_other (n : Nat) (A : List UInt8) (i j : Nat) (b : List UInt8) (hi : i * n + n ≤ A.length) (hb : b.length = n) (hj : j ≠ i) : ((putAt A (i * n) b).drop (j * n)).take n = (A.drop (j * n)).take n := by
 apply List.ext_getElem?
 intro k
 rw [List.getElem?_take, List.getElem?_take]
 split
 ·rename_i hk
  rw [List.getElem?_drop, List.getElem?_drop]
  unfold putAt
  have hlt : (A.take (i * n)).length = i * n := by rw [lTk]; omega
  by_cases hji : j < i
  ·have : j * n + k < i * n := by
    have := Nat.mul_le_mul_right n (show j + 1 ≤ i from hji)
    rw [Nat.add_mul] at this; omega
   rw [aAs, List.getElem?_append_left (by omega), List.getElem?_take, if_pos this]
  ·have : i * n + n ≤ j * n + k := by
    have := Nat.mul_le_mul_right n (show i + 1 ≤ j by omega)
    rw [Nat.add_mul] at this; omega
   rw [List.getElem?_append_right (by rw [lAp]; omega), List.getElem?_drop, lAp, hlt, hb]
   congr 1; omega
 ·rfl
theorem pgAt_same (A : List UInt8) (i : Nat) (b : List UInt8) (hi : i * 256 + 256 ≤ A.length) (hb : b.length = 256) : pgAt (putAt A (i * 256) b) i = b := seg_same 256 A i b hi hb
theorem pgAt_other (A : List UInt8) (i j : Nat) (b : List UInt8) (hi : i * 256 + 256 ≤ A.length) (hb : b.length = 256) (hj : j ≠ i) : pgAt (putAt A (i * 256) b) j = pgAt A j := seg_other 256 A i j b hi hb hj
def DS.on (S : DS) : Prop := S.ok ∧ S.off = false ∧ S.till = -1
theorem DS.wrs_page {S : DS} (h : S.on) (a : Nat) (b : List UInt8) (hb : b.length = 256) (ha : a * 256 + 256 ≤ S.A.length) :
  (S.wrs ((a : Int) * 4) (secs b 4)).2 = 0 ∧ (S.wrs ((a : Int) * 4) (secs b 4)).1.on ∧ (S.wrs ((a : Int) * 4) (secs b 4)).1.V = putAt S.V (a * 256) b ∧ (S.wrs ((a : Int) * 4) (secs b 4)).1.A = S.A ∧ (S.wrs ((a : Int) * 4) (secs b 4)).1.W.length ≤ S.W.length + 4 := by
 have h1 := DS.wrs_V h.1 (a * 4) b h.2.1 h.2.2 4 (by omega) (by omega)
 have h2 := DS.wrs_len (secs b 4) S ((a : Int) * 4)
 have e : ((a * 4 : Nat) : Int) = (a : Int) * 4 := by omega
 rw [e] at h1
 rw [secs_length] at h2
 refine ⟨h1.1, ⟨DS.wrs_ok _ _ h.1, h1.2.1, h1.2.2.1⟩, ?_, h2.2, h2.1⟩
 rw [h1.2.2.2, show a * 4 * 64 = a * 256 by omega, List.take_of_length_le (by omega)]
theorem rdE_page {S : DS} (h : S.on) (a : Nat) (ha : a * 256 + 256 ≤ S.A.length) : rdE S ((a : Int) * 4) 4 = 0 := by
 have := rdE_of (S := S) (a := a * 4) h.2.1 4 (by omega)
 rwa [show ((a * 4 : Nat) : Int) = (a : Int) * 4 by omega] at this
theorem rdPg_on {S : DS} (h : S.on) (a : Nat) (ha : a * 256 + 256 ≤ S.A.length) (kind : UInt8) : rdPg S (a : Int) kind = if (getP (pgAt S.V a)).2 = 0 ∧ (getP (pgAt S.V a)).1.a = (a : Int) ∧ (getP (pgAt S.V a)).1.k = kind then getP (pgAt S.V a) else (zeroP, 3) := by
 rw [rdPg, rdE_page h a ha, if_neg (by simp)]; rfl
def DS.new (k : Nat) : DS := ⟨List.replicate (k * 256) 0, [], false, -1⟩
theorem DS.new_on (k : Nat) (h : k ≤ 512) : (DS.new k).on := ⟨⟨by show (List.replicate _ _).length ≤ _; simp; omega, by show -1 ≤ (-1 : Int) ∧ (-1 : Int) ≤ _; omega, fun x hx => by cases hx⟩, rfl, rfl⟩
theorem DS.new_ok (k : Nat) (h : k ≤ 512) : (DS.new k).ok := (DS.new_on k h).1
theorem DS.new_len (k : Nat) : (DS.new k).A.length = k * 256 := List.length_replicate
theorem disk_NewD (k : Nat) (h : 8 ≤ k ∧ k ≤ 512) : SpecR Tryz.prog 28 #[.int .i64 (k : Int)] (fun _ => True) (fun r H' => ∃ p, r = .tuple #[.pointer (some ⟨p, 0, none⟩), .int .i64 0] ∧ H' = [DSK p (DS.new k)]) := by
 refine SpecR.conv (disk_New k h) (fun r H' hr => ?_)
 obtain ⟨p, a, rfl, rfl⟩ := hr
 exact ⟨_, ⟨p, rfl, rfl⟩, fun w0 w H hw => dsk_close (S := DS.new k) (W := []) rfl hw⟩
theorem less_of {a b : KEY} (h : a.1 < b.1 ∨ (a.1 = b.1 ∧ a.2 < b.2)) : lessK a b = true := by
 rw [lessK]
 rcases h with h | ⟨h1, h2⟩
 ·rw [dTt h]; rfl
 ·rw [dTt h1, dTt h2, Bool.true_and, Bool.or_true]
def uC (c : Nat) : List Bool := List.replicate c true ++ List.replicate (512 - c) false
theorem useC (c i : Nat) : useAt (uC c) i = decide (i < c) := by
 unfold useAt uC
 rw [gDe]
 by_cases h : i < c
 ·rw [List.getElem?_append_left (by simpa using h), List.getElem?_replicate, if_pos h, dTt h]; rfl
 ·rw [List.getElem?_append_right (by simpa using h), List.getElem?_replicate, dFf h]
  split <;> rfl
theorem uC_len {c : Nat} (h : c ≤ 512) : (uC c).length = 512 := by simp [uC]; omega
theorem rightC {c : Nat} (h2 : 2 ≤ c) (hc : c ≤ 200) : rightM ⟨200, uC c⟩ = true := by
 have hall : (List.range 512).all (fitAt ⟨200, uC c⟩) = true := fit_all (fun j hj => by
  unfold fitAt
  show (!(decide (j < 2) && !useAt (uC c) j || decide ((200 : Int) ≤ (j : Int)) && useAt (uC c) j)) = true
  rw [useC]
  by_cases h1 : j < c
  ·rw [dTt h1, dFf (show ¬ (200 : Int) ≤ (j : Int) by omega)]
   simp
  ·rw [dFf h1, dFf (show ¬ j < 2 by omega)]
   simp)
 show (decide ((8 : Int) ≤ 200) && decide ((200 : Int) ≤ 512) && _) = true
 rw [hall]; rfl
theorem runC {c : Nat} (h2 : 2 ≤ c) : ∀ j, j ≤ c → runTo ⟨200, uC c⟩ ⟨200, uC 2⟩ j = 0
 | 0, _ => rfl
 | j + 1, h => by
  rw [runTo, if_pos]
  unfold bothAt
  show (useAt (uC c) j || _) = true
  rw [useC, dTt (by omega)]; rfl
theorem runC1 {c : Nat} (h2 : 2 ≤ c) : runTo ⟨200, uC c⟩ ⟨200, uC 2⟩ (c + 1) = 1 := by
 rw [runTo, if_neg, runC h2 c (Nat.le_refl _)]
 unfold bothAt
 show ¬ (useAt (uC c) c || useAt (uC 2) c) = true
 rw [useC, useC, dFf (by omega), dFf (by omega)]; simp
theorem seekC {c : Nat} (h2 : 2 ≤ c) : ∀ (f k : Nat), k ≤ c → c < f + k → seek ⟨200, uC c⟩ ⟨200, uC 2⟩ 1 f k = some c
 | 0, k, h, hf => by omega
 | f + 1, k, h, hf => by
  rw [seek]
  by_cases hk : k = c
  ·subst hk
   rw [runC1 h2, if_pos (by rfl)]
   simp
  ·rw [runC h2 (k + 1) (by omega), if_neg (by simp), seekC h2 f (k + 1) (by omega) (by omega)]
theorem setC {c : Nat} (hc : c < 512) : (uC c).set c true = uC (c + 1) := by
 refine List.ext_getElem? (fun i => ?_)
 unfold uC
 rw [List.getElem?_set]
 by_cases h : c = i
 ·subst h
  rw [if_pos rfl, if_pos (by simp; omega), List.getElem?_append_left (by simp), List.getElem?_replicate, if_pos (by omega)]
 ·rw [if_neg h]
  by_cases h1 : i < c
  ·rw [List.getElem?_append_left (by simpa using h1), List.getElem?_append_left (by simp; omega), List.getElem?_replicate, List.getElem?_replicate, if_pos h1, if_pos (by omega)]
  ·rw [List.getElem?_append_right (by simp; omega), List.getElem?_append_right (by simp; omega), List.getElem?_replicate, List.getElem?_replicate]
   simp only [List.length_replicate]
   by_cases h3 : i < 512
   ·rw [if_pos (by omega), if_pos (by omega)]
   ·rw [if_neg (by omega), if_neg (by omega)]
theorem takeC {c : Nat} (h2 : 2 ≤ c) (hc : c < 200) : takeM ⟨200, uC c⟩ ⟨200, uC 2⟩ 1 = (⟨200, uC (c + 1)⟩, (c : Int), 0) := by
 have ha : alikeM ⟨200, uC c⟩ ⟨200, uC 2⟩ = true := by
  unfold alikeM
  rw [rightC h2 (by omega), rightC (Nat.le_refl 2) (by omega)]; rfl
 unfold takeM
 rw [ha, if_neg (by simp)]
 have : seek ⟨200, uC c⟩ ⟨200, uC 2⟩ 1 (⟨200, uC c⟩ : BM).p.toNat 0 = some c := seekC h2 200 0 (by omega) (by omega)
 rw [this]
 show ((⟨200, setFrom (uC c) true c 1⟩ : BM), (c : Int), 0) = _
 have hs : setFrom (uC c) true c 1 = uC (c + 1) := by
  show (uC c).set (c + 0) true = _
  rw [Nat.add_zero, setC (by omega)]
 rw [hs]
structure VC (c : Nat) (v : VS) : Prop where
 on : v.S.on
 len : v.S.A.length = 51200
 gen : v.gen = 1
 m : v.m = ⟨200, uC c⟩
 old : v.old = ⟨200, uC 2⟩
 wt : v.S.W.length ≤ 4 * c
theorem VC.ok {c : Nat} {v : VS} (h : VC c v) (hc : c ≤ 200) : v.ok := ⟨h.on.1, by rw [h.gen]; decide, by rw [h.m]; exact uC_len (by omega), by rw [h.old]; exact uC_len (by omega)⟩
theorem putN_len {leaf : Bool} {x : ND3} (hr : rightN leaf x.E x.K x.D = true) : (putN leaf x.E x.K x.D).length ≤ 238 := by
 cases leaf
 ·rw [rightN, if_neg (by simp), Bool.and_eq_true] at hr
  have := innerB_spec hr.2
  show (putI x.K x.D).length ≤ 238
  rw [putI_length]; omega
 ·rw [rightN, if_pos rfl, Bool.and_eq_true, Bool.and_eq_true] at hr
  have := leaf_spec hr.2.2
  show (putL x.E).length ≤ 238
  rw [putL_length]; omega
theorem getN_put {leaf : Bool} {x : ND3} (hr : rightN leaf x.E x.K x.D = true) (hE : ∀ e ∈ x.E, entR e) (hK : ∀ k ∈ x.K, keyR k) : getN leaf (putN leaf x.E x.K x.D) = ⟨leaf, x.E, x.K, x.D, 0⟩ := by
 obtain ⟨E, Ks, D⟩ := x
 cases leaf
 ·rw [rightN, if_neg (by simp), Bool.and_eq_true, decide_eq_true_eq] at hr
  have hE0 : E = [] := List.eq_nil_of_length_eq_zero hr.1
  show getN false (putI Ks D) = _
  rw [getN, if_neg (by simp), get_putI hr.2 hK, hE0]
 ·rw [rightN, if_pos rfl, Bool.and_eq_true, Bool.and_eq_true, decide_eq_true_eq, decide_eq_true_eq] at hr
  have hK0 : Ks = [] := List.eq_nil_of_length_eq_zero hr.1
  have hD0 : D = [] := List.eq_nil_of_length_eq_zero hr.2.1
  show getN true (putL E) = _
  rw [getN, if_pos rfl, get_putL hr.2.2 hE, hK0, hD0]; rfl
theorem fit200 {j : Nat} (h : j < 200) : j * 256 + 256 ≤ 51200 := by
 have := Nat.mul_le_mul_right 256 (show j + 1 ≤ 200 from h)
 rw [Nat.add_mul] at this
 exact this
theorem kindN_known (leaf : Bool) : knownK (kindN leaf) = true := by cases leaf <;> rfl
theorem VC.wr {c : Nat} {v : VS} {leaf : Bool} {x : ND3} (h : VC c v) (h2 : 2 ≤ c) (hc : c < 200) (hr : rightN leaf x.E x.K x.D = true) (hE : ∀ e ∈ x.E, entR e) (hK : ∀ k ∈ x.K, keyR k) :
  ∃ v', wrN v leaf x = (v', (c : Int), 0) ∧ VC (c + 1) v' ∧ rdN v'.S (c : Int) leaf = ⟨leaf, x.E, x.K, x.D, 0⟩ ∧ ∀ (j : Nat) (lf : Bool), j < 200 → j ≠ c → rdN v'.S (j : Int) lf = rdN v.S (j : Int) lf := by
 have ht : takeM v.m v.old 1 = (⟨200, uC (c + 1)⟩, (c : Int), 0) := by rw [h.m, h.old]; exact takeC h2 hc
 obtain ⟨q, hq⟩ : ∃ q : PG, q = ⟨kindN leaf, (c : Int), v.gen, putN leaf x.E x.K x.D⟩ := ⟨_, rfl⟩
 have hok : okP q = true := by
  have hb := putN_len hr
  rw [hq]
  show (knownK (kindN leaf) && decide ((0 : Int) ≤ (c : Int)) && decide ((c : Int) < 512) && decide ((putN leaf x.E x.K x.D).length ≤ 238)) = true
  rw [kindN_known, dTt (by omega), dTt (by omega), dTt hb]; rfl
 have hpl : (putP q).length = 256 := putP_length q (okP_spec hok).2.2.2
 have hfit : c * 256 + 256 ≤ v.S.A.length := by rw [h.len]; omega
 obtain ⟨w1, w2, w3, w4, w5⟩ := DS.wrs_page h.on c (putP q) hpl hfit
 have hwp : wrPg v.S q = v.S.wrs ((c : Int) * 4) (secs (putP q) 4) := by rw [wrPg, if_pos hok, hq]
 have hVl : v.S.V.length = 51200 := by rw [DS.V_length h.on.1, h.len]
 have hgp := get_put q hok (by rw [hq]; show v.gen < _; rw [h.gen]; decide)
 generalize v.S.wrs ((c : Int) * 4) (secs (putP q) 4) = R at *
 have hrdc : ∀ kd, rdPg R.1 (c : Int) kd = if kindN leaf = kd then (q, 0) else (zeroP, 3) := by
  intro kd
  rw [rdPg_on w2 c (by rw [w4]; exact hfit), w3, pgAt_same _ _ _ (by rw [hVl]; omega) hpl, hgp]
  have e1 : q.a = (c : Int) := by rw [hq]
  have e2 : q.k = kindN leaf := by rw [hq]
  by_cases hk : kindN leaf = kd
  ·rw [if_pos hk, if_pos ⟨rfl, e1, by rw [← hk]; exact e2⟩]
  ·rw [if_neg hk, if_neg (fun z => hk (by rw [← e2]; exact z.2.2))]
 have hwt := h.wt
 have hlen : R.1.A.length = 51200 := by rw [w4, h.len]
 have hVC : VC (c + 1) ⟨R.1, v.gen, ⟨200, uC (c + 1)⟩, v.old⟩ := { on := w2, len := hlen, gen := h.gen, m := rfl, old := h.old, wt := (by have := w5; simp only; omega) }
 refine ⟨⟨R.1, v.gen, ⟨200, uC (c + 1)⟩, v.old⟩, ?_, hVC, ?_, ?_⟩
 ·rw [wrN, if_neg (by rw [hr]; simp), ht, if_neg (by simp), ← hq, hwp]
  simp only [w1]
 ·show rdN R.1 (c : Int) leaf = _
  have hb : q.b = putN leaf x.E x.K x.D := by rw [hq]
  rw [rdN, hrdc, if_pos rfl, if_pos rfl, hb]
  exact getN_put hr hE hK
 ·intro j lf hj hjc
  show rdN R.1 (j : Int) lf = _
  have e : rdPg R.1 (j : Int) (kindN lf) = rdPg v.S (j : Int) (kindN lf) := by
   rw [rdPg_on w2 j (by rw [w4, h.len]; exact fit200 hj), rdPg_on h.on j (by rw [h.len]; exact fit200 hj), w3, pgAt_other _ _ _ _ (by rw [hVl]; omega) hpl hjc]
  rw [rdN, rdN, e]
theorem VC.go {leaf : Bool} : ∀ (xs : List ND3) {c : Nat} {v : VS}, VC c v → 2 ≤ c → c + xs.length ≤ 200 → (∀ x ∈ xs, rightN leaf x.E x.K x.D = true ∧ (∀ e ∈ x.E, entR e) ∧ ∀ k ∈ x.K, keyR k) →
  ∃ v', unGo leaf v xs = (v', (List.range xs.length).map (fun i => ((c + i : Nat) : Int)), 0) ∧ VC (c + xs.length) v' ∧ (∀ i x, xs[i]? = some x → rdN v'.S ((c + i : Nat) : Int) leaf = ⟨leaf, x.E, x.K, x.D, 0⟩) ∧ ∀ (j : Nat) (lf : Bool), j < c → rdN v'.S (j : Int) lf = rdN v.S (j : Int) lf
 | [], c, v, h, h2, hc, hx => ⟨v, rfl, h, fun i x hi => by simp at hi, fun _ _ _ => rfl⟩
 | x :: xs, c, v, h, h2, hc, hx => by
  rw [lCn] at hc
  obtain ⟨r1, r2, r3⟩ := hx x (List.mem_cons_self ..)
  obtain ⟨v1, e1, h1, a1, b1⟩ := h.wr h2 (by omega) r1 r2 r3
  obtain ⟨v', e2, h3, a2, b2⟩ := VC.go xs h1 (by omega) (by omega) (fun y hy => hx y (mCm _ hy))
  refine ⟨v', ?_, by rw [lCn, show c + (xs.length + 1) = c + 1 + xs.length by omega]; exact h3, ?_, ?_⟩
  ·rw [unGo, e1, if_neg (by simp)]
   simp only [e2]
   rw [lCn, List.range_succ_eq_map, List.map_cons, List.map_map]
   simp only [Nat.add_zero]
   congr 3
   refine List.map_congr_left (fun i _ => ?_)
   show ((c + 1 + i : Nat) : Int) = ((c + (i + 1) : Nat) : Int)
   omega
  ·intro i y hy
   cases i with
   | zero =>
    simp at hy
    subst hy
    rw [Nat.add_zero, b2 c leaf (by omega)]
    exact a1
   | succ i =>
    have := a2 i y (by simpa using hy)
    rw [show c + (i + 1) = c + 1 + i by omega]
    exact this
  ·intro j lf hj
   rw [b2 j lf (by omega), b1 j lf (by omega) (by omega)]
theorem inv_perm {k : Nat} {m : BM} {U U' : List Nat} (i : Inv k m U) (h : U.Perm U') : Inv k m U' :=
 ⟨i.len, i.p, fun j => by rw [i.use, h.mem_iff], fun a ha => i.rng a (h.mem_iff.2 ha), h.nodup_iff.1 i.nodup, by rw [← h.length_eq]; exact i.free⟩
theorem inv_alike2 {k : Nat} {m o : BM} {U O : List Nat} (i : Inv k m U) (j : Inv k o O) (h : 8 ≤ k ∧ k ≤ 512) : alikeM m o = true := by
 rw [alikeM, i.right h, j.right h, i.p, j.p]; simp
theorem both_use {k : Nat} {m o : BM} {U O : List Nat} (i : Inv k m U) (j : Inv k o O) (p : Nat) : bothAt m o p = true ↔ (p < 2 ∨ p ∈ U ∨ p ∈ O) := by
 rw [bothAt, Bool.or_eq_true, i.use, j.use]
 constructor
 ·rintro ((h | h) | (h | h))
  ·exact .inl h
  ·exact .inr (.inl h)
  ·exact .inl h
  ·exact .inr (.inr h)
 ·rintro (h | h | h)
  ·exact .inl (.inl h)
  ·exact .inl (.inr h)
  ·exact .inr (.inr h)
def Fre (k : Nat) (U O : List Nat) (n : Nat) : Prop := ∃ l : List Nat, l.length = n ∧ l.Nodup ∧ ∀ i ∈ l, (2 ≤ i ∧ i < k) ∧ i ∉ U ∧ i ∉ O
theorem Fre.le {k : Nat} {U O : List Nat} {n n' : Nat} (h : Fre k U O n) (hn : n' ≤ n) : Fre k U O n' := by
 obtain ⟨l, h1, h2, h3⟩ := h
 exact ⟨l.take n', by rw [lTk]; omega, h2.sublist (List.take_sublist _ _), fun i hi => h3 i (List.mem_of_mem_take hi)⟩
theorem Fre.sub {k : Nat} {U U' O : List Nat} {n : Nat} (h : Fre k U O n) (hs : ∀ i ∈ U', i ∈ U) : Fre k U' O n := by
 obtain ⟨l, h1, h2, h3⟩ := h
 exact ⟨l, h1, h2, fun i hi => ⟨(h3 i hi).1, fun c => (h3 i hi).2.1 (hs i c), (h3 i hi).2.2⟩⟩
theorem Fre.cons {k : Nat} {U O : List Nat} {n t : Nat} (h : Fre k U O (n + 1)) : Fre k (t :: U) O n := by
 obtain ⟨l, h1, h2, h3⟩ := h
 have hl : n ≤ (l.erase t).length := by
  by_cases ht : t ∈ l
  ·rw [List.length_erase_of_mem ht]; omega
  ·rw [List.erase_of_not_mem ht]; omega
 refine (Fre.le (n := (l.erase t).length) ⟨l.erase t, rfl, h2.sublist List.erase_sublist, fun i hi => ?_⟩ hl)
 have hil := (List.Nodup.mem_erase_iff h2).1 hi
 exact ⟨(h3 i hil.2).1, fun c => (List.mem_cons.1 c).elim hil.1 (h3 i hil.2).2.1, (h3 i hil.2).2.2⟩
theorem least_free (P : Nat → Bool) : ∀ n, (∀ p, p < n → P p = true) ∨ ∃ t, t < n ∧ P t = false ∧ ∀ p, p < t → P p = true
 | 0 => .inl (fun p hp => absurd hp (Nat.not_lt_zero p))
 | n + 1 => by
  rcases least_free P n with h | ⟨t, h1, h2, h3⟩
  ·cases hn : P n with
   | true => exact .inl (fun p hp => by
     rcases Nat.lt_succ_iff_lt_or_eq.1 hp with q | q
     ·exact h p q
     ·rw [q]; exact hn)
   | false => exact .inr ⟨n, Nat.lt_succ_self n, hn, h⟩
  ·exact .inr ⟨t, by omega, h2, h3⟩
theorem take_inv {k : Nat} {m o : BM} {U O : List Nat} (i : Inv k m U) (j : Inv k o O) (h : 8 ≤ k ∧ k ≤ 512) :
  (∃ (t : Nat) (m' : BM), takeM m o 1 = (m', (t : Int), 0) ∧ (2 ≤ t ∧ t < k) ∧ t ∉ U ∧ t ∉ O ∧ Inv k m' (t :: U)) ∨ ((takeM m o 1).2.2 = 5 ∧ ¬ Fre k U O 1) := by
 have hp := i.p
 have h1 : (!alikeM m o) = false := by rw [inv_alike2 i j h]; rfl
 rcases least_free (bothAt m o) k with hall | ⟨t, ht, hf, hb⟩
 ·refine .inr ⟨?_, ?_⟩
  ·have hs : seek m o 1 m.p.toNat 0 = none := seek_none _ _ _ _ (fun p hp' => hall p (by omega))
   rw [takeM, h1, hs]; rfl
  ·rintro ⟨l, l1, l2, l3⟩
   cases l with
   | nil => cases l1
   | cons a l =>
    obtain ⟨⟨q1, q2⟩, q3, q4⟩ := l3 a (List.mem_cons_self ..)
    rcases (both_use i j a).1 (hall a q2) with c | c | c
    ·omega
    ·exact q3 c
    ·exact q4 c
 ·have hno : ¬ (t < 2 ∨ t ∈ U ∨ t ∈ O) := fun c => by rw [(both_use i j t).2 c] at hf; cases hf
  have ht2 : 2 ≤ t := by omega
  have hU : t ∉ U := fun c => hno (.inr (.inl c))
  have hO : t ∉ O := fun c => hno (.inr (.inr c))
  have htl : t < m.u.length := by rw [i.len]; omega
  have hs : seek m o 1 m.p.toNat 0 = some t := seek_some _ _ t hf hb _ _ (Nat.zero_le _) (by omega)
  have hft : useAt m.u t = false := by
   cases hu : useAt m.u t
   ·rfl
   ·exact absurd ((i.use t).1 hu) (fun c => c.elim (by omega) hU)
  refine .inl ⟨t, ⟨m.p, m.u.set t true⟩, ?_, ⟨ht2, ht⟩, hU, hO, ?_⟩
  ·rw [takeM, h1, hs]; rfl
  ·refine ⟨by simp [i.len], i.p, fun q => ?_, fun a ha => ?_, List.nodup_cons.2 ⟨hU, i.nodup⟩, ?_⟩
   ·simp only [useAt_set _ _ _ _ htl]
    by_cases e : q = t
    ·subst e; simp
    ·rw [if_neg e, i.use]; simp [e]
   ·rcases List.mem_cons.1 ha with rfl | ha
    ·exact ⟨ht2, ht⟩
    ·exact i.rng a ha
   ·have := freeTo_take m.p m.u t htl (by rw [i.p]; omega) hft 512 (by omega)
    have hfr := i.free
    simp only [lCn]
    show freeTo _ 512 + 2 + _ = k
    have : freeM m = freeTo ⟨m.p, m.u⟩ 512 := rfl
    omega
theorem give_inv {k : Nat} {m : BM} {R : List Nat} {x : Nat} (i : Inv k m (x :: R)) (h : 8 ≤ k ∧ k ≤ 512) : ∃ m', giveM m (x : Int) 1 = (m', 0) ∧ Inv k m' R :=
 ⟨_, (Inv.give (A := []) i h).1, (Inv.give (A := []) i h).2⟩
structure VG (k : Nat) (U O : List Nat) (v : VS) : Prop where
 k8 : 8 ≤ k ∧ k ≤ 512
 on : v.S.on
 len : v.S.A.length = k * 256
 gen : v.gen < 18446744073709551616
 m : Inv k v.m U
 o : Inv k v.old O
 w : ∀ x ∈ v.S.W, 2 ≤ x.1 / 4 ∧ x.1 / 4 ∉ O
theorem VG.ok {k : Nat} {U O : List Nat} {v : VS} (h : VG k U O v) : v.ok := ⟨h.on.1, h.gen, h.m.len, h.o.len⟩
theorem VG.perm {k : Nat} {U U' O : List Nat} {v : VS} (h : VG k U O v) (p : U.Perm U') : VG k U' O v := ⟨h.k8, h.on, h.len, h.gen, inv_perm h.m p, h.o, h.w⟩
theorem VG.give {k : Nat} {R O : List Nat} {v : VS} {x : Nat} (h : VG k (x :: R) O v) : ∃ v', giN v (x : Int) = (v', 0) ∧ v'.S = v.S ∧ VG k R O v' := by
 obtain ⟨m', h1, h2⟩ := give_inv h.m h.k8
 refine ⟨⟨v.S, v.gen, m', v.old⟩, ?_, rfl, ⟨h.k8, h.on, h.len, h.gen, h2, h.o, h.w⟩⟩
 rw [giN, h1, if_pos rfl]
theorem fitk {j k : Nat} (h : j < k) : j * 256 + 256 ≤ k * 256 := by
 have := Nat.mul_le_mul_right 256 (show j + 1 ≤ k from h)
 rw [Nat.add_mul] at this
 exact this
theorem wrs_W : ∀ (bs : List (List UInt8)) (S : DS) (i : Nat), ∀ x ∈ (S.wrs (i : Int) bs).1.W, x ∈ S.W ∨ (i ≤ x.1 ∧ x.1 < i + bs.length)
 | [], S, i, x, hx => .inl hx
 | b :: bs, S, i, x, hx => by
  have hw : ∀ y ∈ (S.wr (i : Int) b).1.W, y ∈ S.W ∨ y.1 = i := by
   intro y hy
   unfold DS.wr at hy
   split at hy
   ·exact .inl hy
   ·split at hy
    ·exact .inl hy
    ·split at hy
     ·exact .inl hy
     ·rcases List.mem_append.1 hy with c | c
      ·exact .inl c
      ·rw [List.mem_singleton.1 c]
       exact .inr (by simp)
  have he : S.wrs (i : Int) (b :: bs) = if (S.wr (i : Int) b).2 = 0 then (S.wr (i : Int) b).1.wrs ((i : Int) + 1) bs else S.wr (i : Int) b := rfl
  rw [he] at hx
  rw [lCn]
  split at hx
  ·have e1 : ((i : Int) + 1) = ((i + 1 : Nat) : Int) := by omega
   rw [e1] at hx
   rcases wrs_W bs _ (i + 1) x hx with c | c
   ·rcases hw x c with c | c
    ·exact .inl c
    ·exact .inr (by omega)
   ·exact .inr (by omega)
  ·rcases hw x hx with c | c
   ·exact .inl c
   ·exact .inr (by omega)
theorem VG.wr {k : Nat} {U O : List Nat} {v : VS} {leaf : Bool} {x : ND3} (h : VG k U O v) (hr : rightN leaf x.E x.K x.D = true) (hE : ∀ e ∈ x.E, entR e) (hK : ∀ k ∈ x.K, keyR k) :
  (∃ (t : Nat) (v' : VS), wrN v leaf x = (v', (t : Int), 0) ∧ VG k (t :: U) O v' ∧ (2 ≤ t ∧ t < k) ∧ t ∉ U ∧ t ∉ O ∧ rdN v'.S (t : Int) leaf = ⟨leaf, x.E, x.K, x.D, 0⟩ ∧ v'.S.W.length ≤ v.S.W.length + 4 ∧ ∀ (j : Nat), j < k → j ≠ t → pgAt v'.S.V j = pgAt v.S.V j ∧ ∀ lf, rdN v'.S (j : Int) lf = rdN v.S (j : Int) lf)
  ∨ ((wrN v leaf x).2.2 = 5 ∧ (wrN v leaf x).1.S = v.S ∧ ¬ Fre k U O 1) := by
 rcases take_inv h.m h.o h.k8 with ⟨t, m', ht, ht2, hU, hO, hi⟩ | ⟨h5, hn⟩
 ·refine .inl ⟨t, ?_⟩
  obtain ⟨q, hq⟩ : ∃ q : PG, q = ⟨kindN leaf, (t : Int), v.gen, putN leaf x.E x.K x.D⟩ := ⟨_, rfl⟩
  have hk := h.k8
  have hok : okP q = true := by
   have hb := putN_len hr
   rw [hq]
   show (knownK (kindN leaf) && decide ((0 : Int) ≤ (t : Int)) && decide ((t : Int) < 512) && decide ((putN leaf x.E x.K x.D).length ≤ 238)) = true
   rw [kindN_known, dTt (by omega), dTt (by omega), dTt hb]; rfl
  have hpl : (putP q).length = 256 := putP_length q (okP_spec hok).2.2.2
  have hfit : t * 256 + 256 ≤ v.S.A.length := by rw [h.len]; exact fitk ht2.2
  obtain ⟨w1, w2, w3, w4, w5⟩ := DS.wrs_page h.on t (putP q) hpl hfit
  have hwp : wrPg v.S q = v.S.wrs ((t : Int) * 4) (secs (putP q) 4) := by rw [wrPg, if_pos hok, hq]
  have hVl : v.S.V.length = k * 256 := by rw [DS.V_length h.on.1, h.len]
  have hgp := get_put q hok (by rw [hq]; show v.gen < _; exact h.gen)
  have hww : ∀ x ∈ (v.S.wrs ((t : Int) * 4) (secs (putP q) 4)).1.W, 2 ≤ x.1 / 4 ∧ x.1 / 4 ∉ O := by
   intro x hx
   have e4 : (t : Int) * 4 = ((t * 4 : Nat) : Int) := by omega
   rw [e4] at hx
   rcases wrs_W (secs (putP q) 4) v.S (t * 4) x hx with c | ⟨c1, c2⟩
   ·exact h.w x c
   ·rw [secs_length] at c2
    have e5 : x.1 / 4 = t := by omega
    rw [e5]; exact ⟨ht2.1, hO⟩
  generalize v.S.wrs ((t : Int) * 4) (secs (putP q) 4) = R at *
  have hrdc : ∀ kd, rdPg R.1 (t : Int) kd = if kindN leaf = kd then (q, 0) else (zeroP, 3) := by
   intro kd
   rw [rdPg_on w2 t (by rw [w4]; exact hfit), w3, pgAt_same _ _ _ (by rw [hVl]; exact fitk ht2.2) hpl, hgp]
   have e1 : q.a = (t : Int) := by rw [hq]
   have e2 : q.k = kindN leaf := by rw [hq]
   by_cases hk : kindN leaf = kd
   ·rw [if_pos hk, if_pos ⟨rfl, e1, by rw [← hk]; exact e2⟩]
   ·rw [if_neg hk, if_neg (fun z => hk (by rw [← e2]; exact z.2.2))]
  have hlen : R.1.A.length = k * 256 := by rw [w4, h.len]
  refine ⟨⟨R.1, v.gen, m', v.old⟩, ?_, ⟨hk, w2, hlen, h.gen, hi, h.o, hww⟩, ht2, hU, hO, ?_, ?_, ?_⟩
  ·rw [wrN, if_neg (by rw [hr]; simp), ht, if_neg (by simp), ← hq, hwp]
   simp only [w1]
  ·show rdN R.1 (t : Int) leaf = _
   have hb : q.b = putN leaf x.E x.K x.D := by rw [hq]
   rw [rdN, hrdc, if_pos rfl, if_pos rfl, hb]
   exact getN_put hr hE hK
  ·show R.1.W.length ≤ _
   have := w5; omega
  ·intro j hj hjc
   have ep : pgAt R.1.V j = pgAt v.S.V j := by rw [w3, pgAt_other _ _ _ _ (by rw [hVl]; exact fitk ht2.2) hpl hjc]
   refine ⟨ep, fun lf => ?_⟩
   show rdN R.1 (j : Int) lf = _
   have e : rdPg R.1 (j : Int) (kindN lf) = rdPg v.S (j : Int) (kindN lf) := by
    rw [rdPg_on w2 j (by rw [hlen]; exact fitk hj), rdPg_on h.on j (by rw [h.len]; exact fitk hj), ep]
   rw [rdN, rdN, e]
 ·refine .inr ?_
  have e : wrN v leaf x = (v, 0, 5) := by rw [wrN, if_neg (by rw [hr]; simp), if_pos (by rw [h5]; decide), h5]
  rw [e]
  exact ⟨rfl, rfl, hn⟩
def runF (m o : BM) (t n : Nat) : Prop := ∀ i, t ≤ i → i < t + n → bothAt m o i = false
theorem runTo_free (m o : BM) : ∀ j, runF m o (j - runTo m o j) (runTo m o j)
 | 0 => fun i h1 h2 => by
  have : runTo m o 0 = 0 := rfl
  rw [this] at h2; omega
 | j + 1 => fun i h1 h2 => by
  have ih := runTo_free m o j
  have hle := runTo_le m o j
  rw [runTo] at h1 h2
  cases hb : bothAt m o j with
  | true => rw [hb, if_pos rfl] at h1 h2; omega
  | false =>
   rw [hb, if_neg (by simp)] at h1 h2
   by_cases e : i = j
   ·rw [e]; exact hb
   ·exact ih i (by omega) (by omega)
theorem seek_some2 (m o : BM) (n : Nat) (hn : 1 ≤ n) : ∀ f i t, seek m o (n : Int) f i = some t → t + n ≤ i + f ∧ runF m o t n
 | 0, i, t, h => by cases h
 | f + 1, i, t, h => by
  rw [seek] at h
  split at h
  ·rename_i hr
   have hr' : runTo m o (i + 1) = n := by omega
   have hle := runTo_le m o (i + 1)
   have hfr := runTo_free m o (i + 1)
   rw [hr'] at hfr hle
   have ht : i + 1 - n = t := by
    have := Option.some.inj h
    simpa using this
   rw [ht] at hfr
   exact ⟨by omega, hfr⟩
  ·obtain ⟨h1, h2⟩ := seek_some2 m o n hn f (i + 1) t h
   exact ⟨by omega, h2⟩
theorem seek_none2 (m o : BM) (n : Nat) : ∀ f i, seek m o (n : Int) f i = none → ∀ j, i < j → j ≤ i + f → runTo m o j ≠ n
 | 0, i, h, j, h1, h2 => by omega
 | f + 1, i, h, j, h1, h2 => by
  rw [seek] at h
  split at h
  ·cases h
  ·rename_i hr
   by_cases e : j = i + 1
   ·rw [e]; intro c; exact hr (by rw [c])
   ·exact seek_none2 m o n f (i + 1) h j (by omega) (by omega)
theorem runTo_less (m o : BM) (n N : Nat) (hn : 1 ≤ n) (h : ∀ j, 0 < j → j ≤ N → runTo m o j ≠ n) : ∀ j, j ≤ N → runTo m o j < n
 | 0, _ => hn
 | j + 1, hj => by
  have ih := runTo_less m o n N hn h j (by omega)
  have hne := h (j + 1) (by omega) hj
  rw [runTo] at hne ⊢
  split
  ·omega
  ·rename_i hb
   rw [if_neg hb] at hne
   omega
theorem runTo_ge (m o : BM) (t : Nat) : ∀ n, runF m o t n → n ≤ runTo m o (t + n)
 | 0, _ => Nat.zero_le _
 | n + 1, h => by
  have ih := runTo_ge m o t n (fun i h1 h2 => h i h1 (by omega))
  show n + 1 ≤ runTo m o (t + n + 1)
  rw [runTo, h (t + n) (by omega) (by omega), if_neg (by simp)]
  omega
theorem inv_set {k : Nat} {m : BM} {U : List Nat} {t : Nat} (i : Inv k m U) (h : 8 ≤ k ∧ k ≤ 512) (ht : 2 ≤ t ∧ t < k) (hU : t ∉ U) : Inv k ⟨m.p, m.u.set t true⟩ (t :: U) := by
 have hp := i.p
 have htl : t < m.u.length := by rw [i.len]; omega
 have hft : useAt m.u t = false := by
  cases hu : useAt m.u t
  ·rfl
  ·exact absurd ((i.use t).1 hu) (fun c => c.elim (by omega) hU)
 refine ⟨by simp [i.len], i.p, fun q => ?_, fun a ha => ?_, List.nodup_cons.2 ⟨hU, i.nodup⟩, ?_⟩
 ·simp only [useAt_set _ _ _ _ htl]
  by_cases e : q = t
  ·subst e; simp
  ·rw [if_neg e, i.use]; simp [e]
 ·rcases List.mem_cons.1 ha with rfl | ha
  ·exact ht
  ·exact i.rng a ha
 ·have := freeTo_take m.p m.u t htl (by rw [i.p]; omega) hft 512 (by omega)
  have hfr := i.free
  simp only [lCn]
  show freeTo _ 512 + 2 + _ = k
  have : freeM m = freeTo ⟨m.p, m.u⟩ 512 := rfl
  omega
def runL (t n : Nat) : List Nat := List.range' t n
theorem runL_mem {t n i : Nat} : i ∈ runL t n ↔ t ≤ i ∧ i < t + n := by
 rw [runL, List.mem_range'_1]
theorem inv_run {k : Nat} {m : BM} {U : List Nat} {t : Nat} (i : Inv k m U) (h : 8 ≤ k ∧ k ≤ 512) : ∀ n, (∀ p, t ≤ p → p < t + n → (2 ≤ p ∧ p < k) ∧ p ∉ U) → Inv k ⟨m.p, setFrom m.u true t n⟩ (runL t n ++ U)
 | 0, _ => i
 | n + 1, hf => by
  have ih := inv_run i h n (fun p h1 h2 => hf p h1 (by omega))
  obtain ⟨h1, h2⟩ := hf (t + n) (by omega) (by omega)
  have hs := inv_set ih h h1 (fun c => by
   rcases List.mem_append.1 c with c | c
   ·have := runL_mem.1 c; omega
   ·exact h2 c)
  refine inv_perm hs ?_
  have e : runL t (n + 1) = runL t n ++ [t + n] := by rw [runL, List.range'_concat]; simp [runL]
  rw [e, aAs]
  exact List.perm_middle.symm
theorem take_run {k : Nat} {m o : BM} {U O : List Nat} {n : Nat} (i : Inv k m U) (j : Inv k o O) (h : 8 ≤ k ∧ k ≤ 512) (hn : 1 ≤ n) :
  (∃ (t : Nat) (m' : BM), takeM m o (n : Int) = (m', (t : Int), 0) ∧ (2 ≤ t ∧ t + n ≤ k) ∧ (∀ p ∈ runL t n, p ∉ U ∧ p ∉ O) ∧ Inv k m' (runL t n ++ U)) ∨ ((takeM m o (n : Int)).2.2 = 5 ∧ ∀ t, t + n ≤ k → ¬ runF m o t n) := by
 have hp := i.p
 have h1 : (!alikeM m o) = false := by rw [inv_alike2 i j h]; rfl
 have hpk : m.p.toNat = k := by omega
 have hd : decide ((n : Int) < 1) = false := dFf (by omega)
 cases hs : seek m o (n : Int) m.p.toNat 0 with
 | none =>
  refine .inr ⟨by rw [takeM, h1, hd, hs]; rfl, fun t ht hr => ?_⟩
  have hno := seek_none2 m o n _ _ hs
  rw [hpk] at hno
  have hl := runTo_less m o n k hn (fun j h1 h2 => hno j h1 (by omega)) (t + n) ht
  have hg := runTo_ge m o t n hr
  omega
 | some t =>
  obtain ⟨s1, s2⟩ := seek_some2 m o n hn _ _ t hs
  rw [hpk] at s1
  have hfree : ∀ p, t ≤ p → p < t + n → (2 ≤ p ∧ p < k) ∧ p ∉ U ∧ p ∉ O := fun p h1 h2 => by
   have hb := s2 p h1 h2
   have hno : ¬ (p < 2 ∨ p ∈ U ∨ p ∈ O) := fun c => by rw [(both_use i j p).2 c] at hb; cases hb
   exact ⟨⟨by omega, by omega⟩, fun c => hno (.inr (.inl c)), fun c => hno (.inr (.inr c))⟩
  have h2t := (hfree t (Nat.le_refl _) (by omega)).1.1
  refine .inl ⟨t, ⟨m.p, setFrom m.u true t n⟩, ?_, ⟨h2t, by omega⟩, fun p hp' => ?_, inv_run i h n (fun p h1 h2 => ⟨(hfree p h1 h2).1, (hfree p h1 h2).2.1⟩)⟩
  ·rw [takeM, h1, hd, hs]; rfl
  ·obtain ⟨q1, q2⟩ := runL_mem.1 hp'
   exact (hfree p q1 q2).2
def gVL {α : Type} (n : α → Nat) (C : α → Nat) (V : α → Nat → Nat) : List α → Nat → Nat
 | [], _ => 0
 | x :: xs, k => if k < n x then V x k else C x + gVL n C V xs (k - n x)
theorem wkVL_g {E : Int → List ENT} {C : Int → Nat} {V : Int → Nat → Nat} : ∀ (D : List Int) (k : Nat), wkVL E C V D k = gVL (fun d => (E d).length) C V D k
 | [], _ => rfl
 | d :: D, k => by rw [wkVL, gVL, wkVL_g D]
theorem gVL_zip {α β : Type} {n : α → Nat} {C : α → Nat} {V : α → Nat → Nat} {n' : β → Nat} {C' : β → Nat} {V' : β → Nat → Nat} : ∀ (xs : List α) (ys : List β) (k : Nat), xs.length = ys.length →
  (∀ (i : Nat) (x : α) (y : β), xs[i]? = some x → ys[i]? = some y → n x = n' y ∧ C x = C' y ∧ ∀ k, V x k = V' y k) → gVL n C V xs k = gVL n' C' V' ys k
 | [], [], _, _, _ => rfl
 | [], _ :: _, _, h, _ => by simp at h
 | _ :: _, [], _, h, _ => by simp at h
 | x :: xs, y :: ys, k, h, hp => by
  obtain ⟨h1, h2, h3⟩ := hp 0 x y rfl rfl
  rw [gVL, gVL, h1, h2, h3, gVL_zip xs ys (k - n' y) (by simpa using h) (fun i x y hx hy => hp (i + 1) x y (by simpa using hx) (by simpa using hy))]
theorem gVL_app {α : Type} {n : α → Nat} {C : α → Nat} {V : α → Nat → Nat} : ∀ (xs ys : List α) (k : Nat), gVL n C V (xs ++ ys) k = if k < (xs.map n).sum then gVL n C V xs k else (xs.map C).sum + gVL n C V ys (k - (xs.map n).sum)
 | [], ys, k => by simp [gVL]
 | x :: xs, ys, k => by
  rw [cAp, gVL, gVL, gVL_app xs ys (k - n x), List.map_cons, List.sum_cons, List.map_cons, List.sum_cons]
  by_cases h1 : k < n x
  ·rw [if_pos h1, if_pos h1, if_pos (by omega)]
  ·rw [if_neg h1, if_neg h1]
   by_cases h2 : k - n x < (xs.map n).sum
   ·rw [if_pos h2, if_pos (by omega)]
   ·rw [if_neg h2, if_neg (by omega), show k - n x - (xs.map n).sum = k - (n x + (xs.map n).sum) by omega]; omega
def gIdx {α : Type} (n : α → Nat) : List (List α) → Nat → Nat
 | [], _ => 0
 | g :: gs, k => if k < (g.map n).sum then 0 else 1 + gIdx n gs (k - (g.map n).sum)
theorem gVL_groups {α : Type} {n : α → Nat} {C : α → Nat} {V : α → Nat → Nat} : ∀ (gs : List (List α)) (k : Nat), k < (gs.flatten.map n).sum →
  gVL (fun g : List α => (g.map n).sum) (fun g => 1 + (g.map C).sum) (fun g k => 1 + gVL n C V g k) gs k = gVL n C V gs.flatten k + (gIdx n gs k + 1)
 | [], k, h => by simp at h
 | g :: gs, k, h => by
  rw [List.flatten_cons, List.map_append, List.sum_append] at h
  rw [gVL, List.flatten_cons, gVL_app, gIdx]
  by_cases h1 : k < (g.map n).sum
  ·rw [if_pos h1, if_pos h1, if_pos h1]; omega
  ·rw [if_neg h1, if_neg h1, if_neg h1, gVL_groups gs _ (by omega)]; omega
theorem gIdx_div {α : Type} {n : α → Nat} {M m : Nat} (hM : 0 < M) : ∀ (gs : List (List α)) (off K : Nat), (∀ (J : Nat) (g : List α), gs[J]? = some g → (g.map n).sum = min M (m - (off + J) * M)) → off * M ≤ K → K < m → m ≤ (off + gs.length) * M → gIdx n gs (K - off * M) = K / M - off
 | [], off, K, _, h1, h2, h3 => by
  rw [List.length_nil, Nat.add_zero] at h3; omega
 | g :: gs, off, K, hg, h1, h2, h3 => by
  have h0 := hg 0 g rfl
  rw [Nat.add_zero] at h0
  have e1 : (off + 1) * M = off * M + M := by rw [Nat.add_mul, Nat.one_mul]
  rw [gIdx, h0]
  by_cases hk : K - off * M < min M (m - off * M)
  ·rw [if_pos hk]
   have hlt : K < (off + 1) * M := by omega
   have hd : K / M = off := by
    refine Nat.div_eq_of_lt_le ?_ ?_
    ·exact h1
    ·exact hlt
   rw [hd, Nat.sub_self]
  ·rw [if_neg hk]
   have hge : (off + 1) * M ≤ K := by omega
   have hmin : min M (m - off * M) = M := by omega
   rw [hmin, show K - off * M - M = K - (off + 1) * M by omega, gIdx_div hM gs (off + 1) K (fun J g' hJ => by rw [hg (J + 1) g' (by simpa using hJ), show off + (J + 1) = off + 1 + J by omega]) hge h2 (by rw [lCn, show off + (gs.length + 1) = off + 1 + gs.length by omega] at h3; exact h3)]
   have : off + 1 ≤ K / M := (Nat.le_div_iff_mul_le hM).2 hge
   omega
theorem flat_congr {α β : Type} {f g : α → List β} : ∀ {D : List α}, (∀ d ∈ D, f d = g d) → D.flatMap f = D.flatMap g
 | [], _ => rfl
 | d :: D, h => by rw [List.flatMap_cons, List.flatMap_cons, h d (List.mem_cons_self ..), flat_congr (fun x hx => h x (mCm _ hx))]
def wkGc (S : DS) (c : Nat) : Nat → Int → Prop
 | 0, _ => False
 | h + 1, a => (∃ j : Nat, j < c ∧ a = (j : Int)) ∧ (rdN S a (decide (h = 0))).e = 0 ∧ (rdN S a (decide (h = 0))).E.length ≤ 1000 ∧ (rdN S a (decide (h = 0))).D.length ≤ 1000 ∧ ∀ k ∈ (rdN S a (decide (h = 0))).D, wkGc S c h k
theorem wkGc_G {S : DS} {c : Nat} (hc : c ≤ 1000) : ∀ (h : Nat) (a : Int), wkGc S c h a → wkG S h a
 | 0, _, hg => hg.elim
 | h + 1, a, ⟨⟨j, h1, h2⟩, h3, h4, h5, h6⟩ => ⟨by omega, h3, h4, h5, fun k hk => wkGc_G hc h k (h6 k hk)⟩
def agree (S S' : DS) (c : Nat) : Prop := ∀ (j : Nat) (lf : Bool), j < c → rdN S' (j : Int) lf = rdN S (j : Int) lf
theorem wkGc_same {S S' : DS} {c c' : Nat} (hag : agree S S' c) (hc : c ≤ c') : ∀ (h : Nat) (a : Int), wkGc S c h a → wkGc S' c' h a ∧ wkE S' h a = wkE S h a ∧ wkC S' h a = wkC S h a ∧ ∀ k, wkV S' h a k = wkV S h a k
 | 0, _, hg => hg.elim
 | h + 1, a, ⟨⟨j, h1, h2⟩, h3, h4, h5, h6⟩ => by
  have e : rdN S' a (decide (h = 0)) = rdN S a (decide (h = 0)) := by rw [h2]; exact hag j _ h1
  have ih := fun k hk => wkGc_same hag hc h k (h6 k hk)
  refine ⟨⟨⟨j, by omega, h2⟩, by rw [e]; exact h3, by rw [e]; exact h4, by rw [e]; exact h5, fun k hk => ?_⟩, ?_, ?_, fun k => ?_⟩
  ·rw [e] at hk; exact (ih k hk).1
  ·rw [wkE, wkE, e, flat_congr (fun k hk => (ih k hk).2.1)]
  ·rw [wkC, wkC, e, List.map_congr_left (fun k hk => (ih k hk).2.2.1)]
  ·rw [wkV, wkV, e, wkVL_g, wkVL_g]
   congr 2
   refine gVL_zip _ _ _ rfl (fun i x y hx hy => ?_)
   rw [hx] at hy
   cases hy
   have := ih x (List.mem_of_getElem? hx)
   exact ⟨by rw [this.2.1], this.2.2.1, this.2.2.2⟩
def entX (S : DS) (h : Nat) (x : ND3) : List ENT := x.E ++ x.D.flatMap (wkE S h)
def nX (S : DS) (h : Nat) (x : ND3) : Nat := (entX S h x).length
def cX (S : DS) (h : Nat) (x : ND3) : Nat := 1 + (x.D.map (wkC S h)).sum
def vX (S : DS) (h : Nat) (x : ND3) (k : Nat) : Nat := 1 + if k < x.E.length then 0 else wkVL (wkE S h) (wkC S h) (wkV S h) x.D (k - x.E.length)
def capN (h : Nat) : Nat := 7 * 16 ^ h
theorem capN_pos (h : Nat) : 0 < capN h := Nat.mul_pos (by decide) (Nat.pow_pos (by decide))
theorem capN_succ (h : Nat) : capN (h + 1) = capN h * 16 := by rw [capN, capN, Nat.pow_succ, Nat.mul_assoc]
def visF : Nat → Nat → Nat
 | 0, k => k / 7 + 1
 | h + 1, k => visF h k + (k / capN (h + 1) + 1)
def rise (l : List ENT) : Prop := ∀ i j, i < j → j < l.length → lessK (l.getD i ent0).key (l.getD j ent0).key = true
theorem lessK_trans {a b c : KEY} (h1 : lessK a b = true) (h2 : lessK b c = true) : lessK a c = true := by
 have d : ∀ {a b : KEY}, lessK a b = true → a.1 < b.1 ∨ (a.1 = b.1 ∧ a.2 < b.2) := by
  intro a b h
  simpa [lessK] using h
 refine less_of ?_
 rcases d h1 with h | ⟨h, h'⟩ <;> rcases d h2 with g | ⟨g, g'⟩
 ·exact .inl (by omega)
 ·exact .inl (by omega)
 ·exact .inl (by omega)
 ·exact .inr ⟨by omega, by omega⟩
theorem rise_of {l : List ENT} (h : loadOk l) : rise l := by
 intro i j hij
 induction j with
 | zero => omega
 | succ j ih =>
  intro hj
  have h1 := (h.2.1 (j + 1) (by omega) hj).1
  rw [Nat.add_sub_cancel] at h1
  by_cases e : i = j
  ·rw [e]; exact h1
  ·exact lessK_trans (ih (by omega) (by omega)) h1
structure Lev (l : List ENT) (h c : Nat) (v : VS) (xs : List ND3) : Prop where
 vc : VC c v
 c2 : 2 ≤ c
 n1 : 1 ≤ xs.length
 cnt : xs.length = (l.length + capN h - 1) / capN h
 ok : ∀ x ∈ xs, rightN (decide (h = 0)) x.E x.K x.D = true ∧ (∀ e ∈ x.E, entR e) ∧ (∀ k ∈ x.K, keyR k) ∧ ∀ d ∈ x.D, wkGc v.S c h d
 sz : ∀ (i : Nat) (x : ND3), xs[i]? = some x → nX v.S h x = min (capN h) (l.length - i * capN h) ∧ least3 (decide (h = 0)) x = (l.getD (i * capN h) ent0).key
 ents : xs.flatMap (entX v.S h) = l
 vis : ∀ k, k < l.length → gVL (nX v.S h) (cX v.S h) (vX v.S h) xs k = visF h k
 tot : (xs.map (cX v.S h)).sum = visF h (l.length - 1)
theorem right_len {leaf : Bool} {x : ND3} (hr : rightN leaf x.E x.K x.D = true) : x.E.length ≤ 1000 ∧ x.D.length ≤ 1000 := by
 cases leaf
 ·rw [rightN, if_neg (by simp), Bool.and_eq_true, decide_eq_true_eq] at hr
  have := innerB_spec hr.2
  omega
 ·rw [rightN, if_pos rfl, Bool.and_eq_true, Bool.and_eq_true, decide_eq_true_eq, decide_eq_true_eq] at hr
  have := leaf_spec hr.2.2
  omega
theorem keysTo_of {ks : List KEY} : ∀ n, (∀ i, i < n → keyAt ks i = true) → keysTo ks n = true
 | 0, _ => rfl
 | n + 1, h => by rw [keysTo, keysTo_of n (fun i hi => h i (by omega)), h n (by omega)]; rfl
theorem kidsTo_of {ks : List Int} : ∀ n, (∀ i, i < n → kidAt ks i = true) → kidsTo ks n = true
 | 0, _ => rfl
 | n + 1, h => by rw [kidsTo, kidsTo_of n (fun i hi => h i (by omega)), h n (by omega)]; rfl
theorem cutL_get {α : Type} (l : List α) (lo hi i : Nat) (h : lo + i < hi) : (cutL l lo hi)[i]? = l[lo + i]? := by
 rw [cutL, List.getElem?_take, if_pos (by omega), List.getElem?_drop]
theorem chunks_flat {α : Type} (D : List α) : ∀ (q : Nat), q ≤ (D.length + 15) / 16 → ((List.range q).map fun j => cutL D (j * 16) (min (j * 16 + 16) D.length)).flatten = D.take (min (q * 16) D.length)
 | 0, _ => by simp
 | q + 1, h => by
  rw [List.range_succ, List.map_append, List.flatten_append, chunks_flat D q (by omega)]
  simp only [List.map_cons, List.map_nil, List.flatten_cons, List.flatten_nil, List.append_nil]
  have h1 : min (q * 16) D.length = q * 16 := by omega
  have h2 : min ((q + 1) * 16) D.length = min (q * 16 + 16) D.length := by omega
  rw [h1, h2, cutL]
  have h3 : q * 16 ≤ min (q * 16 + 16) D.length := by omega
  generalize min (q * 16 + 16) D.length = b at *
  have : D.take b = D.take (q * 16) ++ (D.drop (q * 16)).take (b - q * 16) := by
   rw [← List.take_append_drop (q * 16) (D.take b), List.take_take, Nat.min_eq_left h3, List.drop_take]
  rw [this]
theorem sum_flat {α β : Type} {f : α → List β} : ∀ D : List α, (D.flatMap f).length = (D.map fun d => (f d).length).sum
 | [] => rfl
 | d :: D => by rw [List.flatMap_cons, lAp, sum_flat D, List.map_cons, List.sum_cons]
theorem ceil_ceil (m N : Nat) (hN : 0 < N) : ((m + N - 1) / N + 15) / 16 = (m + N * 16 - 1) / (N * 16) := by
 have e : m + N * 16 - 1 = (m + N - 1) + N * 15 := by omega
 rw [← Nat.div_div_eq_div_mul, e, Nat.add_mul_div_left _ _ hN]
theorem pre_len {f : Int → List ENT} {D : List Int} {N m : Nat} (hs : ∀ (i : Nat) (d : Int), D[i]? = some d → (f d).length = min N (m - i * N)) : ∀ i, i ≤ D.length → ((D.take i).flatMap f).length = min (i * N) m
 | 0, _ => by simp
 | i + 1, hi => by
  obtain ⟨d, hd⟩ : ∃ d, D[i]? = some d := ⟨_, gEe (by omega)⟩
  rw [wk_take hd, pre_len hs i (by omega), hs i d hd, Nat.add_mul, Nat.one_mul]
  generalize i * N = A
  omega
def headK (S : DS) (h : Nat) (d : Int) : KEY := ((wkE S h d).headD ent0).key
def pgN (S : DS) : Nat → Int → List Nat
 | 0, _ => []
 | h + 1, a => a.toNat :: (rdN S a (decide (h = 0))).D.flatMap (pgN S h)
def ndG (g : GOT) : ND3 := ⟨g.E, g.K, g.D⟩
def tkG (S : DS) (k : Nat) (mu : Nat → Nat) : Nat → Nat → Int → Prop
 | 0, _, _ => False
 | h + 1, m, a => (∃ p : Nat, a = (p : Int) ∧ 2 ≤ p ∧ p < k) ∧ (rdN S a (decide (h = 0))).e = 0 ∧ (rdN S a (decide (h = 0))).leaf = decide (h = 0) ∧
  okN (decide (h = 0)) (ndG (rdN S a (decide (h = 0)))) ∧ (1 ≤ szN (decide (h = 0)) (ndG (rdN S a (decide (h = 0)))) ∧ m ≤ szN (decide (h = 0)) (ndG (rdN S a (decide (h = 0)))) ∧ szN (decide (h = 0)) (ndG (rdN S a (decide (h = 0)))) ≤ mostN (decide (h = 0))) ∧
  (∀ d ∈ (rdN S a (decide (h = 0))).D, tkG S k mu h (mu h) d) ∧ (rdN S a (decide (h = 0))).K = (rdN S a (decide (h = 0))).D.map (headK S h)
def okX (S : DS) (k : Nat) (mu : Nat → Nat) (h : Nat) (y : ND3) : Prop :=
 okN (decide (h = 0)) y ∧ 1 ≤ szN (decide (h = 0)) y ∧ (∀ d ∈ y.D, tkG S k mu h (mu h) d) ∧ y.K = y.D.map (headK S h)
def pagX (S : DS) (h : Nat) (y : ND3) : List Nat := y.D.flatMap (pgN S h)
theorem tkG_okX {S : DS} {k : Nat} {mu : Nat → Nat} {h m : Nat} {a : Int} (g : tkG S k mu (h + 1) m a) : okX S k mu h (ndG (rdN S a (decide (h = 0)))) := ⟨g.2.2.2.1, g.2.2.2.2.1.1, g.2.2.2.2.2.1, g.2.2.2.2.2.2⟩
theorem wkE_succ (S : DS) (h : Nat) (a : Int) : wkE S (h + 1) a = entX S h (ndG (rdN S a (decide (h = 0)))) := rfl
theorem pgN_succ (S : DS) (h : Nat) (a : Int) : pgN S (h + 1) a = a.toNat :: pagX S h (ndG (rdN S a (decide (h = 0)))) := rfl
def same (S S' : DS) (P : List Nat) : Prop := ∀ p, (p ∈ P ∨ p < 2) → pgAt S'.V p = pgAt S.V p ∧ ∀ lf, rdN S' (p : Int) lf = rdN S (p : Int) lf
theorem same.rfl {S : DS} {P : List Nat} : same S S P := fun _ _ => ⟨Eq.refl _, fun _ => Eq.refl _⟩
theorem same.sub {S S' : DS} {P Q : List Nat} (h : same S S' P) (hs : ∀ p ∈ Q, p ∈ P) : same S S' Q := fun p hp => h p (hp.imp (hs p) id)
theorem same.trans {S S' S'' : DS} {P : List Nat} (h : same S S' P) (h' : same S' S'' P) : same S S'' P := fun p hp => ⟨by rw [(h' p hp).1, (h p hp).1], fun lf => by rw [(h' p hp).2 lf, (h p hp).2 lf]⟩
theorem same.rd {S S' : DS} {P : List Nat} (h : same S S' P) {p : Nat} (hp : p ∈ P) (lf : Bool) : rdN S' (p : Int) lf = rdN S (p : Int) lf := (h p (.inl hp)).2 lf
theorem tk_same {S S' : DS} {k : Nat} {mu : Nat → Nat} : ∀ (h m : Nat) (a : Int), tkG S k mu h m a → same S S' (pgN S h a) → tkG S' k mu h m a ∧ wkE S' h a = wkE S h a ∧ pgN S' h a = pgN S h a
 | 0, _, _, g, _ => g.elim
 | h + 1, m, a, g, sm => by
  obtain ⟨⟨p, hp, hp2⟩, g1, g2, g3, g4, g5, g6⟩ := g
  have hr : rdN S' a (decide (h = 0)) = rdN S a (decide (h = 0)) := by
   have := sm.rd (p := p) (by rw [pgN, hp]; exact List.mem_cons_self ..) (decide (h = 0))
   rw [hp]; exact this
  have ih := fun d (hd : d ∈ (rdN S a (decide (h = 0))).D) => tk_same h (mu h) d (g5 d hd) (sm.sub (fun q hq => by
   rw [pgN]
   exact mCm _ (List.mem_flatMap.2 ⟨d, hd, hq⟩)))
  refine ⟨⟨⟨p, hp, hp2⟩, by rw [hr]; exact g1, by rw [hr]; exact g2, by rw [hr]; exact g3, by rw [hr]; exact g4, fun d hd => by rw [hr] at hd; exact (ih d hd).1, ?_⟩, ?_, ?_⟩
  ·rw [hr, g6]
   exact List.map_congr_left (fun d hd => by rw [headK, headK, (ih d hd).2.1])
  ·rw [wkE, wkE, hr, flat_congr (fun d hd => (ih d hd).2.1)]
  ·rw [pgN, pgN, hr, flat_congr (fun d hd => (ih d hd).2.2)]
theorem ok_same {S S' : DS} {k : Nat} {mu : Nat → Nat} {h : Nat} {y : ND3} (g : okX S k mu h y) (sm : same S S' (pagX S h y)) : okX S' k mu h y ∧ entX S' h y = entX S h y ∧ pagX S' h y = pagX S h y := by
 obtain ⟨g3, g4, g5, g6⟩ := g
 have ih := fun d (hd : d ∈ y.D) => tk_same h (mu h) d (g5 d hd) (sm.sub (fun q hq => List.mem_flatMap.2 ⟨d, hd, hq⟩))
 refine ⟨⟨g3, g4, fun d hd => (ih d hd).1, ?_⟩, ?_, ?_⟩
 ·rw [g6]
  exact List.map_congr_left (fun d hd => by rw [headK, headK, (ih d hd).2.1])
 ·rw [entX, entX, flat_congr (fun d hd => (ih d hd).2.1)]
 ·rw [pagX, pagX, flat_congr (fun d hd => (ih d hd).2.2)]
theorem tk_ne {S : DS} {k : Nat} {mu : Nat → Nat} : ∀ (h m : Nat) (a : Int), tkG S k mu h m a → wkE S h a ≠ []
 | 0, _, _, g => g.elim
 | h + 1, m, a, g => by
  obtain ⟨_, _, _, g3, g4, g5, _⟩ := g
  rw [wkE]
  by_cases h0 : h = 0
  ·subst h0
   have : 1 ≤ (rdN S a (decide (0 = 0))).E.length := g4.1
   intro c
   rw [List.append_eq_nil_iff] at c
   rw [c.1] at this
   exact absurd this (by decide)
  ·rw [dFf h0] at g3 g4 g5 ⊢
   have : 1 ≤ (rdN S a false).D.length := g4.1
   obtain ⟨d, D, hD⟩ : ∃ d D, (rdN S a false).D = d :: D := by
    cases hh : (rdN S a false).D with
    | nil => rw [hh] at this; exact absurd this (by decide)
    | cons d D => exact ⟨d, D, rfl⟩
   intro c
   rw [List.append_eq_nil_iff] at c
   have c2 := c.2
   rw [hD, List.flatMap_cons, List.append_eq_nil_iff] at c2
   exact tk_ne h (mu h) d (g5 d (by rw [hD]; exact List.mem_cons_self ..)) c2.1
theorem tk_page {S : DS} {k : Nat} {mu : Nat → Nat} {h m : Nat} {a : Int} (g : tkG S k mu h m a) : ∃ p : Nat, a = (p : Int) ∧ (2 ≤ p ∧ p < k) ∧ ∃ l, pgN S h a = p :: l := by
 cases h with
 | zero => exact g.elim
 | succ h =>
  obtain ⟨⟨p, hp, hp2⟩, _⟩ := g
  subst hp
  exact ⟨p, rfl, hp2, (rdN S (p : Int) (decide (h = 0))).D.flatMap (pgN S h), rfl⟩
theorem head_app {l m : List ENT} (h : l ≠ []) : (l ++ m).headD ent0 = l.headD ent0 := by
 cases l with
 | nil => exact absurd rfl h
 | cons x l => rfl
theorem least_head {S : DS} {k : Nat} {mu : Nat → Nat} {h : Nat} {y : ND3} (g : okX S k mu h y) : least3 (decide (h = 0)) y = ((entX S h y).headD ent0).key := by
 obtain ⟨g3, g4, g5, g6⟩ := g
 by_cases h0 : h = 0
 ·subst h0
  obtain ⟨hK, hD⟩ := g3
  rw [entX, hD, List.flatMap_nil, List.append_nil]
  show leastN true y.E y.K = _
  have : 1 ≤ y.E.length := g4
  cases hE : y.E with
  | nil => rw [hE] at this; exact absurd this (by decide)
  | cons e E => rfl
 ·rw [dFf h0] at g3 g4 ⊢
  obtain ⟨hE, hK⟩ := g3
  have : 1 ≤ y.D.length := g4
  obtain ⟨d, D, hD⟩ : ∃ d D, y.D = d :: D := by
   cases hh : y.D with
   | nil => rw [hh] at this; exact absurd this (by decide)
   | cons d D => exact ⟨d, D, rfl⟩
  rw [entX, hE, nAp, hD, List.flatMap_cons, head_app (tk_ne h (mu h) d (g5 d (by rw [hD]; exact List.mem_cons_self ..)))]
  show leastN false y.E y.K = _
  rw [g6, hD, hE]; rfl
theorem tk_written {S S' : DS} {k : Nat} {mu : Nat → Nat} {h m t : Nat} {y : ND3} (g : okX S k mu h y) (sm : same S S' (pagX S h y)) (hr : rdN S' (t : Int) (decide (h = 0)) = ⟨decide (h = 0), y.E, y.K, y.D, 0⟩) (ht : 2 ≤ t ∧ t < k) (hm : m ≤ szN (decide (h = 0)) y) (hM : szN (decide (h = 0)) y ≤ mostN (decide (h = 0))) :
  tkG S' k mu (h + 1) m (t : Int) ∧ wkE S' (h + 1) (t : Int) = entX S h y ∧ pgN S' (h + 1) (t : Int) = t :: pagX S h y := by
 obtain ⟨⟨g3, g4, g5, g6⟩, e1, e2⟩ := ok_same g sm
 have hn : ndG (rdN S' (t : Int) (decide (h = 0))) = y := by rw [hr]; rfl
 refine ⟨⟨⟨t, rfl, ht⟩, by rw [hr], by rw [hr], by rw [hn]; exact g3, by rw [hn]; exact ⟨g4, hm, hM⟩, fun d hd => by rw [hr] at hd; exact g5 d hd, by rw [hr]; exact g6⟩, ?_, ?_⟩
 ·rw [wkE_succ, hn, e1]
 ·rw [pgN_succ, hn, e2]; rfl
def ordE (l : List ENT) : Prop := l.Pairwise (fun a b => afterE a b = true) ∧ ∀ e ∈ l, entOk e = true ∧ entR e
theorem ordE.sub {l l' : List ENT} (h : ordE l) (s : l'.Sublist l) : ordE l' := ⟨h.1.sublist s, fun e he => h.2 e (s.subset he)⟩
theorem entsTo_of {E : List ENT} : ∀ n, (∀ i, i < n → entAt E i = true) → entsTo E n = true
 | 0, _ => rfl
 | n + 1, h => by rw [entsTo, entsTo_of n (fun i hi => h i (by omega)), h n (by omega)]; rfl
theorem getD_at {α : Type} {l : List α} {d : α} {i : Nat} (h : i < l.length) : l.getD i d = l[i] := by
 rw [gDe, gEe h]; rfl
theorem after_less {a b : ENT} (h : afterE a b = true) : lessK a.key b.key = true := by
 rw [afterE, Bool.and_eq_true] at h
 exact h.1
theorem ent_keyOk {e : ENT} (h : entOk e = true) : keyOk e.key = true := by
 simp only [entOk, Bool.and_eq_true] at h
 exact h.1.1.1.1.1.1
theorem betw_i {n low high : Int} (h1 : low ≤ n) (h2 : n ≤ high) : betw n low high = true := by
 rw [betw, dTt h1, dTt h2]; rfl
theorem heads_sub {S : DS} {h : Nat} : ∀ (D : List Int), (∀ d ∈ D, wkE S h d ≠ []) → (D.map (fun d => (wkE S h d).headD ent0)).Sublist (D.flatMap (wkE S h))
 | [], _ => List.Sublist.slnil
 | d :: D, hn => by
  rw [List.map_cons, List.flatMap_cons]
  have ih := heads_sub D (fun d hd => hn d (mCm _ hd))
  cases hw : wkE S h d with
  | nil => exact absurd hw (hn d (List.mem_cons_self ..))
  | cons e l => exact List.Sublist.cons_cons _ (ih.trans (List.sublist_append_right _ _))
theorem pages_sub {S : DS} {k : Nat} {mu : Nat → Nat} {h : Nat} : ∀ (D : List Int), (∀ d ∈ D, tkG S k mu h (mu h) d) → (D.map Int.toNat).Sublist (D.flatMap (pgN S h))
 | [], _ => List.Sublist.slnil
 | d :: D, hn => by
  rw [List.map_cons, List.flatMap_cons]
  have ih := pages_sub D (fun d hd => hn d (mCm _ hd))
  obtain ⟨p, hp, _, l, hl⟩ := tk_page (hn d (List.mem_cons_self ..))
  rw [hl, hp]
  exact List.Sublist.cons_cons _ (ih.trans (List.sublist_append_right _ _))
theorem nodeRight_of {S : DS} {k : Nat} {mu : Nat → Nat} {h : Nat} {y : ND3} (g : okX S k mu h y) (hk : k ≤ 512) (hM : szN (decide (h = 0)) y ≤ mostN (decide (h = 0))) (ho : ordE (entX S h y)) (hp : (pagX S h y).Nodup) :
  rightN (decide (h = 0)) y.E y.K y.D = true ∧ (∀ e ∈ y.E, entR e) ∧ ∀ q ∈ y.K, keyR q := by
 obtain ⟨g3, g4, g5, g6⟩ := g
 have hER : ∀ e ∈ y.E, entR e := fun e he => (ho.2 e (by rw [entX]; exact mAl _ he)).2
 by_cases h0 : h = 0
 ·subst h0
  obtain ⟨hK, hD⟩ := g3
  have hoE : ordE y.E := by
   rw [entX, hD, List.flatMap_nil, List.append_nil] at ho
   exact ho
  have hl1 : 1 ≤ y.E.length := g4
  have hl2 : y.E.length ≤ 7 := hM
  refine ⟨?_, hER, fun q hq => by rw [hK] at hq; cases hq⟩
  have he : entsTo y.E y.E.length = true := entsTo_of _ (fun i hi => by
   have hok := (hoE.2 (y.E.getD i ent0) (by rw [getD_at hi]; exact List.getElem_mem hi)).1
   rw [entAt, hok, Bool.true_and]
   rcases Nat.eq_zero_or_pos i with q | q
   ·rw [dTt q]; rfl
   ·have := List.pairwise_iff_getElem.1 hoE.1 (i - 1) i (by omega) hi (by omega)
    rw [getD_at hi, getD_at (show i - 1 < y.E.length by omega), this, Bool.or_true])
  show (decide (y.K.length = 0) && (decide (y.D.length = 0) && (entsTo y.E y.E.length && betw (y.E.length : Int) 1 7))) = true
  rw [hK, hD, he, betw_i (show (1 : Int) ≤ (y.E.length : Int) by omega) (show (y.E.length : Int) ≤ 7 by omega)]; rfl
 ·rw [dFf h0] at g3 g4 hM ⊢
  obtain ⟨hE, hK⟩ := g3
  have hl1 : 1 ≤ y.D.length := g4
  have hl2 : y.D.length ≤ 16 := hM
  rw [entX, hE, nAp] at ho
  have hne : ∀ d ∈ y.D, wkE S h d ≠ [] := fun d hd => tk_ne h (mu h) d (g5 d hd)
  obtain ⟨T, hT⟩ : ∃ T, T = y.D.map (fun d => (wkE S h d).headD ent0) := ⟨_, rfl⟩
  have hoT : ordE T := by rw [hT]; exact ho.sub (heads_sub y.D hne)
  have hTl : T.length = y.D.length := by rw [hT, List.length_map]
  have hKT : y.K = T.map (fun e => e.key) := by rw [g6, hT, List.map_map]; rfl
  have hKl : y.K.length = y.D.length := hK
  have hKi : ∀ i, i < y.D.length → y.K.getD i (0, 0) = (T.getD i ent0).key := fun i hi => by
   rw [hKT, getD_at (show i < (T.map (fun e : ENT => e.key)).length by rw [List.length_map]; omega), getD_at (show i < T.length by omega), List.getElem_map]
  have hks : keysTo y.K y.K.length = true := keysTo_of _ (fun i hi => by
   have hi' : i < T.length := by omega
   have hok := (hoT.2 (T.getD i ent0) (by rw [getD_at hi']; exact List.getElem_mem hi')).1
   rw [keyAt, hKi i (by omega), ent_keyOk hok, Bool.true_and]
   rcases Nat.eq_zero_or_pos i with q | q
   ·rw [dTt q]; rfl
   ·have := List.pairwise_iff_getElem.1 hoT.1 (i - 1) i (by omega) hi' (by omega)
    rw [hKi (i - 1) (by omega), getD_at hi', getD_at (show i - 1 < T.length by omega), after_less this, Bool.or_true])
  have hnd : y.D.Nodup := by
   have := hp.sublist (pages_sub y.D g5)
   exact List.Pairwise.of_map Int.toNat (fun a b hab c => hab (by rw [c])) this
  have hds : kidsTo y.D y.D.length = true := kidsTo_of _ (fun i hi => by
   obtain ⟨p, hp1, hp2, _⟩ := tk_page (g5 (y.D.getD i 0) (by rw [getD_at hi]; exact List.getElem_mem hi))
   rw [kidAt, betw_i (show (2 : Int) ≤ y.D.getD i 0 by omega) (show y.D.getD i 0 ≤ 511 by omega), Bool.true_and]
   rw [Bool.not_eq_true', decide_eq_false_iff_not]
   intro c
   rw [getD_at hi] at c
   obtain ⟨j, hj, hje⟩ := List.getElem_of_mem c
   rw [lTk] at hj
   rw [List.getElem_take] at hje
   exact (List.pairwise_iff_getElem.1 hnd j i (by omega) hi (by omega)) hje)
  refine ⟨?_, hER, fun q hq => ?_⟩
  ·show (decide (y.E.length = 0) && (keysTo y.K y.K.length && kidsTo y.D y.D.length && decide (y.K.length = y.D.length) && betw (y.D.length : Int) 1 16)) = true
   rw [hE, hks, hds, dTt hKl, betw_i (show (1 : Int) ≤ (y.D.length : Int) by omega) (show (y.D.length : Int) ≤ 16 by omega)]; rfl
  ·rw [hKT] at hq
   obtain ⟨e, he, rfl⟩ := List.mem_map.1 hq
   exact (hoT.2 e he).2.1
def nd0 : ND3 := ⟨[], [], []⟩
def lwN : Nat → VS → Int → VS × (Int × Nat) × Nat
 | 0, v, a => (v, (a, 0), 0)
 | 1, v, a => (v, (a, 1), 0)
 | h + 2, v, a => if 1 < (rdN v.S a false).D.length then (v, (a, h + 2), 0) else lwN (h + 1) (giN v a).1 ((rdN v.S a false).D.getD 0 0)
def lwG : Nat → VS → Int → Prop
 | 0, _, _ => True
 | 1, _, _ => True
 | h + 2, v, a => (-1000000 ≤ a ∧ a ≤ 1000000) ∧ (rdN v.S a false).e = 0 ∧ 1 ≤ (rdN v.S a false).D.length ∧ (rdN v.S a false).D.length ≤ 1000 ∧ (giN v a).2 = 0 ∧ lwG (h + 1) (giN v a).1 ((rdN v.S a false).D.getD 0 0)
theorem lwN_one {h : Nat} (v : VS) (a : Int) (hh : h ≤ 1) : lwN h v a = (v, (a, h), 0) := by
 rcases h with _ | _ | h
 ·rfl
 ·rfl
 ·omega
def sgN (leaf : Bool) (v : VS) (xs : List ND3) (h : Nat) : VS × (Int × Nat) × Nat :=
 if xs.length = 0 ∨ szN leaf (xs.getD 0 nd0) = 0 then (v, (0, 0), 0)
 else if leaf = false ∧ szN leaf (xs.getD 0 nd0) = 1 then lwN (h - 1) v ((xs.getD 0 nd0).D.getD 0 0)
 else ((wrN v leaf (xs.getD 0 nd0)).1, ((wrN v leaf (xs.getD 0 nd0)).2.1, h), (wrN v leaf (xs.getD 0 nd0)).2.2)
def sgG (leaf : Bool) (v : VS) (xs : List ND3) (h : Nat) : Prop :=
 xs.length ≤ 1 ∧ (leaf = false → szN leaf (xs.getD 0 nd0) = 1 → 1 ≤ h ∧ lwG (h - 1) v ((xs.getD 0 nd0).D.getD 0 0))
def roN : Nat → Bool → VS → List ND3 → Nat → VS × (Int × Nat) × Nat
 | 0, leaf, v, xs, h => if 5 < h then (v, (0, 0), 5) else sgN leaf v xs h
 | f + 1, leaf, v, xs, h =>
  if 1 < xs.length then
   if (unN leaf v xs).2.2 = 0 then roN f false (unN leaf v xs).1 (splitN false (unN leaf v xs).2.1) (h + 1) else ((unN leaf v xs).1, (0, 0), (unN leaf v xs).2.2)
  else if 5 < h then (v, (0, 0), 5) else sgN leaf v xs h
def roG : Nat → Bool → VS → List ND3 → Nat → Prop
 | 0, leaf, v, xs, h => xs.length ≤ 1 ∧ (h ≤ 5 → sgG leaf v xs h)
 | f + 1, leaf, v, xs, h => (1 < xs.length → (unN leaf v xs).2.2 = 0 → roG f false (unN leaf v xs).1 (splitN false (unN leaf v xs).2.1) (h + 1)) ∧ (xs.length ≤ 1 → h ≤ 5 → sgG leaf v xs h)
theorem roN_fin {f : Nat} {leaf : Bool} {v : VS} {xs : List ND3} {h : Nat} (hx : xs.length ≤ 1) : roN f leaf v xs h = if 5 < h then (v, (0, 0), 5) else sgN leaf v xs h := by
 cases f with
 | zero => rfl
 | succ f => rw [roN, if_neg (by omega)]
theorem roG_fin {f : Nat} {leaf : Bool} {v : VS} {xs : List ND3} {h : Nat} (hx : xs.length ≤ 1) (g : roG f leaf v xs h) (hh : h ≤ 5) : sgG leaf v xs h := by
 cases f with
 | zero => exact g.2 hh
 | succ f => exact g.2 hx hh
theorem splitN_E {x : ND3} (hx : okN false x) : ∀ y ∈ splitN false x, ∀ e ∈ y.E, entR e := fun y hy e he => by
 have h := (splN_sz _ x hx y hy).1
 rw [show y.E = [] from h.1] at he
 cases he
def entsX (S : DS) (h : Nat) (xs : List ND3) : List ENT := xs.flatMap (entX S h)
def pagsX (S : DS) (h : Nat) (xs : List ND3) : List Nat := xs.flatMap (pagX S h)
theorem cutL_sub {α : Type} (l : List α) (lo hi : Nat) : (cutL l lo hi).Sublist l := (List.take_sublist _ _).trans (List.drop_sublist _ _)
theorem cutL_map {α β : Type} (f : α → β) (l : List α) (lo hi : Nat) : cutL (l.map f) lo hi = (cutL l lo hi).map f := by
 rw [cutL, cutL, List.map_take, List.map_drop]
theorem part_ok {S : DS} {k : Nat} {mu : Nat → Nat} {h : Nat} {y : ND3} (g : okX S k mu h y) {lo hi : Nat} (h1 : lo < hi) (h2 : hi ≤ szN (decide (h = 0)) y) : okX S k mu h (partN (decide (h = 0)) y lo hi) := by
 obtain ⟨g3, g4, g5, g6⟩ := g
 refine ⟨partN_ok g3 h2, by rw [partN_sz h2]; omega, fun d hd => ?_, ?_⟩
 ·by_cases h0 : h = 0
  ·rw [dTt h0] at hd
   cases hd
  ·rw [dFf h0] at hd
   exact g5 d ((cutL_sub _ _ _).subset hd)
 ·by_cases h0 : h = 0
  ·rw [dTt h0]; rfl
  ·rw [dFf h0]
   show cutL y.K lo hi = (cutL y.D lo hi).map (headK S h)
   rw [g6, cutL_map]
theorem part_ents {S : DS} {h : Nat} {y : ND3} (g : okN (decide (h = 0)) y) {a : Nat} (ha : a ≤ szN (decide (h = 0)) y) :
  entX S h (partN (decide (h = 0)) y 0 a) ++ entX S h (partN (decide (h = 0)) y a (szN (decide (h = 0)) y)) = entX S h y ∧
  pagX S h (partN (decide (h = 0)) y 0 a) ++ pagX S h (partN (decide (h = 0)) y a (szN (decide (h = 0)) y)) = pagX S h y := by
 by_cases h0 : h = 0
 ·subst h0
  obtain ⟨hK, hD⟩ := g
  have ha' : a ≤ y.E.length := ha
  refine ⟨?_, ?_⟩
  ·show (cutL y.E 0 a ++ []) ++ (cutL y.E a y.E.length ++ []) = y.E ++ y.D.flatMap _
   rw [hD, List.flatMap_nil, List.append_nil, List.append_nil, List.append_nil, cutL_app _ _ ha']
  ·show [] ++ [] = y.D.flatMap _
   rw [hD]; rfl
 ·rw [dFf h0] at g ha ⊢
  obtain ⟨hE, hK⟩ := g
  have ha' : a ≤ y.D.length := ha
  refine ⟨?_, ?_⟩
  ·show ([] ++ (cutL y.D 0 a).flatMap (wkE S h)) ++ ([] ++ (cutL y.D a y.D.length).flatMap (wkE S h)) = y.E ++ y.D.flatMap (wkE S h)
   rw [hE, nAp, nAp, nAp, ← List.flatMap_append, cutL_app _ _ ha']
  ·show (cutL y.D 0 a).flatMap (pgN S h) ++ (cutL y.D a y.D.length).flatMap (pgN S h) = y.D.flatMap (pgN S h)
   rw [← List.flatMap_append, cutL_app _ _ ha']
theorem spl_spec {S : DS} {k : Nat} {mu : Nat → Nat} {h : Nat} : ∀ (f : Nat) (y : ND3), okX S k mu h y → szN (decide (h = 0)) y ≤ f →
  (∀ z ∈ splN (decide (h = 0)) f y, okX S k mu h z) ∧ entsX S h (splN (decide (h = 0)) f y) = entX S h y ∧ pagsX S h (splN (decide (h = 0)) f y) = pagX S h y
 | 0, y, g, hf => by have := g.2.1; omega
 | f + 1, y, g, hf => by
  have hm := most_pos (decide (h = 0))
  have h1 := g.2.1
  rw [splN, if_neg (by omega)]
  split
  ·rw [partN_all g.1]
   refine ⟨fun z hz => by rw [List.mem_singleton.1 hz]; exact g, by simp [entsX], by simp [pagsX]⟩
  ·rename_i h2
   have a1 : (szN (decide (h = 0)) y + 1) / 2 ≤ szN (decide (h = 0)) y := by omega
   have s1 := partN_sz (leaf := decide (h = 0)) (x := y) (lo := 0) a1
   have s2 := partN_sz (leaf := decide (h = 0)) (x := y) (lo := (szN (decide (h = 0)) y + 1) / 2) (Nat.le_refl _)
   obtain ⟨p1, p2, p3⟩ := spl_spec f _ (part_ok g (lo := 0) (hi := (szN (decide (h = 0)) y + 1) / 2) (by omega) a1) (by omega)
   obtain ⟨q1, q2, q3⟩ := spl_spec f _ (part_ok g (lo := (szN (decide (h = 0)) y + 1) / 2) (by omega) (Nat.le_refl _)) (by omega)
   obtain ⟨r1, r2⟩ := part_ents (S := S) g.1 a1
   refine ⟨fun z hz => (List.mem_append.1 hz).elim (p1 z) (q1 z), ?_, ?_⟩
   ·rw [entsX, List.flatMap_append]
    rw [entsX] at p2 q2
    rw [p2, q2]; exact r1
   ·rw [pagsX, List.flatMap_append]
    rw [pagsX] at p3 q3
    rw [p3, q3]; exact r2
theorem spl_one {leaf : Bool} {y : ND3} (f : Nat) (h : okN leaf y) (h1 : 1 ≤ szN leaf y) (h2 : szN leaf y ≤ mostN leaf) : splN leaf (f + 1) y = [y] := by
 rw [splN, if_neg (by omega), if_pos h2, partN_all h]
theorem split_two {leaf : Bool} {y : ND3} (h : okN leaf y) (h1 : 1 ≤ szN leaf y) (h2 : szN leaf y ≤ 2 * mostN leaf) :
  (szN leaf y ≤ mostN leaf ∧ splitN leaf y = [y]) ∨ (mostN leaf < szN leaf y ∧ ∃ a b, splitN leaf y = [a, b] ∧ szN leaf a = (szN leaf y + 1) / 2 ∧ szN leaf b = szN leaf y - (szN leaf y + 1) / 2) := by
 have hm := most_pos leaf
 by_cases hc : szN leaf y ≤ mostN leaf
 ·exact .inl ⟨hc, spl_one _ h h1 hc⟩
 ·refine .inr ⟨by omega, ?_⟩
  have a1 : (szN leaf y + 1) / 2 ≤ szN leaf y := by omega
  have s1 := partN_sz (leaf := leaf) (x := y) (lo := 0) a1
  have s2 := partN_sz (leaf := leaf) (x := y) (lo := (szN leaf y + 1) / 2) (Nat.le_refl _)
  have b1 := partN_ok (lo := 0) h a1
  have b2 := partN_ok (lo := (szN leaf y + 1) / 2) h (Nat.le_refl _)
  have key : ∀ n, n = szN leaf y → splN leaf (n + 1) y = [partN leaf y 0 ((szN leaf y + 1) / 2), partN leaf y ((szN leaf y + 1) / 2) (szN leaf y)] := fun n hn => by
   obtain ⟨f, rfl⟩ : ∃ f, n = f + 1 := ⟨n - 1, by omega⟩
   rw [splN, if_neg (by omega), if_neg hc, spl_one f b1 (by omega) (by omega), spl_one f b2 (by omega) (by omega)]
   rfl
  rw [Nat.sub_zero] at s1
  exact ⟨_, _, key _ rfl, s1, s2⟩
theorem VG.same_of {k : Nat} {U O : List Nat} {v v1 : VS} {t : Nat} (hv : VG k U O v) (ht : 2 ≤ t ∧ t < k) (htU : t ∉ U) (htO : t ∉ O) (hag : ∀ (j : Nat), j < k → j ≠ t → pgAt v1.S.V j = pgAt v.S.V j ∧ ∀ lf, rdN v1.S (j : Int) lf = rdN v.S (j : Int) lf) : same v.S v1.S (U ++ O) := fun p hp => by
 have hk := hv.k8
 rcases hp with hp | hp
 ·refine hag p (by
   rcases List.mem_append.1 hp with q | q
   ·exact (hv.m.rng p q).2
   ·exact (hv.o.rng p q).2) (fun c => by
   subst c
   rcases List.mem_append.1 hp with q | q
   ·exact htU q
   ·exact htO q)
 ·exact hag p (by omega) (by omega)
theorem un_spec {k : Nat} {mu : Nat → Nat} {O : List Nat} {h : Nat} : ∀ (xs : List ND3) (v : VS) (U R : List Nat), VG k U O v → U.Perm (pagsX v.S h xs ++ R) →
  (∀ y ∈ xs, okX v.S k mu h y ∧ mu (h + 1) ≤ szN (decide (h = 0)) y ∧ szN (decide (h = 0)) y ≤ mostN (decide (h = 0))) → ordE (entsX v.S h xs) →
  (∃ (v' : VS) (D : List Int) (U' : List Nat), unGo (decide (h = 0)) v xs = (v', D, 0) ∧ VG k U' O v' ∧ U'.Perm (D.flatMap (pgN v'.S (h + 1)) ++ R) ∧ same v.S v'.S (U ++ O) ∧ D.length = xs.length ∧
   (∀ d ∈ D, tkG v'.S k mu (h + 1) (mu (h + 1)) d) ∧ D.flatMap (wkE v'.S (h + 1)) = entsX v.S h xs ∧ D.map (headK v'.S (h + 1)) = xs.map (least3 (decide (h = 0))) ∧ v'.S.W.length ≤ v.S.W.length + 4 * xs.length ∧ ∀ n, Fre k U O (n + xs.length) → Fre k U' O n)
  ∨ ((unGo (decide (h = 0)) v xs).2.2 = 5 ∧ ¬ Fre k U O xs.length)
 | [], v, U, R, hv, hU, hx, ho => .inl ⟨v, [], U, rfl, hv, hU, same.rfl, rfl, (fun d hd => by cases hd), rfl, rfl, Nat.le_refl _, fun n hn => hn⟩
 | y :: xs, v, U, R, hv, hU, hx, ho => by
  obtain ⟨hy1, hy2, hy3⟩ := hx y (List.mem_cons_self ..)
  have hUy : U.Perm (pagX v.S h y ++ (pagsX v.S h xs ++ R)) := by
   refine hU.trans ?_
   rw [pagsX, List.flatMap_cons, aAs]
   exact List.Perm.refl _
  have hnd : (pagX v.S h y).Nodup := (List.nodup_append.1 (hUy.nodup_iff.1 hv.m.nodup)).1
  have hoy : ordE (entX v.S h y) := ho.sub (by rw [entsX, List.flatMap_cons]; exact List.sublist_append_left _ _)
  have hoxs : ordE (entsX v.S h xs) := ho.sub (by show (xs.flatMap _).Sublist ((y :: xs).flatMap _); rw [List.flatMap_cons]; exact List.sublist_append_right _ _)
  obtain ⟨hr, hrE, hrK⟩ := nodeRight_of hy1 hv.k8.2 hy3 hoy hnd
  rcases hv.wr hr hrE hrK with ⟨t, v1, e1, hv1, ht, htU, htO, hrd, hW1, hag⟩ | ⟨e5, _, hn⟩
  ·have hsm : same v.S v1.S (U ++ O) := hv.same_of ht htU htO hag
   have hsub : ∀ p ∈ pagX v.S h y, p ∈ U ++ O := fun p hp => mAl _ (hUy.mem_iff.2 (mAl _ hp))
   have hsubx : ∀ z ∈ xs, ∀ p ∈ pagX v.S h z, p ∈ U ++ O := fun z hz p hp => mAl _ (hUy.mem_iff.2 (mAr _ (mAl _ (List.mem_flatMap.2 ⟨z, hz, hp⟩))))
   obtain ⟨w1, w2, w3⟩ := tk_written (m := mu (h + 1)) hy1 (hsm.sub hsub) hrd ht hy2 hy3
   have hxs := fun z (hz : z ∈ xs) => ok_same (hx z (mCm _ hz)).1 (hsm.sub (hsubx z hz))
   have hpx : pagsX v1.S h xs = pagsX v.S h xs := flat_congr (fun z hz => (hxs z hz).2.2)
   have hex : entsX v1.S h xs = entsX v.S h xs := flat_congr (fun z hz => (hxs z hz).2.1)
   have hU1 : (t :: U).Perm (pagsX v1.S h xs ++ (t :: (pagX v.S h y ++ R))) := by
    rw [hpx]
    refine (List.Perm.cons t hUy).trans ?_
    refine List.Perm.trans ?_ List.perm_middle.symm
    refine List.Perm.cons t ?_
    rw [← aAs, ← aAs]
    exact List.Perm.append_right R List.perm_append_comm
   rcases un_spec xs v1 (t :: U) (t :: (pagX v.S h y ++ R)) hv1 hU1 (fun z hz => ⟨(hxs z hz).1, (hx z (mCm _ hz)).2⟩) (by rw [hex]; exact hoxs) with ⟨v', D, U', e2, hv', hU', hsm', hDl, hDg, hDe, hDk, hW', hfr⟩ | ⟨e5, hn⟩
   ·have htk := tk_same (h + 1) (mu (h + 1)) (t : Int) w1 (hsm'.sub (fun p hp => by
     rw [w3] at hp
     rcases List.mem_cons.1 hp with rfl | q
     ·exact mAl _ (List.mem_cons_self ..)
     ·exact mAl _ (mCm _ (hUy.mem_iff.2 (mAl _ q)))))
    have hk0 : headK v'.S (h + 1) (t : Int) = least3 (decide (h = 0)) y := by rw [headK, htk.2.1, w2, least_head hy1]
    refine .inl ⟨v', (t : Int) :: D, U', ?_, hv', ?_, ?_, ?_, ?_, ?_, ?_, ?_, ?_⟩
    ·rw [unGo, e1, if_neg (by simp)]
     simp only [e2]
    ·refine hU'.trans ?_
     rw [List.flatMap_cons, htk.2.2, w3]
     refine List.Perm.trans List.perm_middle ?_
     rw [cAp, cAp]
     refine List.Perm.cons t ?_
     rw [← aAs]
     exact List.Perm.append_right R List.perm_append_comm
    ·exact hsm.trans (hsm'.sub (fun p hp => by
      rcases List.mem_append.1 hp with q | q
      ·exact mAl _ (mCm _ q)
      ·exact mAr _ q))
    ·rw [lCn, lCn, hDl]
    ·intro d hd
     rcases List.mem_cons.1 hd with rfl | hd
     ·exact htk.1
     ·exact hDg d hd
    ·rw [List.flatMap_cons, htk.2.1, w2, hDe, hex, entsX, entsX, List.flatMap_cons]
    ·rw [List.map_cons, List.map_cons, hk0, hDk]
    ·rw [lCn]; omega
    ·intro n hn
     rw [lCn] at hn
     exact hfr n (Fre.cons (n := n + xs.length) hn)
   ·refine .inr ⟨?_, ?_⟩
    ·rw [unGo, e1, if_neg (by simp)]
     exact e5
    ·intro c
     rw [lCn] at c
     exact hn (Fre.cons c)
  ·refine .inr ⟨?_, fun c => hn (c.le (by rw [lCn]; omega))⟩
   rw [unGo, if_pos (by rw [e5]; decide)]
   exact e5
def inG : Nat → VS → Int → ENT → Prop
 | 0, _, _, _ => False
 | h + 1, v, a, x =>
  ((-1000000 ≤ a ∧ a ≤ 1000000) ∧ v.S.W.length ≤ 800000 ∧ (rdN v.S a (decide (h = 0))).e = 0 ∧ (rdN v.S a (decide (h = 0))).leaf = decide (h = 0) ∧
    okN (decide (h = 0)) ⟨(rdN v.S a (decide (h = 0))).E, (rdN v.S a (decide (h = 0))).K, (rdN v.S a (decide (h = 0))).D⟩ ∧
    (rdN v.S a (decide (h = 0))).E.length ≤ 1000 ∧ (rdN v.S a (decide (h = 0))).D.length ≤ 1000 ∧ (giN v a).2 = 0) ∧
  (h ≠ 0 → childN (rdN v.S a false).K x.key < (rdN v.S a false).D.length ∧ inG h (giN v a).1 ((rdN v.S a false).D.getD (childN (rdN v.S a false).K x.key) 0) x ∧
   (inN h (giN v a).1 ((rdN v.S a false).D.getD (childN (rdN v.S a false).K x.key) 0) x).1.ok ∧
   ((inN h (giN v a).1 ((rdN v.S a false).D.getD (childN (rdN v.S a false).K x.key) 0) x).2.2 = 0 →
     0 < (inN h (giN v a).1 ((rdN v.S a false).D.getD (childN (rdN v.S a false).K x.key) 0) x).2.1.length ∧
     (inN h (giN v a).1 ((rdN v.S a false).D.getD (childN (rdN v.S a false).K x.key) 0) x).2.1.length ≤ 1000 ∧
     (inN h (giN v a).1 ((rdN v.S a false).D.getD (childN (rdN v.S a false).K x.key) 0) x).1.S.W.length + 4 * (inN h (giN v a).1 ((rdN v.S a false).D.getD (childN (rdN v.S a false).K x.key) 0) x).2.1.length ≤ 800000 ∧
     ∀ y ∈ (inN h (giN v a).1 ((rdN v.S a false).D.getD (childN (rdN v.S a false).K x.key) 0) x).2.1, ∀ e ∈ y.E, entR e))
theorem inN_leaf {v : VS} {a : Int} {x : ENT} (he : (rdN v.S a true).e = 0) (hg : (giN v a).2 = 0) : inN 1 v a x = ((giN v a).1, splitN true ⟨(rdN v.S a true).E.take (idxE (rdN v.S a true).E x.key) ++ x :: (rdN v.S a true).E.drop (idxE (rdN v.S a true).E x.key), (rdN v.S a true).K, (rdN v.S a true).D⟩, 0) := by
 rw [inN, if_neg (by show ¬ (rdN v.S a true).e ≠ 0; omega), if_neg (by omega), if_pos rfl]
theorem inN_inner {v : VS} {a : Int} {x : ENT} {h : Nat} (he : (rdN v.S a false).e = 0) (hg : (giN v a).2 = 0) : inN (h + 2) v a x =
  if (inN (h + 1) (giN v a).1 ((rdN v.S a false).D.getD (childN (rdN v.S a false).K x.key) 0) x).2.2 = 0 then
   rpN (decide (h + 1 = 1)) (inN (h + 1) (giN v a).1 ((rdN v.S a false).D.getD (childN (rdN v.S a false).K x.key) 0) x).1 ⟨(rdN v.S a false).E, (rdN v.S a false).K, (rdN v.S a false).D⟩ (childN (rdN v.S a false).K x.key) 1 (inN (h + 1) (giN v a).1 ((rdN v.S a false).D.getD (childN (rdN v.S a false).K x.key) 0) x).2.1
  else ((inN (h + 1) (giN v a).1 ((rdN v.S a false).D.getD (childN (rdN v.S a false).K x.key) 0) x).1, [], (inN (h + 1) (giN v a).1 ((rdN v.S a false).D.getD (childN (rdN v.S a false).K x.key) 0) x).2.2) := by
 have hd : decide (h + 1 = 0) = false := rfl
 rw [inN, hd, if_neg (by omega), if_neg (by omega), if_neg (by omega)]
def chkE (E : List ENT) (x : ENT) : Nat := if E.any (fun y => decide (y.key = x.key)) = true then 11 else if E.any (fun y => meetsE x y) = true then 9 else 0
def iN (v : VS) (a : Int) (h : Nat) (x : ENT) : VS × (Int × Nat) × Nat :=
 if chkE (wkE v.S h a) x ≠ 0 then (v, (0, 0), chkE (wkE v.S h a) x)
 else if h = 0 then roN 1 true v [⟨[x], [], []⟩] 1
 else if (inN h v a x).2.2 = 0 then roN 1 (decide (h = 1)) (inN h v a x).1 (inN h v a x).2.1 h
 else ((inN h v a x).1, (0, 0), (inN h v a x).2.2)
def iG (v : VS) (a : Int) (h : Nat) (x : ENT) : Prop :=
 (h ≤ 5 ∧ (h = 0 ∨ wkG v.S h a) ∧ (wkE v.S h a).length ≤ 100000 ∧ v.S.W.length ≤ 700000 ∧ entOk x = true ∧ entR x) ∧
 (chkE (wkE v.S h a) x = 0 → (h = 0 → roG 1 true v [⟨[x], [], []⟩] 1) ∧ (h ≠ 0 → inG h v a x ∧ (inN h v a x).1.ok ∧
  ((inN h v a x).2.2 = 0 → (inN h v a x).1.S.W.length ≤ 780000 ∧ (inN h v a x).2.1.length ≤ 1000 ∧ (∀ y ∈ (inN h v a x).2.1, ∀ e ∈ y.E, entR e) ∧ roG 1 (decide (h = 1)) (inN h v a x).1 (inN h v a x).2.1 h)))
theorem any_take {α : Type} (p : α → Bool) (l : List α) (d : α) (i : Nat) (h : i < l.length) : (l.take (i + 1)).any p = ((l.take i).any p || p (l.getD i d)) := by
 rw [List.take_add_one, List.any_append, gDe, gEe h]
 simp
theorem any_of {α : Type} {p : α → Bool} {l : List α} (d : α) {i : Nat} (h : i < l.length) (hp : p (l.getD i d) = true) : l.any p = true := by
 rw [List.any_eq_true]
 refine ⟨l.getD i d, ?_, hp⟩
 rw [gDe, gEe h]
 exact List.getElem_mem h
def insE (E : List ENT) (x : ENT) : List ENT := E.takeWhile (fun y => !lessK x.key y.key) ++ x :: E.dropWhile (fun y => !lessK x.key y.key)
theorem tw_left {α : Type} {p : α → Bool} : ∀ {A B : List α}, (∀ a ∈ A, p a = true) → (A ++ B).takeWhile p = A ++ B.takeWhile p ∧ (A ++ B).dropWhile p = B.dropWhile p
 | [], B, _ => ⟨rfl, rfl⟩
 | a :: A, B, h => by
  have ha := h a (List.mem_cons_self ..)
  obtain ⟨i1, i2⟩ := tw_left (B := B) (fun b hb => h b (mCm _ hb))
  rw [cAp, List.takeWhile_cons, List.dropWhile_cons, if_pos ha, if_pos ha, i1, i2]
  exact ⟨rfl, rfl⟩
theorem tw_right {α : Type} {p : α → Bool} : ∀ {B C : List α}, (∀ c ∈ C, p c = false) → (B ++ C).takeWhile p = B.takeWhile p ∧ (B ++ C).dropWhile p = B.dropWhile p ++ C
 | [], C, h => by
  cases C with
  | nil => exact ⟨rfl, rfl⟩
  | cons c C =>
   have hc := h c (List.mem_cons_self ..)
   rw [nAp, List.takeWhile_cons, List.dropWhile_cons, if_neg (by rw [hc]; simp), if_neg (by rw [hc]; simp)]
   exact ⟨rfl, rfl⟩
 | b :: B, C, h => by
  obtain ⟨i1, i2⟩ := tw_right (B := B) h
  rw [cAp, List.takeWhile_cons, List.dropWhile_cons, List.takeWhile_cons, List.dropWhile_cons, i1, i2]
  split <;> exact ⟨rfl, rfl⟩
theorem insE_app {A B C : List ENT} {x : ENT} (hA : ∀ a ∈ A, lessK x.key a.key = false) (hC : ∀ c ∈ C, lessK x.key c.key = true) : insE (A ++ (B ++ C)) x = A ++ (insE B x ++ C) := by
 obtain ⟨a1, a2⟩ := tw_left (p := fun y : ENT => !lessK x.key y.key) (A := A) (B := B ++ C) (fun a ha => by rw [hA a ha]; rfl)
 obtain ⟨c1, c2⟩ := tw_right (p := fun y : ENT => !lessK x.key y.key) (B := B) (C := C) (fun c hc => by rw [hC c hc]; rfl)
 rw [insE, a1, a2, c1, c2, insE]
 simp only [aAs, cAp]
theorem insE_len (E : List ENT) (x : ENT) : (insE E x).length = E.length + 1 := by
 have := congrArg List.length (List.takeWhile_append_dropWhile (p := fun y : ENT => !lessK x.key y.key) (l := E))
 rw [lAp] at this
 rw [insE, lAp, lCn]; omega
theorem idxGo_eq (E : List ENT) (x : ENT) : ∀ (f i : Nat), f + i = E.length + 1 → i ≤ E.length → idxGo E x.key f i = i + ((E.drop i).takeWhile (fun y => !lessK x.key y.key)).length
 | 0, i, h1, h2 => by omega
 | f + 1, i, h1, h2 => by
  rw [idxGo]
  by_cases hi : i < E.length
  ·rw [if_pos hi]
   have hd : E.drop i = E.getD i ent0 :: E.drop (i + 1) := by rw [getD_at hi]; exact List.drop_eq_getElem_cons hi
   rw [hd, List.takeWhile_cons]
   cases hl : lessK x.key (E.getD i ent0).key with
   | true => rw [if_pos rfl, if_neg (by simp)]; rfl
   | false =>
    rw [if_neg (by simp), if_pos (by simp), idxGo_eq E x f (i + 1) (by omega) (by omega), lCn]; omega
  ·rw [if_neg hi, List.drop_eq_nil_of_le (by omega)]
   show E.length = i + 0
   omega
theorem idx_ins (E : List ENT) (x : ENT) : E.take (idxE E x.key) ++ x :: E.drop (idxE E x.key) = insE E x := by
 have h := idxGo_eq E x (E.length + 1) 0 rfl (Nat.zero_le _)
 rw [List.drop_zero, Nat.zero_add] at h
 have e : E.takeWhile (fun y => !lessK x.key y.key) ++ E.dropWhile (fun y => !lessK x.key y.key) = E := List.takeWhile_append_dropWhile
 have e1 : E.take (idxE E x.key) = E.takeWhile (fun y => !lessK x.key y.key) := by
  rw [idxE, h]
  have := List.take_left' (l₁ := E.takeWhile (fun y => !lessK x.key y.key)) (l₂ := E.dropWhile (fun y => !lessK x.key y.key)) rfl
  rw [e] at this
  exact this
 have e2 : E.drop (idxE E x.key) = E.dropWhile (fun y => !lessK x.key y.key) := by
  rw [idxE, h]
  have := List.drop_left' (l₁ := E.takeWhile (fun y => !lessK x.key y.key)) (l₂ := E.dropWhile (fun y => !lessK x.key y.key)) rfl
  rw [e] at this
  exact this
 rw [insE, e1, e2]
theorem childGo_spec (K : List KEY) (k : KEY) : ∀ (f i : Nat), K.length ≤ f + i → i < K.length → (i ≤ childGo K k f i ∧ childGo K k f i < K.length) ∧ (∀ j, i < j → j ≤ childGo K k f i → lessK k (K.getD j (0, 0)) = false) ∧ (childGo K k f i + 1 < K.length → lessK k (K.getD (childGo K k f i + 1) (0, 0)) = true)
 | 0, i, h1, h2 => by omega
 | f + 1, i, h1, h2 => by
  rw [childGo]
  split
  ·rename_i hc
   obtain ⟨⟨a1, a2⟩, a3, a4⟩ := childGo_spec K k f (i + 1) (by omega) hc.1
   refine ⟨⟨by omega, a2⟩, fun j hj hj2 => ?_, a4⟩
   by_cases e : j = i + 1
   ·rw [e]; exact hc.2
   ·exact a3 j (by omega) hj2
  ·rename_i hc
   refine ⟨⟨Nat.le_refl _, h2⟩, fun j hj hj2 => by omega, fun h => ?_⟩
   cases hl : lessK k (K.getD (i + 1) (0, 0)) with
   | true => rfl
   | false => exact absurd ⟨h, hl⟩ hc
theorem child_spec {K : List KEY} (k : KEY) (h : 0 < K.length) : childN K k < K.length ∧ (∀ j, 0 < j → j ≤ childN K k → lessK k (K.getD j (0, 0)) = false) ∧ (childN K k + 1 < K.length → lessK k (K.getD (childN K k + 1) (0, 0)) = true) := by
 obtain ⟨⟨_, a2⟩, a3, a4⟩ := childGo_spec K k K.length 0 (by omega) h
 exact ⟨a2, a3, a4⟩
theorem child_sides {S : DS} {k : Nat} {mu : Nat → Nat} {h : Nat} {D : List Int} {K : List KEY} {x : ENT} (hD : ∀ d ∈ D, tkG S k mu h (mu h) d) (hK : K = D.map (headK S h)) (h0 : 0 < D.length) (ho : ordE (D.flatMap (wkE S h))) :
  ∃ d, D = D.take (childN K x.key) ++ d :: D.drop (childN K x.key + 1) ∧ D.getD (childN K x.key) 0 = d ∧ childN K x.key < D.length ∧
   (∀ y ∈ (D.take (childN K x.key)).flatMap (wkE S h), lessK x.key y.key = false) ∧ (∀ y ∈ (D.drop (childN K x.key + 1)).flatMap (wkE S h), lessK x.key y.key = true) := by
 have hKl : K.length = D.length := by rw [hK, List.length_map]
 obtain ⟨c1, c2, c3⟩ := child_spec (K := K) x.key (by omega)
 obtain ⟨q, hq⟩ : ∃ q, q = childN K x.key := ⟨_, rfl⟩
 rw [← hq] at c1 c2 c3 ⊢
 have hql : q < D.length := by omega
 have hKi : ∀ i, i < D.length → K.getD i (0, 0) = headK S h (D.getD i 0) := fun i hi => by
  rw [hK, getD_at (show i < (D.map (headK S h)).length by rw [List.length_map]; exact hi), List.getElem_map, getD_at hi]
 have hsplit : ∀ i, i < D.length → D = D.take i ++ D.getD i 0 :: D.drop (i + 1) := fun i hi => by
  rw [getD_at hi, List.getElem_cons_drop, List.take_append_drop]
 have hhead : ∀ i, i < D.length → ∃ e l, wkE S h (D.getD i 0) = e :: l ∧ K.getD i (0, 0) = e.key := fun i hi => by
  have hne := tk_ne h (mu h) (D.getD i 0) (hD _ (by rw [getD_at hi]; exact List.getElem_mem hi))
  cases hw : wkE S h (D.getD i 0) with
  | nil => exact absurd hw hne
  | cons e l => exact ⟨e, l, rfl, by rw [hKi i hi, headK, hw]; rfl⟩
 refine ⟨D.getD q 0, hsplit q hql, rfl, hql, ?_, ?_⟩
 ·intro y hy
  rcases Nat.eq_zero_or_pos q with h00 | hpos
  ·rw [h00, List.take_zero] at hy; cases hy
  ·obtain ⟨e, l, he, hek⟩ := hhead q hql
   have hp := ho.1
   rw [hsplit q hql, List.flatMap_append, List.flatMap_cons, he, List.pairwise_append] at hp
   have h1 := after_less (hp.2.2 y hy e (mAl _ (List.mem_cons_self ..)))
   have h2 := c2 q hpos (Nat.le_refl _)
   rw [hek] at h2
   cases hl : lessK x.key y.key with
   | false => rfl
   | true => rw [lessK_trans hl h1] at h2; cases h2
 ·intro y hy
  by_cases hl : q + 1 < D.length
  ·obtain ⟨e, l, he, hek⟩ := hhead (q + 1) hl
   have h2 := c3 (by omega)
   rw [hek] at h2
   have hp := ho.1
   rw [hsplit (q + 1) hl, List.flatMap_append, List.flatMap_cons, he, List.pairwise_append] at hp
   have hd : D.drop (q + 1) = D.getD (q + 1) 0 :: D.drop (q + 1 + 1) := by rw [getD_at hl]; exact List.drop_eq_getElem_cons hl
   rw [hd, List.flatMap_cons, he, cAp] at hy
   rcases List.mem_cons.1 hy with rfl | hy
   ·exact h2
   ·have hp2 := hp.2.1
    rw [cAp, List.pairwise_cons] at hp2
    exact lessK_trans h2 (after_less (hp2.1 y hy))
  ·rw [List.drop_eq_nil_of_le (by omega)] at hy; cases hy
theorem rpN_ok {v : VS} (h : v.ok) (leaf : Bool) (x : ND3) (i c : Nat) (xs : List ND3) : (rpN leaf v x i c xs).1.ok := by
 have hu : (unN leaf v xs).1.ok := unGo_ok leaf xs h
 rw [rpN]; split <;> exact hu
theorem inN_ok : ∀ (h : Nat) {v : VS} (a : Int) (x : ENT), v.ok → (inN h v a x).1.ok
 | 0, v, a, x, hv => hv
 | h + 1, v, a, x, hv => by
  rw [inN]
  split
  ·exact hv
  ·split
   ·exact giN_ok hv a
   ·split
    ·exact giN_ok hv a
    ·have ih := inN_ok h ((rdN v.S a false).D.getD (childN (rdN v.S a false).K x.key) 0) x (giN_ok hv a)
     split
     ·exact rpN_ok ih _ _ _ _ _
     ·exact ih
def limN (h : Nat) : Nat := if h = 0 then 4 else 8
structure InR (k : Nat) (mu : Nat → Nat) (O : List Nat) (h m : Nat) (S0 : DS) (U R : List Nat) (E' : List ENT) (r : VS × List ND3 × Nat) : Prop where
 e : r.2.2 = 0
 vg : ∃ U', VG k U' O r.1 ∧ U'.Perm (pagsX r.1.S h r.2.1 ++ R) ∧ ∀ n, Fre k U O (n + 2 * h) → Fre k U' O n
 sm : same S0 r.1.S (R ++ O)
 ok : ∀ z ∈ r.2.1, okX r.1.S k mu h z ∧ m ≤ szN (decide (h = 0)) z ∧ szN (decide (h = 0)) z ≤ mostN (decide (h = 0))
 ents : entsX r.1.S h r.2.1 = E'
 len : 1 ≤ r.2.1.length ∧ r.2.1.length ≤ 2
 W : r.1.S.W.length ≤ S0.W.length + 8 * h
 two : r.2.1.length = 2 → ∀ z ∈ r.2.1, limN h ≤ szN (decide (h = 0)) z
theorem szN_false (x : ND3) : szN false x = x.D.length := rfl
theorem InR.split {k : Nat} {mu : Nat → Nat} {O : List Nat} {h m : Nat} {S0 : DS} {U R U' : List Nat} {v : VS} {y : ND3} (hv : VG k U' O v) (hp : U'.Perm (pagX v.S h y ++ R)) (hf : ∀ n, Fre k U O (n + 2 * h) → Fre k U' O n) (sm : same S0 v.S (R ++ O)) (g : okX v.S k mu h y)
  (hs : szN (decide (h = 0)) y ≤ 2 * mostN (decide (h = 0))) (hm : m ≤ szN (decide (h = 0)) y) (hl : m ≤ limN h) (hW : v.S.W.length ≤ S0.W.length + 8 * h) : InR k mu O h m S0 U R (entX v.S h y) (v, splitN (decide (h = 0)) y, 0) := by
 have hsp := spl_spec (szN (decide (h = 0)) y + 1) y g (Nat.le_succ _)
 have heq : splN (decide (h = 0)) (szN (decide (h = 0)) y + 1) y = splitN (decide (h = 0)) y := rfl
 rw [heq] at hsp
 obtain ⟨s1, s2, s3⟩ := hsp
 have hmost : (mostN (decide (h = 0)) + 1 + 1) / 2 = limN h ∧ mostN (decide (h = 0)) + 1 - (mostN (decide (h = 0)) + 1 + 1) / 2 = limN h ∨ (mostN (decide (h = 0)) + 1 + 1) / 2 = limN h + 1 ∧ mostN (decide (h = 0)) + 1 - (mostN (decide (h = 0)) + 1 + 1) / 2 = limN h := by
  by_cases h0 : h = 0
  ·rw [dTt h0, limN, if_pos h0]; left; decide
  ·rw [dFf h0, limN, if_neg h0]; right; decide
 refine ⟨rfl, ⟨U', hv, by show U'.Perm (pagsX v.S h (splitN (decide (h = 0)) y) ++ R); rw [s3]; exact hp, hf⟩, sm, fun z hz => ?_, s2, ?_, hW, fun h2 z hz => ?_⟩
 ·rcases split_two g.1 g.2.1 hs with ⟨c1, c2⟩ | ⟨c1, a, b, c2, c3, c4⟩
  ·have hz' : z ∈ splitN (decide (h = 0)) y := hz
   rw [c2] at hz'
   rw [List.mem_singleton.1 hz']
   exact ⟨g, hm, c1⟩
  ·have hz' : z ∈ splitN (decide (h = 0)) y := hz
   refine ⟨s1 z hz', ?_⟩
   rw [c2] at hz'
   rcases List.mem_cons.1 hz' with rfl | hz'
   ·rw [c3]; omega
   ·rw [List.mem_singleton.1 hz', c4]; omega
 ·show 1 ≤ (splitN (decide (h = 0)) y).length ∧ (splitN (decide (h = 0)) y).length ≤ 2
  rcases split_two g.1 g.2.1 hs with ⟨c1, c2⟩ | ⟨c1, a, b, c2, c3, c4⟩
  ·rw [c2]; exact ⟨Nat.le_refl 1, by show 1 ≤ 2; decide⟩
  ·rw [c2]; exact ⟨by show 1 ≤ 2; decide, Nat.le_refl 2⟩
 ·rcases split_two g.1 g.2.1 hs with ⟨c1, c2⟩ | ⟨c1, a, b, c2, c3, c4⟩
  ·have h2' : (splitN (decide (h = 0)) y).length = 2 := h2
   rw [c2] at h2'
   cases h2'
  ·have hz' : z ∈ splitN (decide (h = 0)) y := hz
   rw [c2] at hz'
   rcases List.mem_cons.1 hz' with rfl | hz'
   ·rw [c3]; omega
   ·rw [List.mem_singleton.1 hz', c4]; omega
theorem insE_ord_sub {A B C : List ENT} {x : ENT} (h : ordE (A ++ (insE B x ++ C))) : ordE (insE B x) := h.sub ((List.sublist_append_left _ _).trans (List.sublist_append_right _ _))
theorem insE_sub (E : List ENT) (x : ENT) : E.Sublist (insE E x) := by
 have e : E.takeWhile (fun y => !lessK x.key y.key) ++ E.dropWhile (fun y => !lessK x.key y.key) = E := List.takeWhile_append_dropWhile
 conv => lhs; rw [← e]
 exact List.Sublist.append (List.Sublist.refl _) (List.sublist_cons_self _ _)
theorem perm3 (A B C : List Nat) : (A ++ (B ++ C)).Perm (B ++ (A ++ C)) := by
 rw [← aAs, ← aAs]
 exact List.Perm.append_right C List.perm_append_comm
theorem in_spec {k : Nat} {mu : Nat → Nat} {O : List Nat} {x : ENT} (hmu : ∀ h, mu (h + 1) ≤ limN h) : ∀ (h m : Nat) (v : VS) (a : Int) (U R : List Nat), m ≤ limN h → VG k U O v → tkG v.S k mu (h + 1) m a → U.Perm (pgN v.S (h + 1) a ++ R) → ordE (insE (wkE v.S (h + 1) a) x) →
  InR k mu O h m v.S U R (insE (wkE v.S (h + 1) a) x) (inN (h + 1) v a x) ∨ ((inN (h + 1) v a x).2.2 = 5 ∧ ¬ Fre k U O (2 * h))
 | 0, m, v, a, U, R, hml, hv, g, hU, ho => by
  have gx := tkG_okX g
  obtain ⟨⟨p, hp, hp2⟩, g1, g2, g3, ⟨g4, g5, g6⟩, g7, g8⟩ := g
  obtain ⟨hK, hD⟩ := g3
  have hd1 : decide ((0 : Nat) = 0) = true := rfl
  rw [hd1] at g1 g4 g5 g6 hK hD
  have hK' : (rdN v.S a true).K = [] := hK
  have hD' : (rdN v.S a true).D = [] := hD
  have hEl : (rdN v.S a true).E.length ≤ 7 := g6
  have hEm : m ≤ (rdN v.S a true).E.length := g5
  have hpg : pgN v.S (0 + 1) a = [p] := by
   show a.toNat :: (rdN v.S a true).D.flatMap _ = [p]
   rw [hD', hp]; rfl
  have hwk : wkE v.S (0 + 1) a = (rdN v.S a true).E := by
   show (rdN v.S a true).E ++ (rdN v.S a true).D.flatMap _ = _
   rw [hD', List.flatMap_nil, List.append_nil]
  rw [hpg] at hU
  have hU : U.Perm (p :: R) := hU
  obtain ⟨v', e1, e2, hv'⟩ := (hv.perm hU).give
  rw [← hp] at e1
  have hin := inN_leaf (x := x) g1 (by rw [e1])
  rw [idx_ins, e1, hK', hD'] at hin
  rw [hwk] at ho ⊢
  rw [hin]
  refine .inl ?_
  have hg : okX v'.S k mu 0 ⟨insE (rdN v.S a true).E x, [], []⟩ := ⟨⟨rfl, rfl⟩, by show 1 ≤ (insE (rdN v.S a true).E x).length; rw [insE_len]; omega, (fun d hd => by cases hd), rfl⟩
  have hsz : szN true ⟨insE (rdN v.S a true).E x, [], []⟩ = (rdN v.S a true).E.length + 1 := insE_len _ _
  have hr := InR.split (m := m) (S0 := v.S) (U := U) hv' (List.Perm.refl _) (fun n hn => (hn.le (Nat.le_add_right _ _)).sub (fun i hi => hU.mem_iff.2 (mCm _ hi))) (by rw [e2]; exact same.rfl) hg (by rw [hd1, hsz]; show _ ≤ 2 * 7; omega) (by rw [hd1, hsz]; omega) hml (by rw [e2]; exact Nat.le_refl _)
  have he : entX v'.S 0 ⟨insE (rdN v.S a true).E x, [], []⟩ = insE (rdN v.S a true).E x := by
   show _ ++ [] = _
   rw [List.append_nil]
  rw [he] at hr
  exact hr
 | h + 1, m, v, a, U, R, hml, hv, g, hU, ho => by
  have gx := tkG_okX g
  obtain ⟨⟨p, hp, hp2⟩, g1, g2, g3, ⟨g4, g5, g6⟩, g7, g8⟩ := g
  have hd1 : decide (h + 1 = 0) = false := rfl
  have hdd : decide (h + 1 = 1) = decide (h = 0) := decide_eq_decide.2 (by omega)
  rw [hd1] at g1 g3 g4 g5 g6 g7 g8
  obtain ⟨hE, hKD⟩ := g3
  obtain ⟨N, hN⟩ : ∃ N, N = rdN v.S a false := ⟨_, rfl⟩
  have hpg : pgN v.S (h + 1 + 1) a = p :: N.D.flatMap (pgN v.S (h + 1)) := by
   show a.toNat :: (rdN v.S a false).D.flatMap _ = _
   rw [hN, hp]; rfl
  have hE' : (rdN v.S a false).E = [] := hE
  have hwk : wkE v.S (h + 1 + 1) a = N.D.flatMap (wkE v.S (h + 1)) := by
   show (rdN v.S a false).E ++ (rdN v.S a false).D.flatMap _ = _
   rw [hE', hN, nAp]
  rw [hpg] at hU
  have hU : U.Perm (p :: (N.D.flatMap (pgN v.S (h + 1)) ++ R)) := hU
  obtain ⟨v1, e1, e2, hv1⟩ := (hv.perm hU).give
  rw [← hp] at e1
  have hin := inN_inner (h := h) (x := x) g1 (by rw [e1])
  rw [e1] at hin
  rw [← hN] at hin g4 g5 g6 g7 g8 hE hKD hE'
  rw [hwk] at ho ⊢
  have hDl : 0 < N.D.length := g4
  have hDm : m ≤ N.D.length := g5
  have hD16 : N.D.length ≤ 16 := g6
  obtain ⟨d, hsp, hdq, hql, hA, hC⟩ := child_sides (x := x) g7 g8 hDl (ho.sub (insE_sub _ _))
  obtain ⟨q, hq⟩ : ∃ q, q = childN N.K x.key := ⟨_, rfl⟩
  rw [← hq] at hsp hdq hql hA hC hin
  rw [hdq, hdd] at hin
  obtain ⟨D1, hD1⟩ : ∃ D1, D1 = N.D.take q := ⟨_, rfl⟩
  obtain ⟨D2, hD2⟩ : ∃ D2, D2 = N.D.drop (q + 1) := ⟨_, rfl⟩
  have hD1l : D1.length = q := by rw [hD1, lTk]; omega
  have hD2l : D2.length = N.D.length - (q + 1) := by rw [hD2, lDp]
  rw [← hD1, ← hD2] at hsp
  rw [← hD1] at hA
  rw [← hD2] at hC
  have hdm : d ∈ N.D := by rw [hsp]; exact mAr _ (List.mem_cons_self ..)
  have hm1 : ∀ z ∈ D1, z ∈ N.D := fun z hz => by rw [hsp]; exact mAl _ hz
  have hm2 : ∀ z ∈ D2, z ∈ N.D := fun z hz => by rw [hsp]; exact mAr _ (mCm _ hz)
  have hEs : N.D.flatMap (wkE v.S (h + 1)) = D1.flatMap (wkE v.S (h + 1)) ++ (wkE v.S (h + 1) d ++ D2.flatMap (wkE v.S (h + 1))) := by
   conv => lhs; rw [hsp]
   rw [List.flatMap_append, List.flatMap_cons]
  have hPs : N.D.flatMap (pgN v.S (h + 1)) = D1.flatMap (pgN v.S (h + 1)) ++ (pgN v.S (h + 1) d ++ D2.flatMap (pgN v.S (h + 1))) := by
   conv => lhs; rw [hsp]
   rw [List.flatMap_append, List.flatMap_cons]
  have hins : insE (N.D.flatMap (wkE v.S (h + 1))) x = D1.flatMap (wkE v.S (h + 1)) ++ (insE (wkE v.S (h + 1) d) x ++ D2.flatMap (wkE v.S (h + 1))) := by
   rw [hEs]; exact insE_app hA hC
  rw [hins] at ho ⊢
  obtain ⟨Rd, hRd⟩ : ∃ Rd, Rd = D1.flatMap (pgN v.S (h + 1)) ++ (D2.flatMap (pgN v.S (h + 1)) ++ R) := ⟨_, rfl⟩
  have hU1 : (N.D.flatMap (pgN v.S (h + 1)) ++ R).Perm (pgN v.S (h + 1) d ++ Rd) := by
   rw [hPs, hRd, aAs, aAs]
   exact perm3 _ _ _
  have hfr1 : ∀ n, Fre k U O n → Fre k (N.D.flatMap (pgN v.S (h + 1)) ++ R) O n := fun n hn => hn.sub (fun i hi => hU.mem_iff.2 (mCm _ hi))
  have ih := in_spec (x := x) hmu h (mu (h + 1)) v1 d _ Rd (hmu h) hv1 (by rw [e2]; exact g7 d hdm) (by rw [e2]; exact hU1) (by rw [e2]; exact insE_ord_sub ho)
  rw [e2] at ih
  rcases ih with ih | ⟨h5, hn⟩
  ·obtain ⟨V, hV⟩ : ∃ V, V = inN (h + 1) v1 d x := ⟨_, rfl⟩
   rw [← hV] at ih hin
   rw [if_pos ih.e] at hin
   obtain ⟨U2, hv2, hU2, hfr2⟩ := ih.vg
   have hov : ordE (entsX V.1.S h V.2.1) := by rw [ih.ents]; exact insE_ord_sub ho
   rcases un_spec V.2.1 V.1 U2 Rd hv2 hU2 (fun y hy => ih.ok y hy) hov with ⟨v3, D', U3, e3, hv3, hU3, hsm3, hl3, hg3, he3, hk3, hW3, hfr3⟩ | ⟨h5, hn⟩
   ·have hun : unN (decide (h = 0)) V.1 V.2.1 = (v3, ⟨[], V.2.1.map (least3 (decide (h = 0))), D'⟩, 0) := by
     rw [unN, e3]; simp only [if_true]
    rw [rpN, hun, if_pos rfl] at hin
    simp only at hin
    have hsR : same v.S v3.S (Rd ++ O) := ih.sm.trans (hsm3.sub (fun b hb => by
     rcases List.mem_append.1 hb with c | c
     ·exact mAl _ (hU2.mem_iff.2 (mAr _ c))
     ·exact mAr _ c))
    have hts : ∀ z, (z ∈ D1 ∨ z ∈ D2) → tkG v3.S k mu (h + 1) (mu (h + 1)) z ∧ wkE v3.S (h + 1) z = wkE v.S (h + 1) z ∧ pgN v3.S (h + 1) z = pgN v.S (h + 1) z := by
     intro z hz
     refine tk_same (h + 1) (mu (h + 1)) z (g7 z (hz.elim (hm1 z) (hm2 z))) (hsR.sub (fun b hb => ?_))
     rw [hRd]
     rcases hz with hz | hz
     ·exact mAl _ (mAl _ (List.mem_flatMap.2 ⟨z, hz, hb⟩))
     ·exact mAl _ (mAr _ (mAl _ (List.mem_flatMap.2 ⟨z, hz, hb⟩)))
    have hf1 : D1.flatMap (wkE v3.S (h + 1)) = D1.flatMap (wkE v.S (h + 1)) := flat_congr (fun z hz => (hts z (.inl hz)).2.1)
    have hf2 : D2.flatMap (wkE v3.S (h + 1)) = D2.flatMap (wkE v.S (h + 1)) := flat_congr (fun z hz => (hts z (.inr hz)).2.1)
    have hp1 : D1.flatMap (pgN v3.S (h + 1)) = D1.flatMap (pgN v.S (h + 1)) := flat_congr (fun z hz => (hts z (.inl hz)).2.2)
    have hp3 : D2.flatMap (pgN v3.S (h + 1)) = D2.flatMap (pgN v.S (h + 1)) := flat_congr (fun z hz => (hts z (.inr hz)).2.2)
    have hh1 : D1.map (headK v3.S (h + 1)) = D1.map (headK v.S (h + 1)) := List.map_congr_left (fun z hz => by rw [headK, headK, (hts z (.inl hz)).2.1])
    have hh2 : D2.map (headK v3.S (h + 1)) = D2.map (headK v.S (h + 1)) := List.map_congr_left (fun z hz => by rw [headK, headK, (hts z (.inr hz)).2.1])
    rw [← hD1, ← hD2, hE'] at hin
    have hKt : N.K.take q = D1.map (headK v3.S (h + 1)) := by rw [hh1, g8, hD1, List.map_take]
    have hKd : N.K.drop (q + 1) = D2.map (headK v3.S (h + 1)) := by rw [hh2, g8, hD2, List.map_drop]
    rw [hKt, hKd, ← hk3] at hin
    obtain ⟨Z, hZ⟩ : ∃ Z : ND3, Z = ⟨[], D1.map (headK v3.S (h + 1)) ++ D'.map (headK v3.S (h + 1)) ++ D2.map (headK v3.S (h + 1)), D1 ++ D' ++ D2⟩ := ⟨_, rfl⟩
    rw [← hZ] at hin
    have hZD : Z.D = D1 ++ D' ++ D2 := by rw [hZ]
    have hZl : Z.D.length = N.D.length - 1 + V.2.1.length := by
     rw [hZD, lAp, lAp, hl3, hD1l, hD2l]; omega
    have hlen := ih.len
    have hgZ : okX v3.S k mu (h + 1) Z := by
     refine ⟨?_, ?_, ?_, ?_⟩
     ·rw [hd1]
      refine ⟨by rw [hZ], ?_⟩
      rw [hZ]
      simp only [lAp, List.length_map]
     ·rw [hd1, szN_false, hZl]; omega
     ·intro z hz
      rw [hZD] at hz
      rcases List.mem_append.1 hz with hz | hz
      ·rcases List.mem_append.1 hz with hz | hz
       ·exact (hts z (.inl hz)).1
       ·exact hg3 z hz
      ·exact (hts z (.inr hz)).1
     ·rw [hZ]
      simp only [List.map_append]
    have hpZ : pagX v3.S (h + 1) Z = D1.flatMap (pgN v.S (h + 1)) ++ (D'.flatMap (pgN v3.S (h + 1)) ++ D2.flatMap (pgN v.S (h + 1))) := by
     rw [pagX, hZD, List.flatMap_append, List.flatMap_append, hp1, hp3, aAs]
    have heZ : entX v3.S (h + 1) Z = D1.flatMap (wkE v.S (h + 1)) ++ (insE (wkE v.S (h + 1) d) x ++ D2.flatMap (wkE v.S (h + 1))) := by
     have hZE : Z.E = [] := by rw [hZ]
     rw [entX, hZE, nAp, hZD, List.flatMap_append, List.flatMap_append, hf1, hf2, he3, ih.ents, aAs]
    have hUZ : U3.Perm (pagX v3.S (h + 1) Z ++ R) := by
     refine hU3.trans ?_
     rw [hpZ, hRd, aAs, aAs]
     exact perm3 _ _ _
    have hWi := ih.W
    have hr := InR.split (m := m) (S0 := v.S) (U := U) (R := R) hv3 hUZ (fun n hn => hfr3 n (hfr2 _ (hfr1 _ (hn.le (by omega))))) (hsR.sub (fun b hb => by
     rcases List.mem_append.1 hb with c | c
     ·rw [hRd]; exact mAl _ (mAr _ (mAr _ c))
     ·exact mAr _ c)) hgZ (by rw [hd1, szN_false, hZl]; show _ ≤ 2 * 16; omega) (by rw [hd1, szN_false, hZl]; omega) hml (by omega)
    rw [heZ] at hr
    rw [hin]
    exact .inl hr
   ·refine .inr ⟨?_, fun c => hn ((hfr2 2 (hfr1 _ (c.le (by omega)))).le ih.len.2)⟩
    have hu5 : (unN (decide (h = 0)) V.1 V.2.1).2.2 = 5 := h5
    rw [hin, rpN, if_neg (by rw [hu5]; decide)]
    exact hu5
  ·refine .inr ⟨?_, fun c => hn (hfr1 _ (c.le (by omega)))⟩
   rw [hin, if_neg (by rw [h5]; decide)]
   exact h5
def v0 (k : Nat) : VS := ⟨DS.new k, 1, newM k, newM k⟩
def rmin (h : Nat) : Nat := if h = 1 then 1 else 2
structure TI (k : Nat) (mu : Nat → Nat) (O R : List Nat) (v : VS) (a : Int) (h : Nat) (E : List ENT) : Prop where
 vg : VG k (pgN v.S h a ++ R) O v
 g : h = 0 ∨ tkG v.S k mu h (rmin h) a
 ents : wkE v.S h a = E
 ord : ordE E
 h5 : h ≤ 5
theorem sg_spec {k : Nat} {mu : Nat → Nat} {O U R : List Nat} {h : Nat} {v : VS} {y : ND3} (hv : VG k U O v) (hU : U.Perm (pagX v.S h y ++ R)) (g : okX v.S k mu h y) (hm : rmin (h + 1) ≤ szN (decide (h = 0)) y) (hM : szN (decide (h = 0)) y ≤ mostN (decide (h = 0))) (ho : ordE (entX v.S h y)) (h5 : h + 1 ≤ 5) :
  sgG (decide (h = 0)) v [y] (h + 1) ∧ ((∃ v' t, sgN (decide (h = 0)) v [y] (h + 1) = (v', (((t : Nat) : Int), h + 1), 0) ∧ TI k mu O R v' (t : Int) (h + 1) (entX v.S h y) ∧ v'.S.W.length ≤ v.S.W.length + 4 ∧ same v.S v'.S (R ++ O))
   ∨ ((sgN (decide (h = 0)) v [y] (h + 1)).2.2 = 5 ∧ ¬ Fre k U O 1)) := by
 have hy0 : ([y] : List ND3).getD 0 nd0 = y := rfl
 have hno : ¬ (decide (h = 0) = false ∧ szN (decide (h = 0)) y = 1) := fun c => by
  have h0 : h ≠ 0 := of_decide_eq_false c.1
  rw [rmin, if_neg (by omega)] at hm
  omega
 have hs1 := g.2.1
 refine ⟨⟨Nat.le_refl _, fun c1 c2 => by rw [hy0] at c2; exact absurd ⟨c1, c2⟩ hno⟩, ?_⟩
 have e : sgN (decide (h = 0)) v [y] (h + 1) = ((wrN v (decide (h = 0)) y).1, ((wrN v (decide (h = 0)) y).2.1, h + 1), (wrN v (decide (h = 0)) y).2.2) := by
  rw [sgN, hy0, if_neg (fun c => c.elim (fun q => by cases q) (by omega)), if_neg hno]
 rw [e]
 have hnd := (List.nodup_append.1 (hU.nodup_iff.1 hv.m.nodup)).1
 obtain ⟨hr, hrE, hrK⟩ := nodeRight_of g hv.k8.2 hM ho hnd
 rcases hv.wr hr hrE hrK with ⟨t, v1, e1, hv1, ht, htU, htO, hrd, hW1, hag⟩ | ⟨e5, _, hn⟩
 ·rw [e1]
  have hsm : same v.S v1.S (U ++ O) := hv.same_of ht htU htO hag
  obtain ⟨w1, w2, w3⟩ := tk_written (m := rmin (h + 1)) g (hsm.sub (fun p hp => mAl _ (hU.mem_iff.2 (mAl _ hp)))) hrd ht hm hM
  refine .inl ⟨v1, t, rfl, ⟨?_, .inr w1, w2, ho, h5⟩, hW1, hsm.sub (fun p hp => ?_)⟩
  ·rw [w3]
   exact hv1.perm (List.Perm.cons t hU)
  ·rcases List.mem_append.1 hp with q | q
   ·exact mAl _ (hU.mem_iff.2 (mAr _ q))
   ·exact mAr _ q
 ·exact .inr ⟨e5, hn⟩
theorem ro_one (leaf : Bool) (v : VS) (xs : List ND3) (h : Nat) : roN 1 leaf v xs h = if 1 < xs.length then (if (unN leaf v xs).2.2 = 0 then roN 0 false (unN leaf v xs).1 (splitN false (unN leaf v xs).2.1) (h + 1) else ((unN leaf v xs).1, (0, 0), (unN leaf v xs).2.2)) else if 5 < h then (v, (0, 0), 5) else sgN leaf v xs h := rfl
theorem ro_spec {k : Nat} {mu : Nat → Nat} {O U R : List Nat} {h : Nat} {v : VS} {xs : List ND3} (hmu : mu (h + 1) ≤ limN h) (hv : VG k U O v) (hU : U.Perm (pagsX v.S h xs ++ R)) (hok : ∀ z ∈ xs, okX v.S k mu h z ∧ rmin (h + 1) ≤ szN (decide (h = 0)) z ∧ szN (decide (h = 0)) z ≤ mostN (decide (h = 0)))
  (ho : ordE (entsX v.S h xs)) (hl : 1 ≤ xs.length ∧ xs.length ≤ 2) (h2 : xs.length = 2 → ∀ z ∈ xs, limN h ≤ szN (decide (h = 0)) z) (h5 : h + 1 ≤ 5) :
  roG 1 (decide (h = 0)) v xs (h + 1) ∧ ((∃ v' t H, roN 1 (decide (h = 0)) v xs (h + 1) = (v', (((t : Nat) : Int), H), 0) ∧ TI k mu O R v' (t : Int) H (entsX v.S h xs) ∧ v'.S.W.length ≤ v.S.W.length + 12 ∧ same v.S v'.S (R ++ O) ∧ 1 ≤ H)
   ∨ ((roN 1 (decide (h = 0)) v xs (h + 1)).2.2 = 5 ∧ (¬ Fre k U O 3 ∨ h = 4))) := by
 have hsmR : ∀ {S S' : DS}, same S S' (U ++ O) → same S S' (R ++ O) := fun s => s.sub (fun p hp => by
  rcases List.mem_append.1 hp with q | q
  ·exact mAl _ (hU.mem_iff.2 (mAr _ q))
  ·exact mAr _ q)
 by_cases hl1 : xs.length = 1
 ·obtain ⟨y, rfl⟩ : ∃ y, xs = [y] := ⟨xs[0]'(by omega), List.ext_getElem (by simp [hl1]) (fun i p q => by simp at q; subst q; rfl)⟩
  obtain ⟨g1, g2, g3⟩ := hok y (List.mem_singleton.2 rfl)
  have hp1 : pagsX v.S h [y] = pagX v.S h y := by simp [pagsX]
  have he1 : entsX v.S h [y] = entX v.S h y := by simp [entsX]
  rw [hp1] at hU
  rw [he1] at ho ⊢
  obtain ⟨sG, hsg⟩ := sg_spec hv hU g1 g2 g3 ho h5
  refine ⟨⟨fun c => absurd c (by show ¬ 1 < 1; decide), fun _ _ => sG⟩, ?_⟩
  rw [roN_fin (by show 1 ≤ 1; decide), if_neg (by omega)]
  rcases hsg with ⟨v', t, e, ti, hW, hsm⟩ | ⟨e5, hn⟩
  ·exact .inl ⟨v', t, h + 1, e, ti, by omega, hsm, by omega⟩
  ·exact .inr ⟨e5, .inl (fun c => hn (c.le (by decide)))⟩
 ·have hl2 : xs.length = 2 := by omega
  have hxm : ∀ z ∈ xs, okX v.S k mu h z ∧ mu (h + 1) ≤ szN (decide (h = 0)) z ∧ szN (decide (h = 0)) z ≤ mostN (decide (h = 0)) := fun z hz => ⟨(hok z hz).1, Nat.le_trans hmu (h2 hl2 z hz), (hok z hz).2.2⟩
  rcases un_spec xs v U R hv hU hxm ho with ⟨v1, D, U', e1, hv1, hU1, hsm1, hDl, hDg, hDe, hDk, hW1, hfr1⟩ | ⟨e5, hn⟩
  ·have hun : unN (decide (h = 0)) v xs = (v1, ⟨[], xs.map (least3 (decide (h = 0))), D⟩, 0) := by
    rw [unN, e1]; simp only [if_true]
   obtain ⟨X, hX⟩ : ∃ X : ND3, X = ⟨[], xs.map (least3 (decide (h = 0))), D⟩ := ⟨_, rfl⟩
   rw [← hX] at hun
   have hXD : X.D = D := by rw [hX]
   have hd1 : decide (h + 1 = 0) = false := rfl
   have hXs : szN false X = 2 := by rw [szN_false, hXD, hDl, hl2]
   have hgX : okX v1.S k mu (h + 1) X := by
    refine ⟨?_, ?_, ?_, ?_⟩
    ·rw [hd1]
     refine ⟨by rw [hX], ?_⟩
     rw [hX]
     simp only [List.length_map]
     exact hDl.symm
    ·rw [hd1, hXs]; decide
    ·intro z hz
     rw [hXD] at hz
     exact hDg z hz
    ·rw [hX]
     exact hDk.symm
   have hsp : splitN false X = [X] := by
    rcases split_two (leaf := false) (y := X) hgX.1 (by rw [hXs]; decide) (by rw [hXs]; decide) with ⟨_, c⟩ | ⟨c, _⟩
    ·exact c
    ·rw [hXs] at c; exact absurd c (by decide)
   have hpX : pagX v1.S (h + 1) X = D.flatMap (pgN v1.S (h + 1)) := by rw [pagX, hXD]
   have heX : entX v1.S (h + 1) X = entsX v.S h xs := by
    have hXE : X.E = [] := by rw [hX]
    rw [entX, hXE, nAp, hXD, hDe]
   have hro : roN 1 (decide (h = 0)) v xs (h + 1) = roN 0 false v1 [X] (h + 2) := by
    rw [ro_one, if_pos (by omega), hun, if_pos rfl]
    simp only [hsp]
   have hsg : h + 2 ≤ 5 → _ := fun q => sg_spec (R := R) (h := h + 1) hv1 (by rw [hpX]; exact hU1) hgX (by rw [hd1, hXs]; show rmin (h + 2) ≤ 2; rw [rmin, if_neg (by omega)]; exact Nat.le_refl _) (by rw [hd1, hXs]; decide) (by rw [heX]; exact ho) q
   have hG0 : roG 0 false v1 [X] (h + 2) := ⟨by show 1 ≤ 1; decide, fun q => (hsg q).1⟩
   refine ⟨⟨fun _ _ => by rw [hun]; simp only [hsp]; exact hG0, fun c => by omega⟩, ?_⟩
   rw [hro, roN]
   by_cases hb : 5 < h + 2
   ·rw [if_pos hb]
    exact .inr ⟨rfl, .inr (by omega)⟩
   ·rw [if_neg hb]
    rcases (hsg (by omega)).2 with ⟨v', t, e, ti, hW, hsm⟩ | ⟨e5, hn⟩
    ·rw [heX] at ti
     refine .inl ⟨v', t, h + 2, e, ti, by rw [hl2] at hW1; omega, (hsmR hsm1).trans hsm, by omega⟩
    ·exact .inr ⟨e5, .inl (fun c => hn (hfr1 1 (by rw [hl2]; exact c)))⟩
  ·have hu5 : (unN (decide (h = 0)) v xs).2.2 = 5 := e5
   refine ⟨⟨fun _ c => by rw [hu5] at c; exact absurd c (by decide), fun c => by omega⟩, .inr ⟨?_, .inl (fun c => hn (by rw [hl2]; exact c.le (by decide)))⟩⟩
   rw [ro_one, if_pos (by omega), if_neg (by rw [hu5]; decide)]
   exact hu5
theorem lessK_tot {a b : KEY} (h : lessK a b = false) (hn : a ≠ b) : lessK b a = true := by
 unfold lessK at h ⊢
 have : ¬ (a.1 = b.1 ∧ a.2 = b.2) := fun c => hn (Prod.ext c.1 c.2)
 rw [Bool.or_eq_false_iff, decide_eq_false_iff_not] at h
 obtain ⟨h1, h2⟩ := h
 rw [Bool.and_eq_false_iff, decide_eq_false_iff_not, decide_eq_false_iff_not] at h2
 by_cases e : a.1 = b.1
 ·have e2 : ¬ a.2 = b.2 := fun c => this ⟨e, c⟩
  have h3 : ¬ a.2 < b.2 := h2.elim (fun q => absurd e q) id
  rw [dTt e.symm, dTt (show b.2 < a.2 by omega)]; simp
 ·rw [dTt (show b.1 < a.1 by omega)]; simp
theorem ent_span {e : ENT} (h : entOk e = true) : e.key.2 ≤ e.fin := by
 simp only [entOk, Bool.and_eq_true, decide_eq_true_eq] at h
 exact h.1.1.1.1.1.2
theorem after_of {a x : ENT} (hl : lessK a.key x.key = true) (ha : entOk a = true) (hx : entOk x = true) (hm : meetsE x a = false) : afterE a x = true := by
 have s1 := ent_span ha
 have s2 := ent_span hx
 rw [afterE, hl, Bool.true_and, Bool.not_eq_true', Bool.and_eq_false_iff, decide_eq_false_iff_not, decide_eq_false_iff_not]
 by_cases e : a.key.1 = x.key.1
 ·right
  intro c
  unfold lessK at hl
  rw [Bool.or_eq_true, decide_eq_true_eq, Bool.and_eq_true, decide_eq_true_eq, decide_eq_true_eq] at hl
  have h2 : a.key.2 < x.key.2 := hl.elim (fun q => by omega) (fun q => q.2)
  have : meetsE x a = true := by
   rw [meetsE, dTt e.symm, dTt c, dTt (show a.key.2 ≤ x.fin by omega)]; rfl
  rw [this] at hm; cases hm
 ·exact .inl e
theorem after_of' {a x : ENT} (hl : lessK x.key a.key = true) (ha : entOk a = true) (hx : entOk x = true) (hm : meetsE x a = false) : afterE x a = true := by
 have s1 := ent_span ha
 have s2 := ent_span hx
 rw [afterE, hl, Bool.true_and, Bool.not_eq_true', Bool.and_eq_false_iff, decide_eq_false_iff_not, decide_eq_false_iff_not]
 by_cases e : x.key.1 = a.key.1
 ·right
  intro c
  unfold lessK at hl
  rw [Bool.or_eq_true, decide_eq_true_eq, Bool.and_eq_true, decide_eq_true_eq, decide_eq_true_eq] at hl
  have h2 : x.key.2 < a.key.2 := hl.elim (fun q => by omega) (fun q => q.2)
  have : meetsE x a = true := by
   rw [meetsE, dTt e, dTt (show x.key.2 ≤ a.fin by omega), dTt c]; rfl
  rw [this] at hm; cases hm
 ·exact .inl e
theorem chk_spec {E : List ENT} {x : ENT} (h : chkE E x = 0) : (∀ y ∈ E, y.key ≠ x.key) ∧ ∀ y ∈ E, meetsE x y = false := by
 rw [chkE] at h
 split at h
 ·cases h
 ·rename_i h1
  split at h
  ·cases h
  ·rename_i h2
   rw [Bool.not_eq_true, List.any_eq_false] at h1 h2
   exact ⟨fun y hy c => h1 y hy (dTt c), fun y hy => by
    have := h2 y hy
    cases hm : meetsE x y with
    | true => exact absurd hm this
    | false => rfl⟩
theorem ins_ord {E : List ENT} {x : ENT} (h : ordE E) (hx : entOk x = true) (hR : entR x) (hc : chkE E x = 0) : ordE (insE E x) := by
 obtain ⟨hk, hm⟩ := chk_spec hc
 have e : E.takeWhile (fun y => !lessK x.key y.key) ++ E.dropWhile (fun y => !lessK x.key y.key) = E := List.takeWhile_append_dropWhile
 obtain ⟨A, hA⟩ : ∃ A, A = E.takeWhile (fun y => !lessK x.key y.key) := ⟨_, rfl⟩
 obtain ⟨B, hB⟩ : ∃ B, B = E.dropWhile (fun y => !lessK x.key y.key) := ⟨_, rfl⟩
 rw [insE, ← hA, ← hB]
 rw [← hA, ← hB] at e
 have hAl : ∀ a ∈ A, lessK x.key a.key = false := fun a ha => by
  rw [hA] at ha
  have : ∀ (l : List ENT), a ∈ l.takeWhile (fun y => !lessK x.key y.key) → (!lessK x.key a.key) = true := by
   intro l
   induction l with
   | nil => intro q; cases q
   | cons b l ih =>
    intro q
    rw [List.takeWhile_cons] at q
    split at q
    ·rename_i hb
     rcases List.mem_cons.1 q with rfl | q
     ·exact hb
     ·exact ih q
    ·cases q
  have := this E ha
  cases hl : lessK x.key a.key with
  | false => rfl
  | true => rw [hl] at this; cases this
 have hBl : ∀ b ∈ B, lessK x.key b.key = true := by
  have hp := h.1
  rw [← e, List.pairwise_append] at hp
  have hp2 := hp.2.1
  cases hBc : B with
  | nil => intro b hb; cases hb
  | cons b0 B' =>
   have h0 : lessK x.key b0.key = true := by
    have hd : ∀ (l : List ENT), l.dropWhile (fun y => !lessK x.key y.key) = b0 :: B' → (!lessK x.key b0.key) = false := by
     intro l
     induction l with
     | nil => intro q; cases q
     | cons b l ih =>
      intro q
      rw [List.dropWhile_cons] at q
      split at q
      ·exact ih q
      ·rename_i hb
       injection q with q1 q2
       rw [← q1]
       exact Bool.eq_false_iff.2 hb
    have := hd E (hB.symm.trans hBc)
    cases hl : lessK x.key b0.key with
    | true => rfl
    | false => rw [hl] at this; cases this
   rw [hBc, List.pairwise_cons] at hp2
   intro b hb
   rcases List.mem_cons.1 hb with rfl | hb
   ·exact h0
   ·exact lessK_trans h0 (after_less (hp2.1 b hb))
 have hAE : ∀ a ∈ A, a ∈ E := fun a ha => by rw [← e]; exact mAl _ ha
 have hBE : ∀ b ∈ B, b ∈ E := fun b hb => by rw [← e]; exact mAr _ hb
 have hp := h.1
 rw [← e, List.pairwise_append] at hp
 refine ⟨?_, fun z hz => ?_⟩
 ·rw [List.pairwise_append]
  refine ⟨hp.1, List.pairwise_cons.2 ⟨fun b hb => after_of' (hBl b hb) (h.2 b (hBE b hb)).1 hx (hm b (hBE b hb)), hp.2.1⟩, fun a ha b hb => ?_⟩
  rcases List.mem_cons.1 hb with rfl | hb
  ·exact after_of (lessK_tot (hAl a ha) (fun c => hk a (hAE a ha) c.symm)) (h.2 a (hAE a ha)).1 hx (hm a (hAE a ha))
  ·exact hp.2.2 a ha b hb
 ·rcases List.mem_append.1 hz with hz | hz
  ·exact h.2 z (hAE z hz)
  ·rcases List.mem_cons.1 hz with rfl | hz
   ·exact ⟨hx, hR⟩
   ·exact h.2 z (hBE z hz)
theorem tk_wkG {S : DS} {k : Nat} {mu : Nat → Nat} (hk : k ≤ 512) : ∀ (h m : Nat) (a : Int), tkG S k mu h m a → wkG S h a
 | 0, _, _, g => g.elim
 | h + 1, m, a, g => by
  obtain ⟨⟨p, hp, hp2⟩, g1, g2, g3, ⟨g4, g5, g6⟩, g7, g8⟩ := g
  refine ⟨by omega, g1, ?_, ?_, fun d hd => tk_wkG hk h (mu h) d (g7 d hd)⟩
  ·by_cases h0 : h = 0
   ·rw [dTt h0] at g6 ⊢
    have : (rdN S a true).E.length ≤ 7 := g6
    omega
   ·rw [dFf h0] at g3 ⊢
    have : (rdN S a false).E = [] := g3.1
    rw [this]; exact Nat.zero_le _
  ·by_cases h0 : h = 0
   ·rw [dTt h0] at g3 ⊢
    have : (rdN S a true).D = [] := g3.2
    rw [this]; exact Nat.zero_le _
   ·rw [dFf h0] at g6 ⊢
    have : (rdN S a false).D.length ≤ 16 := g6
    omega
theorem tk_len {S : DS} {k : Nat} {mu : Nat → Nat} : ∀ (h m : Nat) (a : Int), tkG S k mu h m a → (wkE S h a).length ≤ 7 * (pgN S h a).length
 | 0, _, _, g => g.elim
 | h + 1, m, a, g => by
  obtain ⟨_, g1, g2, g3, ⟨g4, g5, g6⟩, g7, g8⟩ := g
  have hs : ∀ D : List Int, (∀ d ∈ D, tkG S k mu h (mu h) d) → (D.flatMap (wkE S h)).length ≤ 7 * (D.flatMap (pgN S h)).length := by
   intro D
   induction D with
   | nil => intro _; exact Nat.zero_le _
   | cons d D ih =>
    intro hd
    have h1 := tk_len h (mu h) d (hd d (List.mem_cons_self ..))
    have h2 := ih (fun z hz => hd z (mCm _ hz))
    rw [List.flatMap_cons, List.flatMap_cons, lAp, lAp]; omega
  have h1 := hs _ g7
  have h2 : (rdN S a (decide (h = 0))).E.length ≤ 7 := by
   by_cases h0 : h = 0
   ·rw [dTt h0] at g6 ⊢; exact g6
   ·rw [dFf h0] at g3 ⊢
    have : (rdN S a false).E = [] := g3.1
    rw [this]; exact Nat.zero_le _
  rw [wkE, pgN, lAp, lCn]; omega
theorem ents_entR {S : DS} {h : Nat} {xs : List ND3} (ho : ordE (entsX S h xs)) : ∀ y ∈ xs, ∀ e ∈ y.E, entR e := fun y hy e he =>
 (ho.2 e (List.mem_flatMap.2 ⟨y, hy, by rw [entX]; exact mAl _ he⟩)).2
theorem in_G {k : Nat} {mu : Nat → Nat} {O : List Nat} {x : ENT} (hmu : ∀ h, mu (h + 1) ≤ limN h) : ∀ (h m : Nat) (v : VS) (a : Int) (U R : List Nat), VG k U O v → tkG v.S k mu (h + 1) m a → U.Perm (pgN v.S (h + 1) a ++ R) → ordE (insE (wkE v.S (h + 1) a) x) →
  v.S.W.length + 8 * h ≤ 700000 → inG (h + 1) v a x
 | 0, m, v, a, U, R, hv, g, hU, ho, hW => by
  have hk512 := hv.k8.2
  have hwg := tk_wkG hv.k8.2 (0 + 1) m a g
  obtain ⟨⟨p, hp, hp2⟩, g1, g2, g3, ⟨g4, g5, g6⟩, g7, g8⟩ := g
  have hd1 : decide ((0 : Nat) = 0) = true := rfl
  obtain ⟨hK, hD⟩ := id g3
  rw [hd1] at g1
  have hD' : (rdN v.S a true).D = [] := hD
  have hwk : wkE v.S (0 + 1) a = (rdN v.S a true).E := by
   show (rdN v.S a true).E ++ (rdN v.S a true).D.flatMap _ = _
   rw [hD', List.flatMap_nil, List.append_nil]
  have hpg : pgN v.S (0 + 1) a = [p] := by
   show a.toNat :: (rdN v.S a true).D.flatMap _ = [p]
   rw [hD', hp]; rfl
  rw [hpg] at hU
  have hU : U.Perm (p :: R) := hU
  obtain ⟨v', e1, e2, hv'⟩ := (hv.perm hU).give
  rw [← hp] at e1
  refine ⟨⟨by omega, by omega, g1, g2, g3, hwg.2.2.1, hwg.2.2.2.1, by rw [e1]⟩, fun c => absurd rfl c⟩
 | h + 1, m, v, a, U, R, hv, g, hU, ho, hW => by
  have hk512 := hv.k8.2
  have hwg := tk_wkG hv.k8.2 (h + 1 + 1) m a g
  obtain ⟨⟨p, hp, hp2⟩, g1, g2, g3, ⟨g4, g5, g6⟩, g7, g8⟩ := g
  have g3' := g3
  have g2' := g2
  have hd1 : decide (h + 1 = 0) = false := rfl
  rw [hd1] at g1 g3 g4 g5 g6 g7 g8
  obtain ⟨hE, hKD⟩ := g3
  obtain ⟨N, hN⟩ : ∃ N, N = rdN v.S a false := ⟨_, rfl⟩
  have hpg : pgN v.S (h + 1 + 1) a = p :: N.D.flatMap (pgN v.S (h + 1)) := by
   show a.toNat :: (rdN v.S a false).D.flatMap _ = _
   rw [hN, hp]; rfl
  have hE' : (rdN v.S a false).E = [] := hE
  have hwk : wkE v.S (h + 1 + 1) a = N.D.flatMap (wkE v.S (h + 1)) := by
   show (rdN v.S a false).E ++ (rdN v.S a false).D.flatMap _ = _
   rw [hE', hN, nAp]
  rw [hpg] at hU
  have hU : U.Perm (p :: (N.D.flatMap (pgN v.S (h + 1)) ++ R)) := hU
  obtain ⟨v1, e1, e2, hv1⟩ := (hv.perm hU).give
  rw [← hp] at e1
  rw [hwk] at ho
  have g7' := g7
  have g8' := g8
  have g4' := g4
  rw [← hN] at g7' g8' g4'
  have hDl : 0 < N.D.length := g4'
  obtain ⟨d, hsp, hdq, hql, hA, hC⟩ := child_sides (x := x) g7' g8' hDl (ho.sub (insE_sub _ _))
  obtain ⟨q, hq⟩ : ∃ q, q = childN N.K x.key := ⟨_, rfl⟩
  rw [← hq] at hsp hdq hql hA hC
  obtain ⟨D1, hD1⟩ : ∃ D1, D1 = N.D.take q := ⟨_, rfl⟩
  obtain ⟨D2, hD2⟩ : ∃ D2, D2 = N.D.drop (q + 1) := ⟨_, rfl⟩
  rw [← hD1, ← hD2] at hsp
  rw [← hD1] at hA
  rw [← hD2] at hC
  have hdm : d ∈ N.D := by rw [hsp]; exact mAr _ (List.mem_cons_self ..)
  have hm2 : ∀ z ∈ D2, z ∈ N.D := fun z hz => by rw [hsp]; exact mAr _ (mCm _ hz)
  have hEs : N.D.flatMap (wkE v.S (h + 1)) = D1.flatMap (wkE v.S (h + 1)) ++ (wkE v.S (h + 1) d ++ D2.flatMap (wkE v.S (h + 1))) := by
   conv => lhs; rw [hsp]
   rw [List.flatMap_append, List.flatMap_cons]
  have hPs : N.D.flatMap (pgN v.S (h + 1)) = D1.flatMap (pgN v.S (h + 1)) ++ (pgN v.S (h + 1) d ++ D2.flatMap (pgN v.S (h + 1))) := by
   conv => lhs; rw [hsp]
   rw [List.flatMap_append, List.flatMap_cons]
  rw [hEs, insE_app hA hC] at ho
  obtain ⟨Rd, hRd⟩ : ∃ Rd, Rd = D1.flatMap (pgN v.S (h + 1)) ++ (D2.flatMap (pgN v.S (h + 1)) ++ R) := ⟨_, rfl⟩
  have hU1 : (N.D.flatMap (pgN v.S (h + 1)) ++ R).Perm (pgN v.S (h + 1) d ++ Rd) := by
   rw [hPs, hRd, aAs, aAs]
   exact perm3 _ _ _
  have ih := in_G (x := x) hmu h (mu (h + 1)) v1 d _ Rd hv1 (by rw [e2]; exact g7' d hdm) (by rw [e2]; exact hU1) (by rw [e2]; exact insE_ord_sub ho) (by rw [e2]; omega)
  have isp := in_spec (x := x) hmu h (mu (h + 1)) v1 d _ Rd (hmu h) hv1 (by rw [e2]; exact g7' d hdm) (by rw [e2]; exact hU1) (by rw [e2]; exact insE_ord_sub ho)
  have iok := inN_ok (h + 1) d x hv1.ok
  refine ⟨⟨by omega, by omega, g1, g2', g3', hwg.2.2.1, hwg.2.2.2.1, by rw [e1]⟩, fun _ => ?_⟩
  rw [← hN, ← hq, hdq, e1]
  dsimp only
  refine ⟨hql, ih, iok, fun hz => ?_⟩
  rcases isp with i | ⟨h5, _⟩
  ·have hw := i.W
   rw [e2] at hw
   refine ⟨by have := i.len; omega, by have := i.len; omega, by have := i.len; omega, ents_entR (S := (inN (h + 1) v1 d x).1.S) (h := h) (by rw [i.ents, e2]; exact insE_ord_sub ho)⟩
  ·have hz' : (inN (h + 1) v1 d x).2.2 = 0 := hz
   rw [h5] at hz'; cases hz'
theorem rmin_lim (g : Nat) : rmin (g + 1) ≤ limN g := by
 rw [rmin, limN]
 by_cases h : g = 0
 ·rw [if_pos (by omega), if_pos h]; decide
 ·rw [if_neg (by omega), if_neg h]; decide
theorem one_okX (S : DS) (k : Nat) (mu : Nat → Nat) (x : ENT) : okX S k mu 0 ⟨[x], [], []⟩ := ⟨⟨rfl, rfl⟩, Nat.le_refl 1, (fun d hd => by cases hd), rfl⟩
theorem first_spec {k : Nat} {mu : Nat → Nat} {O R : List Nat} {v : VS} {x : ENT} (hmu : ∀ h, mu (h + 1) ≤ limN h) (hv : VG k R O v) (ho : ordE [x]) :
  roG 1 true v [⟨[x], [], []⟩] 1 ∧ ((∃ v' t H, roN 1 true v [⟨[x], [], []⟩] 1 = (v', (((t : Nat) : Int), H), 0) ∧ TI k mu O R v' (t : Int) H [x] ∧ v'.S.W.length ≤ v.S.W.length + 12 ∧ same v.S v'.S (R ++ O) ∧ 1 ≤ H)
   ∨ ((roN 1 true v [⟨[x], [], []⟩] 1).2.2 = 5 ∧ ¬ Fre k R O 3)) := by
 have hd : decide ((0 : Nat) = 0) = true := rfl
 have hp : pagsX v.S 0 [⟨[x], [], []⟩] = [] := rfl
 have he : entsX v.S 0 [⟨[x], [], []⟩] = [x] := rfl
 have h := ro_spec (k := k) (mu := mu) (O := O) (U := R) (R := R) (h := 0) (v := v) (xs := [⟨[x], [], []⟩]) (hmu 0) hv (by rw [hp]; exact List.Perm.refl _) (fun z hz => by
  rw [List.mem_singleton.1 hz]
  exact ⟨one_okX v.S k mu x, by show rmin 1 ≤ 1; decide, by show 1 ≤ 7; decide⟩) (by rw [he]; exact ho) ⟨Nat.le_refl 1, by show 1 ≤ 2; decide⟩ (fun c => by cases c) (by decide)
 rw [hd, he] at h
 refine ⟨h.1, ?_⟩
 rcases h.2 with c | ⟨c1, c2⟩
 ·exact .inl c
 ·exact .inr ⟨c1, c2.elim id (fun q => by cases q)⟩
theorem i_spec {k : Nat} {mu : Nat → Nat} {O R : List Nat} {v : VS} {a : Int} {h : Nat} {E : List ENT} {x : ENT} (hmu : ∀ h, mu (h + 1) ≤ limN h) (ti : TI k mu O R v a h E) (hx : entOk x = true) (hR : entR x) (hc : chkE E x = 0) :
  (∃ v' t H, iN v a h x = (v', (((t : Nat) : Int), H), 0) ∧ TI k mu O R v' (t : Int) H (insE E x) ∧ v'.S.W.length ≤ v.S.W.length + 60 ∧ same v.S v'.S (R ++ O) ∧ 1 ≤ H)
  ∨ ((iN v a h x).2.2 = 5 ∧ (¬ Fre k (pgN v.S h a ++ R) O (2 * h + 3) ∨ h = 5)) := by
 have hio := ins_ord ti.ord hx hR hc
 have hv := ti.vg
 rw [iN, ti.ents, hc, if_neg (by decide)]
 cases h with
 | zero =>
  have hE : E = [] := ti.ents.symm
  subst hE
  have hins : insE [] x = [x] := rfl
  rw [hins] at hio ⊢
  rw [if_pos rfl]
  rcases (first_spec (mu := mu) hmu (O := O) (R := R) hv hio).2 with ⟨v', t, H, e, ti', hW, hsm, hH⟩ | ⟨e5, hn⟩
  ·exact .inl ⟨v', t, H, e, ti', by omega, hsm, hH⟩
  ·exact .inr ⟨e5, .inl hn⟩
 | succ g =>
  rw [if_neg (Nat.succ_ne_zero g)]
  have hdd : decide (g + 1 = 1) = decide (g = 0) := decide_eq_decide.2 (by omega)
  rw [hdd]
  have tg := ti.g.resolve_left (Nat.succ_ne_zero g)
  rcases in_spec (x := x) hmu g (rmin (g + 1)) v a _ R (rmin_lim g) hv tg (List.Perm.refl _) (by rw [ti.ents]; exact hio) with i | ⟨h5, hn⟩
  ·obtain ⟨V, hV⟩ : ∃ V, V = inN (g + 1) v a x := ⟨_, rfl⟩
   rw [← hV] at i ⊢
   rw [if_pos i.e]
   obtain ⟨U', hv', hU', hfr⟩ := i.vg
   have hr := ro_spec (hmu g) hv' hU' i.ok (by rw [i.ents, ti.ents]; exact hio) i.len i.two ti.h5
   rw [i.ents, ti.ents] at hr
   have hWi := i.W
   have h5 := ti.h5
   rcases hr.2 with ⟨v', t, H, e, ti', hW, hsm, hH⟩ | ⟨e5, hn⟩
   ·exact .inl ⟨v', t, H, e, ti', by omega, i.sm.trans hsm, hH⟩
   ·refine .inr ⟨e5, ?_⟩
    rcases hn with hn | hn
    ·exact .inl (fun c => hn (hfr 3 (c.le (by omega))))
    ·exact .inr (by omega)
  ·rw [if_neg (by rw [h5]; decide)]
   exact .inr ⟨h5, .inl (fun c => hn (c.le (by omega)))⟩
theorem iG_of {k : Nat} {mu : Nat → Nat} {O R : List Nat} {v : VS} {a : Int} {h : Nat} {E : List ENT} {x : ENT} (hmu : ∀ h, mu (h + 1) ≤ limN h) (ti : TI k mu O R v a h E) (hx : entOk x = true) (hR : entR x) (hW : v.S.W.length ≤ 600000) : iG v a h x := by
 have hv := ti.vg
 have h5 := ti.h5
 have hlen : (wkE v.S h a).length ≤ 100000 := by
  rcases ti.g with h0 | tg
  ·subst h0; exact Nat.zero_le _
  ·have h1 := tk_len h (rmin h) a tg
   have h2 := hv.m.free
   have h3 := hv.k8.2
   rw [lAp] at h2
   omega
 refine ⟨⟨h5, ti.g.imp id (fun tg => tk_wkG hv.k8.2 h (rmin h) a tg), hlen, by omega, hx, hR⟩, fun hc => ?_⟩
 rw [ti.ents] at hc
 have hio := ins_ord ti.ord hx hR hc
 cases h with
 | zero =>
  have hE : E = [] := ti.ents.symm
  subst hE
  exact ⟨fun _ => (first_spec (mu := mu) hmu (O := O) (R := R) hv hio).1, fun c => absurd rfl c⟩
 | succ g =>
  refine ⟨fun c => absurd c (Nat.succ_ne_zero g), fun _ => ?_⟩
  have hdd : decide (g + 1 = 1) = decide (g = 0) := decide_eq_decide.2 (by omega)
  rw [hdd]
  have tg := ti.g.resolve_left (Nat.succ_ne_zero g)
  refine ⟨in_G (x := x) hmu g (rmin (g + 1)) v a _ R hv tg (List.Perm.refl _) (by rw [ti.ents]; exact hio) (by omega), inN_ok (g + 1) a x hv.ok, fun hz => ?_⟩
  rcases in_spec (x := x) hmu g (rmin (g + 1)) v a _ R (rmin_lim g) hv tg (List.Perm.refl _) (by rw [ti.ents]; exact hio) with i | ⟨h5, hn⟩
  ·obtain ⟨U', hv', hU', hfr⟩ := i.vg
   have hoi : ordE (entsX (inN (g + 1) v a x).1.S g (inN (g + 1) v a x).2.1) := by rw [i.ents, ti.ents]; exact hio
   have hr := ro_spec (hmu g) hv' hU' i.ok hoi i.len i.two ti.h5
   have hWi := i.W
   have hl := i.len
   exact ⟨by omega, by omega, ents_entR hoi, hr.1⟩
  ·rw [h5] at hz; cases hz
def keepV (v v' : VS) : Prop := v'.gen = v.gen ∧ v'.old = v.old ∧ v'.S.A = v.S.A
theorem keepV.rfl {v : VS} : keepV v v := ⟨Eq.refl _, Eq.refl _, Eq.refl _⟩
theorem keepV.trans {v v' v'' : VS} (h : keepV v v') (h' : keepV v' v'') : keepV v v'' := ⟨h'.1.trans h.1, h'.2.1.trans h.2.1, h'.2.2.trans h.2.2⟩
theorem wrPg_A (S : DS) (q : PG) : (wrPg S q).1.A = S.A := by
 rw [wrPg]; split
 ·exact (DS.wrs_len _ _ _).2
 ·rfl
theorem wrN_keep (v : VS) (leaf : Bool) (x : ND3) : keepV v (wrN v leaf x).1 := by
 rw [wrN]; split
 ·exact keepV.rfl
 ·split
  ·exact keepV.rfl
  ·exact ⟨rfl, rfl, wrPg_A _ _⟩
theorem giN_keep (v : VS) (a : Int) : keepV v (giN v a).1 := by
 rw [giN]; split <;> exact ⟨rfl, rfl, rfl⟩
theorem unGo_keep (leaf : Bool) : ∀ (xs : List ND3) (v : VS), keepV v (unGo leaf v xs).1
 | [], v => keepV.rfl
 | x :: xs, v => by
  rw [unGo]; split
  ·exact wrN_keep v leaf x
  ·exact (wrN_keep v leaf x).trans (unGo_keep leaf xs _)
theorem unN_keep (leaf : Bool) (xs : List ND3) (v : VS) : keepV v (unN leaf v xs).1 := unGo_keep leaf xs v
theorem rpN_keep (v : VS) (leaf : Bool) (x : ND3) (i c : Nat) (xs : List ND3) : keepV v (rpN leaf v x i c xs).1 := by
 rw [rpN]; split <;> exact unN_keep leaf xs v
theorem inN_keep : ∀ (h : Nat) (v : VS) (a : Int) (x : ENT), keepV v (inN h v a x).1
 | 0, v, a, x => keepV.rfl
 | h + 1, v, a, x => by
  rw [inN]
  split
  ·exact keepV.rfl
  ·split
   ·exact giN_keep v a
   ·split
    ·exact giN_keep v a
    ·have ih := (giN_keep v a).trans (inN_keep h (giN v a).1 ((rdN v.S a false).D.getD (childN (rdN v.S a false).K x.key) 0) x)
     split
     ·exact ih.trans (rpN_keep _ _ _ _ _ _)
     ·exact ih
theorem lwN_keep : ∀ (h : Nat) (v : VS) (a : Int), keepV v (lwN h v a).1
 | 0, v, a => keepV.rfl
 | 1, v, a => keepV.rfl
 | h + 2, v, a => by
  rw [lwN]; split
  ·exact keepV.rfl
  ·exact (giN_keep v a).trans (lwN_keep (h + 1) _ _)
theorem sgN_keep (leaf : Bool) (v : VS) (xs : List ND3) (h : Nat) : keepV v (sgN leaf v xs h).1 := by
 rw [sgN]; split
 ·exact keepV.rfl
 ·split
  ·exact lwN_keep _ _ _
  ·exact wrN_keep _ _ _
theorem roN_keep : ∀ (f : Nat) (leaf : Bool) (v : VS) (xs : List ND3) (h : Nat), keepV v (roN f leaf v xs h).1
 | 0, leaf, v, xs, h => by
  rw [roN]; split
  ·exact keepV.rfl
  ·exact sgN_keep _ _ _ _
 | f + 1, leaf, v, xs, h => by
  rw [roN]; split
  ·split
   ·exact (unN_keep leaf xs v).trans (roN_keep f _ _ _ _)
   ·exact unN_keep leaf xs v
  ·split
   ·exact keepV.rfl
   ·exact sgN_keep _ _ _ _
theorem iN_keep (v : VS) (a : Int) (h : Nat) (x : ENT) : keepV v (iN v a h x).1 := by
 rw [iN]; split
 ·exact keepV.rfl
 ·split
  ·exact roN_keep _ _ _ _ _
  ·split
   ·exact (inN_keep h v a x).trans (roN_keep _ _ _ _ _)
   ·exact inN_keep h v a x
def textAt (V : List UInt8) (t n : Nat) : List UInt8 := (V.drop (t * 256)).take (n * 256)
theorem textAt_succ (V : List UInt8) (t n : Nat) : textAt V t (n + 1) = textAt V t n ++ pgAt V (t + n) := by
 rw [textAt, textAt, Nat.add_mul, List.take_add, List.drop_drop, pgAt, Nat.add_mul, Nat.one_mul]
theorem textAt_same {V V' : List UInt8} {t : Nat} : ∀ n, (∀ p ∈ runL t n, pgAt V' p = pgAt V p) → textAt V' t n = textAt V t n
 | 0, _ => by rw [textAt, textAt, Nat.zero_mul, List.take_zero, List.take_zero]
 | n + 1, h => by
  rw [textAt_succ, textAt_succ, textAt_same n (fun p hp => h p (by
   obtain ⟨q1, q2⟩ := runL_mem.1 hp
   exact runL_mem.2 ⟨q1, by omega⟩)), h (t + n) (runL_mem.2 ⟨by omega, by omega⟩)]
theorem put_there (A b : List UInt8) (s : Nat) (h : s ≤ A.length) : ((putAt A s b).drop s).take b.length = b := by
 have hl : (A.take s).length = s := by rw [lTk]; omega
 unfold putAt
 rw [aAs, List.drop_append_of_le_length (by omega), List.drop_of_length_le (by omega), nAp, List.take_left' rfl]
theorem put_else (A b : List UInt8) (s i : Nat) (h : s + b.length ≤ A.length) (hi : i < s ∨ s + b.length ≤ i) : (putAt A s b)[i]? = A[i]? := by
 have hl : (A.take s).length = s := by rw [lTk]; omega
 unfold putAt
 rcases hi with hi | hi
 ·rw [aAs, List.getElem?_append_left (by omega), List.getElem?_take, if_pos hi]
 ·rw [List.getElem?_append_right (by rw [lAp]; omega), List.getElem?_drop, lAp, hl]
  congr 1; omega
theorem textAt_put (V : List UInt8) (t n : Nat) (b : List UInt8) (hb : b.length = n * 256) (hV : t * 256 + n * 256 ≤ V.length) : textAt (putAt V (t * 256) b) t n = b := by
 rw [textAt, ← hb]
 exact put_there V b _ (Nat.le_trans (Nat.le_add_right _ _) hV)
theorem pgAt_put (V : List UInt8) (t n p : Nat) (b : List UInt8) (hb : b.length = n * 256) (hV : t * 256 + n * 256 ≤ V.length) (hp : p < t ∨ t + n ≤ p) : pgAt (putAt V (t * 256) b) p = pgAt V p := by
 apply List.ext_getElem?
 intro j
 rw [pgAt, pgAt, List.getElem?_take, List.getElem?_take]
 split
 ·rename_i hj
  rw [List.getElem?_drop, List.getElem?_drop, put_else V b _ _ (by rw [hb]; exact hV)]
  rw [hb]
  rcases hp with hp | hp
  ·left
   have := Nat.mul_le_mul_right 256 (show p + 1 ≤ t from hp)
   rw [Nat.add_mul] at this
   omega
  ·right
   have := Nat.mul_le_mul_right 256 hp
   rw [Nat.add_mul] at this
   exact Nat.le_trans this (Nat.le_add_right _ _)
 ·rfl
end Go.Proofs.YtcglabmlhljkmaaGreat
namespace Go.Gv
structure SP where
 gen : Nat
 addr : Int
 height : Int
 bitmap : Int
 pages : Int
def zeroS : SP := ⟨0, 0, 0, 0, 0⟩
def okS (s : SP) : Bool :=
 decide (s.gen ≠ 0) && (decide (8 ≤ s.pages) && (decide (s.pages ≤ 512) && ((decide (2 ≤ s.bitmap) && decide (s.bitmap < s.pages)) &&
  (if s.height = 0 then decide (s.addr = 0) else decide (0 < s.height) && (decide (s.height ≤ 5) && ((decide (2 ≤ s.addr) && decide (s.addr < s.pages)) && decide (s.addr ≠ s.bitmap)))))))
theorem okS_spec {s : SP} (h : okS s = true) : s.gen ≠ 0 ∧ 8 ≤ s.pages ∧ s.pages ≤ 512 ∧ 2 ≤ s.bitmap ∧ s.bitmap < s.pages ∧ 0 ≤ s.height ∧ s.height ≤ 5 ∧ 0 ≤ s.addr ∧ s.addr < s.pages := by
 simp only [okS, Bool.and_eq_true, decide_eq_true_eq] at h
 obtain ⟨h1, h2, h3, ⟨h4, h5⟩, h6⟩ := h
 split at h6
 ·have := of_decide_eq_true h6
  exact ⟨h1, h2, h3, h4, h5, by omega, by omega, by omega, by omega⟩
 ·simp only [Bool.and_eq_true, decide_eq_true_eq] at h6
  exact ⟨h1, h2, h3, h4, h5, by omega, h6.2.1, by omega, h6.2.2.1.2⟩
def putS (s : SP) : List UInt8 := bigB s.gen 8 ++ bigB s.addr.toNat 2 ++ [UInt8.ofNat s.height.toNat] ++ bigB s.bitmap.toNat 2 ++ bigB s.pages.toNat 2
theorem putS_length (s : SP) : (putS s).length = 15 := by simp [putS, bigB_length]
def gotS (l : List UInt8) : SP := ⟨numB (l.take 8), numB ((l.drop 8).take 2), (l.getD 10 0).toNat, numB ((l.drop 11).take 2), numB ((l.drop 13).take 2)⟩
def getS (l : List UInt8) : SP × Nat := if l.length ≠ 15 then (zeroS, 3) else if okS (gotS l) = true then (gotS l, 0) else (zeroS, 3)
theorem got_putS {s : SP} (h : okS s = true) (hg : s.gen < 18446744073709551616) : gotS (putS s) = s := by
 obtain ⟨h1, h2, h3, h4, h5, h6, h7, h8, h9⟩ := okS_spec h
 have a1 : (putS s).take 8 = bigB s.gen 8 := by
  rw [putS, aAs, aAs, aAs, List.take_left' (bigB_length _ _)]
 have a2 : ((putS s).drop 8).take 2 = bigB s.addr.toNat 2 := by
  have e : putS s = bigB s.gen 8 ++ bigB s.addr.toNat 2 ++ ([UInt8.ofNat s.height.toNat] ++ bigB s.bitmap.toNat 2 ++ bigB s.pages.toNat 2) := by simp [putS]
  rw [e, seg _ _ _ 8 2 (bigB_length _ _) (bigB_length _ _)]
 have a3 : (putS s).getD 10 0 = UInt8.ofNat s.height.toNat := by
  have e : putS s = (bigB s.gen 8 ++ bigB s.addr.toNat 2) ++ (UInt8.ofNat s.height.toNat :: (bigB s.bitmap.toNat 2 ++ bigB s.pages.toNat 2)) := by simp [putS]
  rw [e, gDe, List.getElem?_append_right (by simp [bigB_length])]
  simp [bigB_length]
 have a4 : ((putS s).drop 11).take 2 = bigB s.bitmap.toNat 2 := by
  have e : putS s = (bigB s.gen 8 ++ bigB s.addr.toNat 2 ++ [UInt8.ofNat s.height.toNat]) ++ bigB s.bitmap.toNat 2 ++ bigB s.pages.toNat 2 := by simp [putS]
  rw [e, seg _ _ _ 11 2 (by simp [bigB_length]) (bigB_length _ _)]
 have a5 : ((putS s).drop 13).take 2 = bigB s.pages.toNat 2 := by
  have e : putS s = (bigB s.gen 8 ++ bigB s.addr.toNat 2 ++ [UInt8.ofNat s.height.toNat] ++ bigB s.bitmap.toNat 2) ++ bigB s.pages.toNat 2 ++ [] := by simp [putS]
  rw [e, seg _ _ _ 13 2 (by simp [bigB_length]) (bigB_length _ _)]
 unfold gotS
 rw [a1, a2, a3, a4, a5, num_big, num_big, num_big, num_big]
 have e3 : (UInt8.ofNat s.height.toNat).toNat = s.height.toNat := by rw [UInt8.toNat_ofNat']; omega
 rw [e3]
 cases s
 simp only [SP.mk.injEq]
 simp only at h1 h2 h3 h4 h5 h6 h7 h8 h9 hg
 refine ⟨by omega, by omega, by omega, by omega, by omega⟩
theorem bigB_snoc (n : Nat) (c : UInt8) : ∀ k, bigB (n * 256 + c.toNat) (k + 1) = bigB n k ++ [c]
 | 0 => by
  have hc := c.toNat_lt
  show [UInt8.ofNat ((n * 256 + c.toNat) / 2 ^ (8 * 0))] = [c]
  congr 1
  apply UInt8.toNat_inj.1
  rw [UInt8.toNat_ofNat']
  omega
 | k + 1 => by
  have hc := c.toNat_lt
  have ih := bigB_snoc n c k
  rw [bigB, ih]
  rw [show bigB n (k + 1) = UInt8.ofNat (n / 2 ^ (8 * k)) :: bigB n k from rfl, cAp]
  congr 2
  have e : (2 : Nat) ^ (8 * (k + 1)) = 256 * 2 ^ (8 * k) := by rw [show 8 * (k + 1) = 8 * k + 8 by omega, Nat.pow_add, Nat.mul_comm]
  rw [e, ← Nat.div_div_eq_div_mul]
  congr 1
  omega
theorem big_num (l : List UInt8) : bigB (numB l) l.length = l := by
 have : ∀ r : List UInt8, bigB (numB r.reverse) r.length = r.reverse := by
  intro r
  induction r with
  | nil => rfl
  | cons c r ih => rw [List.reverse_cons, numB_snoc, lCn, bigB_snoc, ih]
 have h := this l.reverse
 rwa [List.reverse_reverse, List.length_reverse] at h
theorem cut15 {l : List UInt8} (h : l.length = 15) : l = l.take 8 ++ (l.drop 8).take 2 ++ [l.getD 10 0] ++ (l.drop 11).take 2 ++ (l.drop 13).take 2 := by
 match l, h with
 | [a, b, c, d, e, f, g, i, j, k, m, n, o, p, q], _ => rfl
theorem put_gotS {l : List UInt8} (h : l.length = 15) : putS (gotS l) = l := by
 have b1 := big_num (l.take 8)
 have b2 := big_num ((l.drop 8).take 2)
 have b3 := big_num ((l.drop 11).take 2)
 have b4 := big_num ((l.drop 13).take 2)
 rw [show (l.take 8).length = 8 by rw [lTk]; omega] at b1
 rw [show ((l.drop 8).take 2).length = 2 by rw [lTk, lDp]; omega] at b2
 rw [show ((l.drop 11).take 2).length = 2 by rw [lTk, lDp]; omega] at b3
 rw [show ((l.drop 13).take 2).length = 2 by rw [lTk, lDp]; omega] at b4
 unfold putS gotS
 simp only [Int.toNat_natCast, UInt8.ofNat_toNat]
 rw [b1, b2, b3, b4]
 exact (cut15 h).symm
theorem get_putS {s : SP} (h : okS s = true) (hg : s.gen < 18446744073709551616) : getS (putS s) = (s, 0) := by
 rw [getS, if_neg (by rw [putS_length]; simp), got_putS h hg, if_pos h]
theorem getS_ok {l : List UInt8} (h : (getS l).2 = 0) : okS (getS l).1 = true ∧ putS (getS l).1 = l ∧ (getS l).1.gen < 18446744073709551616 := by
 unfold getS at h ⊢
 split at h
 ·cases h
 ·rename_i h1
  split at h
  ·rename_i h2
   rw [if_neg h1, if_pos h2]
   refine ⟨h2, put_gotS (by omega), ?_⟩
   have := numB_lt (l.take 8)
   rw [show (l.take 8).length = 8 by rw [lTk]; omega] at this
   exact this
  ·cases h
theorem getS_bad {l : List UInt8} (h : (getS l).2 ≠ 0) : getS l = (zeroS, 3) := by
 unfold getS at h ⊢
 split
 ·rfl
 ·rename_i h1
  split
  ·rename_i h2
   rw [if_neg h1, if_pos h2] at h
   exact absurd rfl h
  ·rfl
end Go.Gv
namespace Go.Proofs.YtcglabmlhljkmaaGreat
open Go Go.RowKit Go.Gv
def rdS (S : DS) (at_ : Nat) : SP × Bool × Nat :=
 if (rdPg S (at_ : Int) 83).2 = 3 then (zeroS, false, 0)
 else if (rdPg S (at_ : Int) 83).2 ≠ 0 then (zeroS, false, (rdPg S (at_ : Int) 83).2)
 else ((getS (rdPg S (at_ : Int) 83).1.b).1, decide ((getS (rdPg S (at_ : Int) 83).1.b).2 = 0) && (decide ((getS (rdPg S (at_ : Int) 83).1.b).1.gen = (rdPg S (at_ : Int) 83).1.g) && (decide ((getS (rdPg S (at_ : Int) 83).1.b).1.gen % 2 = at_) && decide ((getS (rdPg S (at_ : Int) 83).1.b).1.pages = ((S.A.length / 256 : Nat) : Int)))), 0)
def nwTo (S : DS) : Nat → SP × Nat
 | 0 => (zeroS, 0)
 | k + 1 => if (nwTo S k).2 ≠ 0 then nwTo S k else if (rdS S k).2.2 ≠ 0 then (zeroS, (rdS S k).2.2) else if (rdS S k).2.1 = true ∧ (nwTo S k).1.gen < (rdS S k).1.gen then ((rdS S k).1, 0) else nwTo S k
def nwS (S : DS) : SP × Nat := if (nwTo S 2).2 ≠ 0 then nwTo S 2 else if (nwTo S 2).1.gen = 0 then (zeroS, 3) else nwTo S 2
def pgS (s : SP) : PG := ⟨83, ((s.gen % 2 : Nat) : Int), s.gen, putS s⟩
theorem pgS_ok (s : SP) : okP (pgS s) = true := by
 have h1 : knownK (pgS s).k = true := (by decide : knownK 83 = true)
 have h2 : (0 : Int) ≤ (pgS s).a := by show (0 : Int) ≤ ((s.gen % 2 : Nat) : Int); omega
 have h3 : (pgS s).a < 512 := by show ((s.gen % 2 : Nat) : Int) < 512; omega
 have h4 : (pgS s).b.length ≤ 238 := by show (putS s).length ≤ 238; rw [putS_length]; omega
 rw [okP, h1, dTt h2, dTt h3, dTt h4]; rfl
theorem pgS_len (s : SP) : (putP (pgS s)).length = 256 := putP_length _ (okP_spec (pgS_ok s)).2.2.2
def wrS (S : DS) (s : SP) : DS × Nat := if okS s = true then wrPg S (pgS s) else (S, 1)
theorem wrS_on {S : DS} (h : S.on) (hA : 512 ≤ S.A.length) {s : SP} (hs : okS s = true) :
  (wrS S s).2 = 0 ∧ (wrS S s).1.on ∧ (wrS S s).1.V = putAt S.V (s.gen % 2 * 256) (putP (pgS s)) ∧ (wrS S s).1.A = S.A ∧ (wrS S s).1.W.length ≤ S.W.length + 4 := by
 have hm : s.gen % 2 * 256 + 256 ≤ S.A.length := by omega
 have := DS.wrs_page h (s.gen % 2) (putP (pgS s)) (pgS_len s) hm
 rw [wrS, if_pos hs, wrPg, if_pos (pgS_ok s)]
 exact this
theorem rdS_pg {S : DS} (h : S.on) (hA : 512 ≤ S.A.length) {s : SP} (hs : okS s = true) (hg : s.gen < 18446744073709551616) {a : Nat} (ha : a = s.gen % 2) (hp : pgAt S.V a = putP (pgS s)) :
  rdS S a = (s, decide (s.pages = ((S.A.length / 256 : Nat) : Int)), 0) := by
 have hm : a * 256 + 256 ≤ S.A.length := by omega
 have hget := get_put (pgS s) (pgS_ok s) hg
 have hr : rdPg S (a : Int) 83 = (pgS s, 0) := by
  rw [rdPg_on h a hm, hp, hget, if_pos ⟨rfl, by rw [ha]; rfl, rfl⟩]
 have hgs : getS (pgS s).b = (s, 0) := get_putS hs hg
 rw [rdS, hr, if_neg (by simp), if_neg (by simp), hgs]
 have e1 : s.gen = (pgS s).g := rfl
 have e2 : s.gen % 2 = a := ha.symm
 simp [e2, ← e1]
theorem rdS_none {S : DS} (h : S.on) {a : Nat} (hm : a * 256 + 256 ≤ S.A.length) (hp : (getP (pgAt S.V a)).2 ≠ 0) : rdS S a = (zeroS, false, 0) := by
 have hr : rdPg S (a : Int) 83 = (zeroP, 3) := by
  rw [rdPg_on h a hm, if_neg (fun q => hp q.1)]
 rw [rdS, hr, if_pos rfl]
theorem nwS_two {S : DS} {s0 s1 : SP} {b0 b1 : Bool} (h0 : rdS S 0 = (s0, b0, 0)) (h1 : rdS S 1 = (s1, b1, 0)) :
  nwS S = (let q := if b0 = true ∧ 0 < s0.gen then s0 else zeroS
           let r := if b1 = true ∧ q.gen < s1.gen then s1 else q
           if r.gen = 0 then (zeroS, 3) else (r, 0)) := by
 have e0 : nwTo S 1 = (if b0 = true ∧ 0 < s0.gen then s0 else zeroS, 0) := by
  show (if (nwTo S 0).2 ≠ 0 then nwTo S 0 else if (rdS S 0).2.2 ≠ 0 then (zeroS, (rdS S 0).2.2) else if (rdS S 0).2.1 = true ∧ (nwTo S 0).1.gen < (rdS S 0).1.gen then ((rdS S 0).1, 0) else nwTo S 0) = _
  rw [h0]
  show (if (0 : Nat) ≠ 0 then nwTo S 0 else if (0 : Nat) ≠ 0 then (zeroS, 0) else if b0 = true ∧ 0 < s0.gen then (s0, 0) else (zeroS, 0)) = _
  rw [if_neg (by simp), if_neg (by simp)]
  split <;> rfl
 have e1 : nwTo S 2 = (let q := if b0 = true ∧ 0 < s0.gen then s0 else zeroS
                       if b1 = true ∧ q.gen < s1.gen then s1 else q, 0) := by
  show (if (nwTo S 1).2 ≠ 0 then nwTo S 1 else if (rdS S 1).2.2 ≠ 0 then (zeroS, (rdS S 1).2.2) else if (rdS S 1).2.1 = true ∧ (nwTo S 1).1.gen < (rdS S 1).1.gen then ((rdS S 1).1, 0) else nwTo S 1) = _
  rw [h1, e0]
  simp only [ne_eq, not_true_eq_false, if_false]
  (repeat' split) <;> rfl
 rw [nwS, e1]
 simp only [ne_eq, not_true_eq_false, if_false]
theorem okS_gen {s : SP} (h : okS s = true) : s.gen ≠ 0 := (okS_spec h).1
end Go.Proofs.YtcglabmlhljkmaaGreat
