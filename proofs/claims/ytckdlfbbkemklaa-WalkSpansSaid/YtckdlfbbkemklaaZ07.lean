/- Texts of this claim, put together: WkPlain3, WkPlain4, WkPlain5, WkPlain6, TvWalk, GvYield2, WkWalk, WkWalk2, WkWalk3, WkPlain7, NdWalk10, LwWalk. -/
import Derived.Test.YtckdlfbbkemklaaZ06
import Derived.Test.YtckdlfbbkemklaaZ01
import Derived.Test.YtckdlfbbkemklaaZ00
section
/- walk: rows of nodes and groups of them; what other pages' turning leaves. -/
namespace Go.Proofs.Ytckdlfbbkemklaa
open Go Go.RowKit Go.Gv
set_option linter.unusedVariables false
set_option linter.unusedSimpArgs false

/-- how many nodes were read, in a row, when the k-th entry is told -/
def gVL {α : Type} (n : α → Nat) (C : α → Nat) (V : α → Nat → Nat) : List α → Nat → Nat
  | [], _ => 0
  | x :: xs, k => if k < n x then V x k else C x + gVL n C V xs (k - n x)
theorem wkVL_g {E : Int → List ENT} {C : Int → Nat} {V : Int → Nat → Nat} : ∀ (D : List Int) (k : Nat), wkVL E C V D k = gVL (fun d => (E d).length) C V D k
  | [], _ => rfl
  | d :: D, k => by rw [wkVL, gVL, wkVL_g D]
theorem gVL_zip {α β : Type} {n : α → Nat} {C : α → Nat} {V : α → Nat → Nat} {n' : β → Nat} {C' : β → Nat} {V' : β → Nat → Nat} : ∀ (xs : List α) (ys : List β) (k : Nat), xs.length = ys.length →
    (∀ (i : Nat) (x : α) (y : β), xs[i]? = some x → ys[i]? = some y → n x = n' y ∧ C x = C' y ∧ ∀ k, V x k = V' y k) → gVL n C V xs k = gVL n' C' V' ys k
  | [], [], _, _, _ => rfl
  | [], _ :: _, _, h, _ => by simp at h
  | _ :: _, [], _, h, _ => by simp at h
  | x :: xs, y :: ys, k, h, hp => by
    obtain ⟨h1, h2, h3⟩ := hp 0 x y rfl rfl
    rw [gVL, gVL, h1, h2, h3, gVL_zip xs ys (k - n' y) (by simpa using h) (fun i x y hx hy => hp (i + 1) x y (by simpa using hx) (by simpa using hy))]
theorem gVL_app {α : Type} {n : α → Nat} {C : α → Nat} {V : α → Nat → Nat} : ∀ (xs ys : List α) (k : Nat), gVL n C V (xs ++ ys) k = if k < (xs.map n).sum then gVL n C V xs k else (xs.map C).sum + gVL n C V ys (k - (xs.map n).sum)
  | [], ys, k => by simp [gVL]
  | x :: xs, ys, k => by
    rw [List.cons_append, gVL, gVL, gVL_app xs ys (k - n x), List.map_cons, List.sum_cons, List.map_cons, List.sum_cons]
    by_cases h1 : k < n x
    · rw [if_pos h1, if_pos h1, if_pos (by omega)]
    · rw [if_neg h1, if_neg h1]
      by_cases h2 : k - n x < (xs.map n).sum
      · rw [if_pos h2, if_pos (by omega)]
      · rw [if_neg h2, if_neg (by omega), show k - n x - (xs.map n).sum = k - (n x + (xs.map n).sum) by omega]; omega
/-- which group the k-th entry belongs to -/
def gIdx {α : Type} (n : α → Nat) : List (List α) → Nat → Nat
  | [], _ => 0
  | g :: gs, k => if k < (g.map n).sum then 0 else 1 + gIdx n gs (k - (g.map n).sum)
theorem gVL_groups {α : Type} {n : α → Nat} {C : α → Nat} {V : α → Nat → Nat} : ∀ (gs : List (List α)) (k : Nat), k < (gs.flatten.map n).sum →
    gVL (fun g : List α => (g.map n).sum) (fun g => 1 + (g.map C).sum) (fun g k => 1 + gVL n C V g k) gs k = gVL n C V gs.flatten k + (gIdx n gs k + 1)
  | [], k, h => by simp at h
  | g :: gs, k, h => by
    rw [List.flatten_cons, List.map_append, List.sum_append] at h
    rw [gVL, List.flatten_cons, gVL_app, gIdx]
    by_cases h1 : k < (g.map n).sum
    · rw [if_pos h1, if_pos h1, if_pos h1]; omega
    · rw [if_neg h1, if_neg h1, if_neg h1, gVL_groups gs _ (by omega)]; omega
theorem gIdx_div {α : Type} {n : α → Nat} {M m : Nat} (hM : 0 < M) : ∀ (gs : List (List α)) (off K : Nat), (∀ (J : Nat) (g : List α), gs[J]? = some g → (g.map n).sum = min M (m - (off + J) * M)) → off * M ≤ K → K < m → m ≤ (off + gs.length) * M → gIdx n gs (K - off * M) = K / M - off
  | [], off, K, _, h1, h2, h3 => by
    rw [List.length_nil, Nat.add_zero] at h3; omega
  | g :: gs, off, K, hg, h1, h2, h3 => by
    have h0 := hg 0 g rfl
    rw [Nat.add_zero] at h0
    have e1 : (off + 1) * M = off * M + M := by rw [Nat.add_mul, Nat.one_mul]
    rw [gIdx, h0]
    by_cases hk : K - off * M < min M (m - off * M)
    · rw [if_pos hk]
      have hlt : K < (off + 1) * M := by omega
      have hd : K / M = off := by
        refine Nat.div_eq_of_lt_le ?_ ?_
        · exact h1
        · exact hlt
      rw [hd, Nat.sub_self]
    · rw [if_neg hk]
      have hge : (off + 1) * M ≤ K := by omega
      have hmin : min M (m - off * M) = M := by omega
      rw [hmin, show K - off * M - M = K - (off + 1) * M by omega, gIdx_div hM gs (off + 1) K (fun J g' hJ => by rw [hg (J + 1) g' (by simpa using hJ), show off + (J + 1) = off + 1 + J by omega]) hge h2 (by rw [List.length_cons, show off + (gs.length + 1) = off + 1 + gs.length by omega] at h3; exact h3)]
      have : off + 1 ≤ K / M := (Nat.le_div_iff_mul_le hM).2 hge
      omega
theorem flat_congr {α β : Type} {f g : α → List β} : ∀ {D : List α}, (∀ d ∈ D, f d = g d) → D.flatMap f = D.flatMap g
  | [], _ => rfl
  | d :: D, h => by rw [List.flatMap_cons, List.flatMap_cons, h d (List.mem_cons_self ..), flat_congr (fun x hx => h x (List.mem_cons_of_mem _ hx))]
/-- all below can be read, and stands in the first c pages -/
def wkGc (S : DS) (c : Nat) : Nat → Int → Prop
  | 0, _ => False
  | h + 1, a => (∃ j : Nat, j < c ∧ a = (j : Int)) ∧ (rdN S a (decide (h = 0))).e = 0 ∧ (rdN S a (decide (h = 0))).E.length ≤ 1000 ∧ (rdN S a (decide (h = 0))).D.length ≤ 1000 ∧ ∀ k ∈ (rdN S a (decide (h = 0))).D, wkGc S c h k
theorem wkGc_G {S : DS} {c : Nat} (hc : c ≤ 1000) : ∀ (h : Nat) (a : Int), wkGc S c h a → wkG S h a
  | 0, _, hg => hg.elim
  | h + 1, a, ⟨⟨j, h1, h2⟩, h3, h4, h5, h6⟩ => ⟨by omega, h3, h4, h5, fun k hk => wkGc_G hc h k (h6 k hk)⟩
def agree (S S' : DS) (c : Nat) : Prop := ∀ (j : Nat) (lf : Bool), j < c → rdN S' (j : Int) lf = rdN S (j : Int) lf
theorem wkGc_same {S S' : DS} {c c' : Nat} (hag : agree S S' c) (hc : c ≤ c') : ∀ (h : Nat) (a : Int), wkGc S c h a → wkGc S' c' h a ∧ wkE S' h a = wkE S h a ∧ wkC S' h a = wkC S h a ∧ ∀ k, wkV S' h a k = wkV S h a k
  | 0, _, hg => hg.elim
  | h + 1, a, ⟨⟨j, h1, h2⟩, h3, h4, h5, h6⟩ => by
    have e : rdN S' a (decide (h = 0)) = rdN S a (decide (h = 0)) := by rw [h2]; exact hag j _ h1
    have ih := fun k hk => wkGc_same hag hc h k (h6 k hk)
    refine ⟨⟨⟨j, by omega, h2⟩, by rw [e]; exact h3, by rw [e]; exact h4, by rw [e]; exact h5, fun k hk => ?_⟩, ?_, ?_, fun k => ?_⟩
    · rw [e] at hk; exact (ih k hk).1
    · rw [wkE, wkE, e, flat_congr (fun k hk => (ih k hk).2.1)]
    · rw [wkC, wkC, e, List.map_congr_left (fun k hk => (ih k hk).2.2.1)]
    · rw [wkV, wkV, e, wkVL_g, wkVL_g]
      congr 2
      refine gVL_zip _ _ _ rfl (fun i x y hx hy => ?_)
      rw [hx] at hy
      cases hy
      have := ih x (List.mem_of_getElem? hx)
      exact ⟨by rw [this.2.1], this.2.2.1, this.2.2.2⟩
end Go.Proofs.Ytckdlfbbkemklaa
end
section
/- walk: levels of a tree that is loaded. -/
namespace Go.Proofs.Ytckdlfbbkemklaa
open Go Go.RowKit Go.Gv
set_option linter.unusedVariables false
set_option linter.unusedSimpArgs false

def entX (S : DS) (h : Nat) (x : ND3) : List ENT := x.E ++ x.D.flatMap (wkE S h)
def nX (S : DS) (h : Nat) (x : ND3) : Nat := (entX S h x).length
def cX (S : DS) (h : Nat) (x : ND3) : Nat := 1 + (x.D.map (wkC S h)).sum
def vX (S : DS) (h : Nat) (x : ND3) (k : Nat) : Nat := 1 + if k < x.E.length then 0 else wkVL (wkE S h) (wkC S h) (wkV S h) x.D (k - x.E.length)
/-- how many entries a node of that height has that is full -/
def capN (h : Nat) : Nat := 7 * 16 ^ h
theorem capN_pos (h : Nat) : 0 < capN h := Nat.mul_pos (by decide) (Nat.pow_pos (by decide))
theorem capN_succ (h : Nat) : capN (h + 1) = capN h * 16 := by rw [capN, capN, Nat.pow_succ, Nat.mul_assoc]
/-- how many nodes are read for the k-th entry -/
def visF : Nat → Nat → Nat
  | 0, k => k / 7 + 1
  | h + 1, k => visF h k + (k / capN (h + 1) + 1)
/-- entries that rise -/
def rise (l : List ENT) : Prop := ∀ i j, i < j → j < l.length → lessK (l.getD i ent0).key (l.getD j ent0).key = true
theorem lessK_trans {a b c : KEY} (h1 : lessK a b = true) (h2 : lessK b c = true) : lessK a c = true := by
  have d : ∀ {a b : KEY}, lessK a b = true → a.1 < b.1 ∨ (a.1 = b.1 ∧ a.2 < b.2) := by
    intro a b h
    simpa [lessK] using h
  refine less_of ?_
  rcases d h1 with h | ⟨h, h'⟩ <;> rcases d h2 with g | ⟨g, g'⟩
  · exact .inl (by omega)
  · exact .inl (by omega)
  · exact .inl (by omega)
  · exact .inr ⟨by omega, by omega⟩
theorem rise_of {l : List ENT} (h : loadOk l) : rise l := by
  intro i j hij
  induction j with
  | zero => omega
  | succ j ih =>
    intro hj
    have h1 := (h.2.1 (j + 1) (by omega) hj).1
    rw [Nat.add_sub_cancel] at h1
    by_cases e : i = j
    · rw [e]; exact h1
    · exact lessK_trans (ih (by omega) (by omega)) h1
/-- a level of nodes that are not yet written -/
structure Lev (l : List ENT) (h c : Nat) (v : VS) (xs : List ND3) : Prop where
  vc : VC c v
  c2 : 2 ≤ c
  n1 : 1 ≤ xs.length
  cnt : xs.length = (l.length + capN h - 1) / capN h
  ok : ∀ x ∈ xs, rightN (decide (h = 0)) x.E x.K x.D = true ∧ (∀ e ∈ x.E, entR e) ∧ (∀ k ∈ x.K, keyR k) ∧ ∀ d ∈ x.D, wkGc v.S c h d
  sz : ∀ (i : Nat) (x : ND3), xs[i]? = some x → nX v.S h x = min (capN h) (l.length - i * capN h) ∧ least3 (decide (h = 0)) x = (l.getD (i * capN h) ent0).key
  ents : xs.flatMap (entX v.S h) = l
  vis : ∀ k, k < l.length → gVL (nX v.S h) (cX v.S h) (vX v.S h) xs k = visF h k
  tot : (xs.map (cX v.S h)).sum = visF h (l.length - 1)
theorem right_len {leaf : Bool} {x : ND3} (hr : rightN leaf x.E x.K x.D = true) : x.E.length ≤ 1000 ∧ x.D.length ≤ 1000 := by
  cases leaf
  · rw [rightN, if_neg (by simp), Bool.and_eq_true, decide_eq_true_eq] at hr
    have := innerB_spec hr.2
    omega
  · rw [rightN, if_pos rfl, Bool.and_eq_true, Bool.and_eq_true, decide_eq_true_eq, decide_eq_true_eq] at hr
    have := leaf_spec hr.2.2
    omega
theorem keysTo_of {ks : List KEY} : ∀ n, (∀ i, i < n → keyAt ks i = true) → keysTo ks n = true
  | 0, _ => rfl
  | n + 1, h => by rw [keysTo, keysTo_of n (fun i hi => h i (by omega)), h n (by omega)]; rfl
theorem kidsTo_of {ks : List Int} : ∀ n, (∀ i, i < n → kidAt ks i = true) → kidsTo ks n = true
  | 0, _ => rfl
  | n + 1, h => by rw [kidsTo, kidsTo_of n (fun i hi => h i (by omega)), h n (by omega)]; rfl
theorem cutL_get {α : Type} (l : List α) (lo hi i : Nat) (h : lo + i < hi) : (cutL l lo hi)[i]? = l[lo + i]? := by
  rw [cutL, List.getElem?_take, if_pos (by omega), List.getElem?_drop]
theorem chunks_flat {α : Type} (D : List α) : ∀ (q : Nat), q ≤ (D.length + 15) / 16 → ((List.range q).map fun j => cutL D (j * 16) (min (j * 16 + 16) D.length)).flatten = D.take (min (q * 16) D.length)
  | 0, _ => by simp
  | q + 1, h => by
    rw [List.range_succ, List.map_append, List.flatten_append, chunks_flat D q (by omega)]
    simp only [List.map_cons, List.map_nil, List.flatten_cons, List.flatten_nil, List.append_nil]
    have h1 : min (q * 16) D.length = q * 16 := by omega
    have h2 : min ((q + 1) * 16) D.length = min (q * 16 + 16) D.length := by omega
    rw [h1, h2, cutL]
    have h3 : q * 16 ≤ min (q * 16 + 16) D.length := by omega
    generalize min (q * 16 + 16) D.length = b at *
    have : D.take b = D.take (q * 16) ++ (D.drop (q * 16)).take (b - q * 16) := by
      rw [← List.take_append_drop (q * 16) (D.take b), List.take_take, Nat.min_eq_left h3, List.drop_take]
    rw [this]
theorem sum_flat {α β : Type} {f : α → List β} : ∀ D : List α, (D.flatMap f).length = (D.map fun d => (f d).length).sum
  | [] => rfl
  | d :: D => by rw [List.flatMap_cons, List.length_append, sum_flat D, List.map_cons, List.sum_cons]
theorem ceil_ceil (m N : Nat) (hN : 0 < N) : ((m + N - 1) / N + 15) / 16 = (m + N * 16 - 1) / (N * 16) := by
  have e : m + N * 16 - 1 = (m + N - 1) + N * 15 := by omega
  rw [← Nat.div_div_eq_div_mul, e, Nat.add_mul_div_left _ _ hN]
/-- where the entries of the first so many nodes end -/
theorem pre_len {f : Int → List ENT} {D : List Int} {N m : Nat} (hs : ∀ (i : Nat) (d : Int), D[i]? = some d → (f d).length = min N (m - i * N)) : ∀ i, i ≤ D.length → ((D.take i).flatMap f).length = min (i * N) m
  | 0, _ => by simp
  | i + 1, hi => by
    obtain ⟨d, hd⟩ : ∃ d, D[i]? = some d := ⟨_, List.getElem?_eq_getElem (by omega)⟩
    rw [wk_take hd, pre_len hs i (by omega), hs i d hd, Nat.add_mul, Nat.one_mul]
    generalize i * N = A
    omega
end Go.Proofs.Ytckdlfbbkemklaa
end
section
/- walk: one level more. -/
namespace Go.Proofs.Ytckdlfbbkemklaa
open Go Go.RowKit Go.Gv
set_option linter.unusedVariables false
set_option linter.unusedSimpArgs false

theorem sum_groups {α : Type} {C : α → Nat} : ∀ gs : List (List α), (gs.map fun g => 1 + (g.map C).sum).sum = gs.length + (gs.flatten.map C).sum
  | [] => rfl
  | g :: gs => by rw [List.map_cons, List.sum_cons, sum_groups gs, List.length_cons, List.flatten_cons, List.map_append, List.sum_append]; omega
theorem cut_len {f : Int → List ENT} {D : List Int} {N m : Nat} (hs : ∀ (i : Nat) (d : Int), D[i]? = some d → (f d).length = min N (m - i * N)) (lo hi : Nat) (h1 : lo ≤ hi) (h2 : hi ≤ D.length) : ((cutL D lo hi).flatMap f).length = min (hi * N) m - min (lo * N) m := by
  have e : D.take hi = D.take lo ++ cutL D lo hi := by
    rw [← List.take_append_drop lo (D.take hi), List.take_take, Nat.min_eq_left h1, List.drop_take, cutL]
  have a := pre_len hs hi h2
  rw [e, List.flatMap_append, List.length_append, pre_len hs lo (by omega)] at a
  omega
theorem group_len {N m n j : Nat} (hN : 0 < N) (hn : n = (m + N - 1) / N) (hj : j * 16 < n) : min (min (j * 16 + 16) n * N) m - min (j * 16 * N) m = min (N * 16) (m - j * (N * 16)) := by
  have eA : j * (N * 16) = j * 16 * N := by rw [Nat.mul_comm N 16, Nat.mul_assoc]
  have e1 : (j * 16 + 16) * N = j * 16 * N + N * 16 := by rw [Nat.add_mul, Nat.mul_comm 16 N]
  have hle : m ≤ n * N := by
    have h1 := Nat.div_add_mod (m + N - 1) N
    have h2 := Nat.mod_lt (m + N - 1) hN
    rw [← hn, Nat.mul_comm] at h1
    omega
  have hlt : j * 16 * N < m := by
    have h1 : (j * 16 + 1) * N ≤ m + N - 1 := Nat.le_trans (Nat.mul_le_mul_right N hj) (by rw [hn]; exact Nat.div_mul_le_self _ _)
    rw [Nat.add_mul, Nat.one_mul] at h1
    omega
  rw [eA]
  by_cases hb : j * 16 + 16 ≤ n
  · rw [Nat.min_eq_left hb, e1]
    generalize j * 16 * N = Y at *
    omega
  · have hmin : min (j * 16 + 16) n = n := by omega
    rw [hmin]
    have h3 : n * N ≤ (j * 16 + 16) * N := Nat.mul_le_mul_right N (by omega)
    rw [e1] at h3
    generalize j * 16 * N = Y at *
    generalize n * N = Z at *
    omega
theorem Lev.step {l : List ENT} {h c : Nat} {v : VS} {xs : List ND3} (L : Lev l h c v xs) (hl : loadOk l) (hx : 2 ≤ xs.length) (hc : c + xs.length ≤ 200) :
    (unN (decide (h = 0)) v xs).2.2 = 0 ∧ Lev l (h + 1) (c + xs.length) (unN (decide (h = 0)) v xs).1 (chunkN (unN (decide (h = 0)) v xs).2.1) ∧ (unN (decide (h = 0)) v xs).2.1.D.length = xs.length := by
  have hrise := rise_of hl
  obtain ⟨v', e, hvc, hrd, hag⟩ := VC.go (leaf := decide (h = 0)) xs L.vc L.c2 hc (fun x hx => ⟨(L.ok x hx).1, (L.ok x hx).2.1, (L.ok x hx).2.2.1⟩)
  obtain ⟨n, hn⟩ : ∃ n, n = xs.length := ⟨_, rfl⟩
  rw [← hn] at hc hx hvc e ⊢
  obtain ⟨D, hD⟩ : ∃ D, D = (List.range n).map (fun i => ((c + i : Nat) : Int)) := ⟨_, rfl⟩
  obtain ⟨Ks, hK⟩ : ∃ Ks, Ks = xs.map (least3 (decide (h = 0))) := ⟨_, rfl⟩
  obtain ⟨N, hN⟩ : ∃ N, N = capN h := ⟨_, rfl⟩
  obtain ⟨m, hm⟩ : ∃ m, m = l.length := ⟨_, rfl⟩
  have hNp : 0 < N := by rw [hN]; exact capN_pos h
  rw [← hD] at e
  have hun : unN (decide (h = 0)) v xs = (v', ⟨[], Ks, D⟩, 0) := by rw [unN, e]; simp only [if_true, hK]
  rw [hun]
  have hDl : D.length = n := by rw [hD]; simp
  have hKl : Ks.length = n := by rw [hK, hn]; simp
  have hDg : ∀ i, i < n → D[i]? = some ((c + i : Nat) : Int) := fun i hi => by rw [hD, List.getElem?_map, List.getElem?_range hi]; rfl
  have hlt : ∀ {i : Nat} {d : Int}, D[i]? = some d → i < n := fun hi => by have := (List.getElem?_eq_some_iff.1 hi).1; omega
  have hxg : ∀ i, i < n → ∃ x, xs[i]? = some x := fun i hi => ⟨_, List.getElem?_eq_getElem (by omega)⟩
  have hcnt := L.cnt
  rw [← hn, ← hN, ← hm] at hcnt
  have hag' : agree v.S v'.S c := fun j lf hj => hag j lf hj
  have key : ∀ (i : Nat) (x : ND3), xs[i]? = some x → wkGc v'.S (c + n) (h + 1) ((c + i : Nat) : Int) ∧ wkE v'.S (h + 1) ((c + i : Nat) : Int) = entX v.S h x ∧ wkC v'.S (h + 1) ((c + i : Nat) : Int) = cX v.S h x ∧ ∀ k, wkV v'.S (h + 1) ((c + i : Nat) : Int) k = vX v.S h x k := by
    intro i x hi
    have hil := (List.getElem?_eq_some_iff.1 hi).1
    have hr := hrd i x hi
    obtain ⟨o1, o2, o3, o4⟩ := L.ok x (List.mem_of_getElem? hi)
    have sm := fun d hd => wkGc_same (c' := c + n) hag' (by omega) h d (o4 d hd)
    refine ⟨⟨⟨c + i, by omega, rfl⟩, by rw [hr], by rw [hr]; exact (right_len o1).1, by rw [hr]; exact (right_len o1).2, fun k hk => by rw [hr] at hk; exact (sm k hk).1⟩, ?_, ?_, fun k => ?_⟩
    · rw [wkE, hr, entX, flat_congr (fun k hk => (sm k hk).2.1)]
    · rw [wkC, hr, cX, List.map_congr_left (fun k hk => (sm k hk).2.2.1)]
    · rw [wkV, hr, vX, wkVL_g, wkVL_g]
      congr 2
      refine gVL_zip _ _ _ rfl (fun i x y hx hy => ?_)
      rw [hx] at hy
      cases hy
      have := sm x (List.mem_of_getElem? hx)
      exact ⟨by rw [this.2.1], this.2.2.1, this.2.2.2⟩
  have hDs : ∀ (i : Nat) (d : Int), D[i]? = some d → (wkE v'.S (h + 1) d).length = min N (m - i * N) := by
    intro i d hd
    obtain ⟨x, hxi⟩ := hxg i (hlt hd)
    rw [hDg i (hlt hd)] at hd
    cases hd
    rw [(key i x hxi).2.1, hN, hm]
    exact (L.sz i x hxi).1
  have hKg : ∀ i, i < n → Ks[i]? = some (l.getD (i * N) ent0).key := by
    intro i hi
    obtain ⟨x, hxi⟩ := hxg i hi
    rw [hK, List.getElem?_map, hxi, hN]
    show some (least3 _ x) = _
    rw [(L.sz i x hxi).2]
  have hNlt : ∀ i, i < n → i * N < m := by
    intro i hi
    have h1 : (i + 1) * N ≤ m + N - 1 := Nat.le_trans (Nat.mul_le_mul_right N hi) (by rw [hcnt]; exact Nat.div_mul_le_self _ _)
    rw [Nat.add_mul, Nat.one_mul] at h1
    omega
  obtain ⟨X, hX⟩ : ∃ X : ND3, X = ⟨[], Ks, D⟩ := ⟨_, rfl⟩
  have hXD : X.D.length = n := by rw [hX]; exact hDl
  have hcap : capN (h + 1) = N * 16 := by rw [capN_succ, hN]
  have hcn : (chunkN X).length = (n + 15) / 16 := by rw [chunkN_length, hXD]
  have hch : ∀ (j : Nat) (y : ND3), (chunkN X)[j]? = some y → j * 16 < n ∧ y = ⟨[], cutL Ks (j * 16) (min (j * 16 + 16) n), cutL D (j * 16) (min (j * 16 + 16) n)⟩ := by
    intro j y hy
    have hj : j < (n + 15) / 16 := by have := (List.getElem?_eq_some_iff.1 hy).1; omega
    rw [chunkN, List.getElem?_map, List.getElem?_range (by rw [hXD]; exact hj)] at hy
    have hy' : chN X j = y := Option.some.inj hy
    refine ⟨by omega, ?_⟩
    rw [← hy', chN, hXD, hX]
  have hgl : ∀ j, j * 16 < n → ((cutL D (j * 16) (min (j * 16 + 16) n)).flatMap (wkE v'.S (h + 1))).length = min (N * 16) (m - j * (N * 16)) := by
    intro j hj
    rw [cut_len hDs _ _ (by omega) (by omega)]
    exact group_len hNp hcnt hj
  obtain ⟨gs, hgs⟩ : ∃ gs, gs = (List.range ((n + 15) / 16)).map (fun j => cutL D (j * 16) (min (j * 16 + 16) n)) := ⟨_, rfl⟩
  have hgsl : gs.length = (n + 15) / 16 := by rw [hgs]; simp
  have hgsf : gs.flatten = D := by
    have := chunks_flat D ((n + 15) / 16) (by rw [hDl]; exact Nat.le_refl _)
    rw [hDl] at this
    rw [hgs, this]
    exact List.take_of_length_le (by omega)
  have hgg : ∀ (j : Nat) (g : List Int), gs[j]? = some g → j * 16 < n ∧ g = cutL D (j * 16) (min (j * 16 + 16) n) := by
    intro j g hg
    have hj : j < (n + 15) / 16 := by have := (List.getElem?_eq_some_iff.1 hg).1; omega
    rw [hgs, List.getElem?_map, List.getElem?_range hj] at hg
    exact ⟨by omega, (Option.some.inj hg).symm⟩
  have hcnt' : (n + 15) / 16 = (m + N * 16 - 1) / (N * 16) := by rw [hcnt]; exact ceil_ceil m N hNp
  have hmpos : 0 < m := by have := hNlt 0 (by omega); omega
  have hDC : D.map (wkC v'.S (h + 1)) = xs.map (cX v.S h) := by
    refine List.ext_getElem? (fun i => ?_)
    rw [List.getElem?_map, List.getElem?_map]
    by_cases hi : i < n
    · obtain ⟨x, hxi⟩ := hxg i hi
      rw [hDg i hi, hxi]
      show some _ = some _
      rw [(key i x hxi).2.2.1]
    · rw [List.getElem?_eq_none (by omega), List.getElem?_eq_none (by omega)]; rfl
  have e0 : decide (h + 1 = 0) = false := decide_eq_false (by omega)
  refine ⟨rfl, ?_, hDl⟩
  show Lev l (h + 1) (c + n) v' (chunkN ⟨[], Ks, D⟩)
  rw [← hX]
  refine { vc := hvc, c2 := ?_, n1 := ?_, cnt := ?_, ok := ?_, sz := ?_, ents := ?_, vis := ?_, tot := ?_ }
  · have := L.c2; omega
  · rw [hcn]; omega
  · rw [hcn, hcap, ← hm]; exact hcnt'
  · intro y hy
    obtain ⟨j, hjy⟩ := List.getElem?_of_mem hy
    obtain ⟨hj, rfl⟩ := hch j y hjy
    obtain ⟨lo, hlo⟩ : ∃ lo, lo = j * 16 := ⟨_, rfl⟩
    obtain ⟨hi, hhi⟩ : ∃ hi, hi = min (j * 16 + 16) n := ⟨_, rfl⟩
    rw [← hhi, ← hlo]
    have kl : (cutL Ks lo hi).length = hi - lo := cutL_len _ _ _ (by omega)
    have dl : (cutL D lo hi).length = hi - lo := cutL_len _ _ _ (by omega)
    have kg : ∀ i, i < hi - lo → (cutL Ks lo hi).getD i (0, 0) = (l.getD ((lo + i) * N) ent0).key := by
      intro i hi'
      rw [List.getD_eq_getElem?_getD, cutL_get _ _ _ _ (by omega), hKg (lo + i) (by omega)]; rfl
    have dg : ∀ i, i < hi - lo → (cutL D lo hi)[i]? = some ((c + (lo + i) : Nat) : Int) := by
      intro i hi'
      rw [cutL_get _ _ _ _ (by omega), hDg (lo + i) (by omega)]
    have hkey : ∀ i, i < hi - lo → keyAt (cutL Ks lo hi) i = true := by
      intro i hi'
      have hlt := hNlt (lo + i) (by omega)
      have hok : keyOk (l.getD ((lo + i) * N) ent0).key = true := by
        have := hl.1 ((lo + i) * N) (by omega)
        simp only [entOk, Bool.and_eq_true] at this
        exact this.1.1.1.1.1.1
      rw [keyAt, kg i hi', hok, Bool.true_and]
      rcases Nat.eq_zero_or_pos i with h0 | h0
      · rw [decide_eq_true h0]; rfl
      · rw [kg (i - 1) (by omega), hrise ((lo + (i - 1)) * N) ((lo + i) * N) (Nat.mul_lt_mul_of_pos_right (by omega) hNp) (by omega), Bool.or_true]
    have hkid : ∀ i, i < hi - lo → kidAt (cutL D lo hi) i = true := by
      intro i hi'
      have hd : (cutL D lo hi).getD i 0 = ((c + (lo + i) : Nat) : Int) := by rw [List.getD_eq_getElem?_getD, dg i hi']; rfl
      have hb : betw ((c + (lo + i) : Nat) : Int) 2 511 = true := by
        have := L.c2
        rw [betw, decide_eq_true (by omega), decide_eq_true (by omega)]; rfl
      have hnin : ¬ ((c + (lo + i) : Nat) : Int) ∈ (cutL D lo hi).take i := by
        intro hmem
        obtain ⟨q, hq⟩ := List.getElem?_of_mem hmem
        have hql : q < i := by
          have := (List.getElem?_eq_some_iff.1 hq).1
          rw [List.length_take] at this
          omega
        rw [List.getElem?_take, if_pos hql, dg q (by omega)] at hq
        have := Option.some.inj hq
        omega
      rw [kidAt, hd, hb, decide_eq_false hnin]; rfl
    refine ⟨?_, (fun e he => by cases he), ?_, ?_⟩
    · rw [e0, rightN, if_neg (by simp)]
      have hin : innerB (cutL Ks lo hi) (cutL D lo hi) = true := by
        rw [innerB, kl, dl, keysTo_of _ hkey, kidsTo_of _ hkid, decide_eq_true rfl, betw, decide_eq_true (by omega), decide_eq_true (by omega)]; rfl
      rw [hin]; rfl
    · intro k hk
      have hk' : k ∈ cutL Ks lo hi := hk
      obtain ⟨q, hq⟩ := List.getElem?_of_mem hk'
      have hql : q < hi - lo := by have := (List.getElem?_eq_some_iff.1 hq).1; omega
      have hk2 := kg q hql
      rw [List.getD_eq_getElem?_getD, hq] at hk2
      have hk3 : k = (l.getD ((lo + q) * N) ent0).key := hk2
      have hlt := hNlt (lo + q) (by omega)
      rw [hk3, List.getD_eq_getElem?_getD, List.getElem?_eq_getElem (by omega)]
      exact (hl.2.2 _ (List.getElem_mem _)).1
    · intro d hd
      have hd' : d ∈ cutL D lo hi := hd
      obtain ⟨q, hq⟩ := List.getElem?_of_mem hd'
      have hql : q < hi - lo := by have := (List.getElem?_eq_some_iff.1 hq).1; omega
      rw [dg q hql] at hq
      obtain ⟨x, hxi⟩ := hxg (lo + q) (by omega)
      have hdv : ((c + (lo + q) : Nat) : Int) = d := Option.some.inj hq
      rw [← hdv]
      exact (key (lo + q) x hxi).1
  · intro j y hjy
    obtain ⟨hj, rfl⟩ := hch j y hjy
    constructor
    · show ([] ++ (cutL D (j * 16) (min (j * 16 + 16) n)).flatMap (wkE v'.S (h + 1))).length = _
      rw [List.nil_append, hgl j hj, hcap, hm]
    · rw [e0, hcap]
      show (cutL Ks (j * 16) (min (j * 16 + 16) n)).getD 0 (0, 0) = _
      rw [List.getD_eq_getElem?_getD, cutL_get _ _ _ _ (by omega), Nat.add_zero, hKg _ hj, Nat.mul_comm N 16, ← Nat.mul_assoc]; rfl
  · have e1 : (chunkN X).flatMap (entX v'.S (h + 1)) = (gs.flatten).flatMap (wkE v'.S (h + 1)) := by
      rw [hgs, chunkN, hXD]
      generalize List.range ((n + 15) / 16) = rs
      induction rs with
      | nil => rfl
      | cons r rs ih =>
        rw [List.map_cons, List.map_cons, List.flatMap_cons, List.flatten_cons, List.flatMap_append, ih]
        congr 1
        rw [entX, chN, hXD, hX]; rfl
    rw [e1, hgsf]
    have e2 : D.flatMap (wkE v'.S (h + 1)) = xs.flatMap (entX v.S h) := by
      rw [List.flatMap_def, List.flatMap_def]
      congr 1
      refine List.ext_getElem? (fun i => ?_)
      rw [List.getElem?_map, List.getElem?_map]
      by_cases hi : i < n
      · obtain ⟨x, hxi⟩ := hxg i hi
        rw [hDg i hi, hxi]
        show some _ = some _
        rw [(key i x hxi).2.1]
      · rw [List.getElem?_eq_none (by omega), List.getElem?_eq_none (by omega)]; rfl
    rw [e2]; exact L.ents
  · intro k hk
    rw [← hm] at hk
    have s1 : gVL (nX v'.S (h + 1)) (cX v'.S (h + 1)) (vX v'.S (h + 1)) (chunkN X) k
        = gVL (fun g : List Int => (g.map fun d => (wkE v'.S (h + 1) d).length).sum) (fun g => 1 + (g.map (wkC v'.S (h + 1))).sum) (fun g k => 1 + gVL (fun d => (wkE v'.S (h + 1) d).length) (wkC v'.S (h + 1)) (wkV v'.S (h + 1)) g k) gs k := by
      refine gVL_zip _ _ _ (by rw [hcn, hgsl]) (fun j y g hy hg => ?_)
      obtain ⟨_, rfl⟩ := hch j y hy
      obtain ⟨_, rfl⟩ := hgg j g hg
      refine ⟨?_, rfl, fun k => ?_⟩
      · show ([] ++ _).length = _
        rw [List.nil_append, sum_flat]
      · show 1 + (if k < ([] : List ENT).length then 0 else wkVL _ _ _ _ (k - ([] : List ENT).length)) = _
        rw [if_neg (by simp), wkVL_g]; rfl
    have hsum : (D.map fun d => (wkE v'.S (h + 1) d).length).sum = m := by
      rw [← sum_flat]
      have := pre_len hDs n (by omega)
      rw [List.take_of_length_le (by omega)] at this
      rw [this]
      have h1 := Nat.div_add_mod (m + N - 1) N
      have h2 := Nat.mod_lt (m + N - 1) hNp
      rw [← hcnt, Nat.mul_comm] at h1
      omega
    rw [s1, gVL_groups gs k (by rw [hgsf, hsum]; exact hk), hgsf]
    have s2 : gVL (fun d => (wkE v'.S (h + 1) d).length) (wkC v'.S (h + 1)) (wkV v'.S (h + 1)) D k = gVL (nX v.S h) (cX v.S h) (vX v.S h) xs k := by
      refine gVL_zip _ _ _ (by omega) (fun i d x hd hxi => ?_)
      rw [hDg i (hlt hd)] at hd
      cases hd
      exact ⟨by rw [(key i x hxi).2.1]; rfl, (key i x hxi).2.2.1, (key i x hxi).2.2.2⟩
    have hm' : m ≤ (0 + gs.length) * (N * 16) := by
      rw [Nat.zero_add, hgsl, hcnt']
      have h1 := Nat.div_add_mod (m + N * 16 - 1) (N * 16)
      have h2 := Nat.mod_lt (m + N * 16 - 1) (show 0 < N * 16 by omega)
      rw [Nat.mul_comm] at h1
      omega
    have s3 := gIdx_div (n := fun d => (wkE v'.S (h + 1) d).length) (M := N * 16) (m := m) (by omega) gs 0 k (fun j g hg => by
      obtain ⟨hj, rfl⟩ := hgg j g hg
      rw [← sum_flat, hgl j hj, Nat.zero_add]) (by omega) hk hm'
    rw [Nat.zero_mul, Nat.sub_zero, Nat.sub_zero] at s3
    rw [s2, s3, L.vis k (by omega), visF, hcap]
  · have e1 : (chunkN X).map (cX v'.S (h + 1)) = gs.map (fun g => 1 + (g.map (wkC v'.S (h + 1))).sum) := by
      rw [hgs, chunkN, hXD, List.map_map, List.map_map]
      refine List.map_congr_left (fun j _ => ?_)
      show 1 + _ = 1 + _
      rw [chN, hXD, hX]
    rw [e1, sum_groups, hgsf, hDC, L.tot, hgsl, visF, hcap, ← hm, hcnt']
    have : m + N * 16 - 1 = (m - 1) + N * 16 := by omega
    rw [this, Nat.add_div_right _ (show 0 < N * 16 by omega)]
    omega
end Go.Proofs.Ytckdlfbbkemklaa
end
section
/- walk: a tree that is loaded: its entries, and the nodes that are read for them. -/
namespace Go.Proofs.Ytckdlfbbkemklaa
open Go Go.RowKit Go.Gv
set_option linter.unusedVariables false
set_option linter.unusedSimpArgs false

theorem node_facts {S S' : DS} {c c' h j : Nat} {x : ND3} (hr : rdN S' (j : Int) (decide (h = 0)) = ⟨decide (h = 0), x.E, x.K, x.D, 0⟩) (hag : agree S S' c) (hc : c ≤ c') (hj : j < c') (hx : rightN (decide (h = 0)) x.E x.K x.D = true) (hd : ∀ d ∈ x.D, wkGc S c h d) :
    wkGc S' c' (h + 1) (j : Int) ∧ wkE S' (h + 1) (j : Int) = entX S h x ∧ wkC S' (h + 1) (j : Int) = cX S h x ∧ ∀ k, wkV S' (h + 1) (j : Int) k = vX S h x k := by
  have sm := fun d hd' => wkGc_same (c' := c') hag hc h d (hd d hd')
  refine ⟨⟨⟨j, hj, rfl⟩, by rw [hr], by rw [hr]; exact (right_len hx).1, by rw [hr]; exact (right_len hx).2, fun k hk => by rw [hr] at hk; exact (sm k hk).1⟩, ?_, ?_, fun k => ?_⟩
  · rw [wkE, hr, entX, flat_congr (fun k hk => (sm k hk).2.1)]
  · rw [wkC, hr, cX, List.map_congr_left (fun k hk => (sm k hk).2.2.1)]
  · rw [wkV, hr, vX, wkVL_g, wkVL_g]
    congr 2
    refine gVL_zip _ _ _ rfl (fun i x y hx hy => ?_)
    rw [hx] at hy
    cases hy
    have := sm x (List.mem_of_getElem? hx)
    exact ⟨by rw [this.2.1], this.2.2.1, this.2.2.2⟩
/-- what a load leaves -/
structure Held (l : List ENT) (R : VS × (Int × Nat) × Nat) : Prop where
  e : R.2.2 = 0
  c : ∃ c, c ≤ 200 ∧ VC c R.1
  h5 : R.2.1.2 ≤ 5
  h1 : 1 ≤ R.2.1.2
  g : wkG R.1.S R.2.1.2 R.2.1.1
  E : wkE R.1.S R.2.1.2 R.2.1.1 = l
  V : ∀ k, k < l.length → wkV R.1.S R.2.1.2 R.2.1.1 k = visF (R.2.1.2 - 1) k
  C : wkC R.1.S R.2.1.2 R.2.1.1 = visF (R.2.1.2 - 1) (l.length - 1)
  last : (l.length + capN (R.2.1.2 - 1) - 1) / capN (R.2.1.2 - 1) = 1
  big : ∀ i, i < R.2.1.2 - 1 → 2 ≤ (l.length + capN i - 1) / capN i
theorem Lev.fin {l : List ENT} {h c : Nat} {v : VS} {x : ND3} (L : Lev l h c v [x]) (hc : c < 200) (hh : h ≤ 4) (hb : ∀ i, i < h → 2 ≤ (l.length + capN i - 1) / capN i) : Held l (finN (decide (h = 0)) v [x] (h + 1)) := by
  obtain ⟨o1, o2, o3, o4⟩ := L.ok x (List.mem_singleton.2 rfl)
  obtain ⟨v', e, hvc, hrd, hag⟩ := L.vc.wr L.c2 hc o1 o2 o3
  have hag' : agree v.S v'.S c := fun j lf hj => hag j lf (by omega) (by omega)
  obtain ⟨f1, f2, f3, f4⟩ := node_facts (c' := c + 1) hrd hag' (by omega) (by omega) o1 o4
  have hx : ([x] : List ND3).getD 0 ⟨[], [], []⟩ = x := rfl
  have hR : finN (decide (h = 0)) v [x] (h + 1) = (v', ((c : Int), h + 1), 0) := by rw [finN, if_neg (by omega), hx, e]
  rw [hR]
  have hents := L.ents
  rw [List.flatMap_cons, List.flatMap_nil, List.append_nil] at hents
  have hcnt := L.cnt
  have hvis := L.vis
  have htot := L.tot
  have hn : nX v.S h x = l.length := by rw [nX, hents]
  refine { e := rfl, c := ⟨c + 1, by omega, hvc⟩, h5 := ?_, h1 := ?_, g := wkGc_G (by omega) _ _ f1, E := ?_, V := ?_, C := ?_, last := ?_, big := ?_ }
  · show h + 1 ≤ 5; omega
  · show 1 ≤ h + 1; omega
  · show wkE v'.S (h + 1) (c : Int) = l
    rw [f2]; exact hents
  · intro k hk
    show wkV v'.S (h + 1) (c : Int) k = visF h k
    rw [f4, ← hvis k hk, gVL, if_pos (by omega)]
  · show wkC v'.S (h + 1) (c : Int) = visF h (l.length - 1)
    rw [f3, ← htot]; simp
  · show (l.length + capN h - 1) / capN h = 1
    rw [← hcnt]; rfl
  · exact hb
theorem stack_spec {l : List ENT} (hl : loadOk l) : ∀ (f h c : Nat) (v : VS) (xs : List ND3), Lev l h c v xs → xs.length ≤ f + 1 → h ≤ 4 → xs.length ≤ 16 ^ (4 - h) → c + 2 * xs.length ≤ 199 → (∀ i, i < h → 2 ≤ (l.length + capN i - 1) / capN i) →
    Held l (stN f (decide (h = 0)) v xs (h + 1)) := by
  intro f
  induction f with
  | zero =>
    intro h c v xs L hf hh hp hc hb
    have h1 : xs.length = 1 := by have := L.n1; omega
    obtain ⟨x, rfl⟩ : ∃ x, xs = [x] := ⟨xs[0]'(by omega), List.ext_getElem (by simp [h1]) (fun i p q => by simp at q; subst q; rfl)⟩
    exact L.fin (by simp at hc; omega) hh hb
  | succ f ih =>
    intro h c v xs L hf hh hp hc hb
    by_cases h1 : xs.length ≤ 1
    · have h1 : xs.length = 1 := by have := L.n1; omega
      obtain ⟨x, rfl⟩ : ∃ x, xs = [x] := ⟨xs[0]'(by omega), List.ext_getElem (by simp [h1]) (fun i p q => by simp at q; subst q; rfl)⟩
      rw [stN_fin (by simp)]
      exact L.fin (by simp at hc; omega) hh hb
    · obtain ⟨s1, s2, s3⟩ := L.step hl (by omega) (by omega)
      have hlen := chunkN_length (unN (decide (h = 0)) v xs).2.1
      rw [s3] at hlen
      have hh' : h + 1 ≤ 4 := by
        rcases Nat.lt_or_ge h 4 with q | q
        · exact q
        · have : h = 4 := by omega
          subst this
          simp at hp
          omega
      rw [stN, if_neg h1, if_neg (by omega)]
      have e0 : decide (h + 1 = 0) = false := decide_eq_false (by omega)
      have := ih (h + 1) (c + xs.length) _ _ s2 (by omega) hh' (by
        rw [hlen]
        have e : 4 - h = (4 - (h + 1)) + 1 := by omega
        rw [e, Nat.pow_succ] at hp
        omega) (by omega) (fun i hi => by
        by_cases e : i = h
        · subst e; rw [← L.cnt]; omega
        · exact hb i (by omega))
      rw [e0] at this
      exact this
theorem gVL_one {α : Type} {n : α → Nat} {C : α → Nat} {V : α → Nat → Nat} : ∀ (xs : List α) (k : Nat), (∀ x ∈ xs, C x = 1 ∧ ∀ k, V x k = 1) → k < (xs.map n).sum → gVL n C V xs k = gIdx n (xs.map fun x => [x]) k + 1
  | [], k, _, h => by simp at h
  | x :: xs, k, hp, h => by
    obtain ⟨h1, h2⟩ := hp x (List.mem_cons_self ..)
    rw [List.map_cons, List.sum_cons] at h
    have e : ([x].map n).sum = n x := by simp
    rw [gVL, List.map_cons, gIdx, e, h1, h2]
    by_cases hk : k < n x
    · rw [if_pos hk, if_pos hk]
    · rw [if_neg hk, if_neg hk, gVL_one xs _ (fun y hy => hp y (List.mem_cons_of_mem _ hy)) (by omega)]; omega
theorem leaf_right {l : List ENT} (hl : loadOk l) {j : Nat} (hj : j * 7 < l.length) : rightN true (leafN l j).E (leafN l j).K (leafN l j).D = true := by
  obtain ⟨e, he⟩ : ∃ e, e = min 7 (l.length - j * 7) := ⟨_, rfl⟩
  have hE : (leafN l j).E = cutL l (j * 7) (j * 7 + e) := by rw [leafN, ← he]
  have hlen : (cutL l (j * 7) (j * 7 + e)).length = e := by rw [cutL_len _ _ _ (by omega)]; omega
  have hg : ∀ i, i < e → (cutL l (j * 7) (j * 7 + e)).getD i ent0 = l.getD (j * 7 + i) ent0 := by
    intro i hi
    rw [List.getD_eq_getElem?_getD, cutL_get _ _ _ _ (by omega), List.getD_eq_getElem?_getD]
  have hat : ∀ i, i < e → entAt (cutL l (j * 7) (j * 7 + e)) i = true := by
    intro i hi
    rw [entAt, hg i hi, hl.1 _ (by omega), Bool.true_and]
    rcases Nat.eq_zero_or_pos i with h0 | h0
    · rw [decide_eq_true h0]; rfl
    · obtain ⟨hls, hme⟩ := hl.2.1 (j * 7 + i) (by omega) (by omega)
      rw [hg (i - 1) (by omega), show j * 7 + (i - 1) = j * 7 + i - 1 by omega]
      have hok := entOk_spec (hl.1 (j * 7 + i) (by omega))
      generalize l.getD (j * 7 + i - 1) ent0 = p at *
      generalize l.getD (j * 7 + i) ent0 = q at *
      have ha : afterE p q = true := by
        rw [afterE, hls, Bool.true_and, Bool.not_eq_true']
        by_cases hs : p.key.1 = q.key.1
        · have hlt : p.key.2 < q.key.2 := by
            simp [lessK, hs] at hls
            exact hls
          have h2 : p.key.2 ≤ q.fin := by have := hok.2.1; omega
          rw [meetsE, decide_eq_true hs, decide_eq_true h2, Bool.true_and, Bool.true_and] at hme
          rw [hme, Bool.and_false]
        · rw [decide_eq_false hs, Bool.false_and]
      rw [ha, Bool.or_true]
  have hto : ∀ n, n ≤ e → entsTo (cutL l (j * 7) (j * 7 + e)) n = true := by
    intro n
    induction n with
    | zero => intro _; rfl
    | succ n ih => intro hn; rw [entsTo, ih (by omega), hat n (by omega)]; rfl
  have hK : (leafN l j).K = [] := rfl
  have hD : (leafN l j).D = [] := rfl
  rw [hE, hK, hD, rightN, if_pos rfl, leafB, hlen, hto e (Nat.le_refl _), betw, decide_eq_true (show (1 : Int) ≤ (e : Int) by omega), decide_eq_true (show (e : Int) ≤ 7 by omega)]; rfl
theorem leaves_flat (l : List ENT) : ∀ q, q ≤ (l.length + 6) / 7 → ((List.range q).map (leafN l)).flatMap (fun x => x.E) = l.take (min (q * 7) l.length)
  | 0, _ => by simp
  | q + 1, h => by
    rw [List.range_succ, List.map_append, List.flatMap_append, leaves_flat l q (by omega)]
    simp only [List.map_cons, List.map_nil, List.flatMap_cons, List.flatMap_nil, List.append_nil, leafN, cutL]
    have h1 : min (q * 7) l.length = q * 7 := by omega
    have h2 : min ((q + 1) * 7) l.length = q * 7 + min 7 (l.length - q * 7) := by omega
    rw [h1, h2, Nat.add_sub_cancel_left, List.take_add]
theorem base_lev {l : List ENT} (hl : loadOk l) (h1 : 1 ≤ l.length) : Lev l 0 2 v200 (leavesN l) := by
  have hll := leavesN_length l
  have hg : ∀ (j : Nat) (x : ND3), (leavesN l)[j]? = some x → j * 7 < l.length ∧ x = leafN l j := by
    intro j x hx
    have hj : j < (l.length + 6) / 7 := by have := (List.getElem?_eq_some_iff.1 hx).1; omega
    rw [leavesN, List.getElem?_map, List.getElem?_range hj] at hx
    exact ⟨by omega, (Option.some.inj hx).symm⟩
  have hc0 : capN 0 = 7 := rfl
  have e0 : decide ((0 : Nat) = 0) = true := rfl
  have hent : ∀ j, entX v200.S 0 (leafN l j) = (leafN l j).E := fun j => by rw [entX]; show (leafN l j).E ++ [] = _; rw [List.append_nil]
  have hel : ∀ j, j * 7 < l.length → (leafN l j).E.length = min 7 (l.length - j * 7) := fun j hj => by
    show (cutL l (j * 7) (j * 7 + min 7 (l.length - j * 7))).length = _
    rw [cutL_len _ _ _ (by omega)]; omega
  have hn : ∀ (j : Nat) (x : ND3), (leavesN l)[j]? = some x → nX v200.S 0 x = min 7 (l.length - j * 7) := by
    intro j x hx
    obtain ⟨hj, rfl⟩ := hg j x hx
    rw [nX, hent, hel j hj]
  have hents : (leavesN l).flatMap (entX v200.S 0) = l := by
    have e : (leavesN l).flatMap (entX v200.S 0) = (leavesN l).flatMap (fun x => x.E) := by
      refine flat_congr (fun x hx => ?_)
      obtain ⟨j, hj⟩ := List.getElem?_of_mem hx
      obtain ⟨_, rfl⟩ := hg j x hj
      exact hent j
    rw [e, leavesN, leaves_flat l _ (Nat.le_refl _)]
    exact List.take_of_length_le (by omega)
  have hsum : ((leavesN l).map (nX v200.S 0)).sum = l.length := by
    have := congrArg List.length hents
    rw [sum_flat] at this
    exact this
  refine { vc := v200_VC, c2 := Nat.le_refl _, n1 := by omega, cnt := ?_, ok := ?_, sz := ?_, ents := hents, vis := ?_, tot := ?_ }
  · rw [hll, hc0]; rfl
  · intro x hx
    obtain ⟨j, hj⟩ := List.getElem?_of_mem hx
    obtain ⟨hj', rfl⟩ := hg j x hj
    exact ⟨leaf_right hl hj', leavesN_R hl.2.2 _ hx, (fun k hk => by cases hk), (fun d hd => by cases hd)⟩
  · intro j x hx
    refine ⟨by rw [hn j x hx, hc0], ?_⟩
    obtain ⟨hj, rfl⟩ := hg j x hx
    show (List.getD (cutL l (j * 7) (j * 7 + min 7 (l.length - j * 7))) 0 ent0).key = _
    rw [List.getD_eq_getElem?_getD, cutL_get _ _ _ _ (by omega), Nat.add_zero, hc0, List.getD_eq_getElem?_getD]
  · intro k hk
    rw [gVL_one (leavesN l) k (fun x hx => ?_) (by rw [hsum]; exact hk)]
    · have := gIdx_div (n := nX v200.S 0) (M := 7) (m := l.length) (by decide) ((leavesN l).map fun x => [x]) 0 k (fun J g hJ => by
        rw [List.getElem?_map, Option.map_eq_some_iff] at hJ
        obtain ⟨x, hx, rfl⟩ := hJ
        rw [Nat.zero_add]
        have := hn J x hx
        simp [this]) (by omega) hk (by rw [List.length_map, hll]; omega)
      rw [Nat.zero_mul, Nat.sub_zero, Nat.sub_zero] at this
      rw [this]; rfl
    · obtain ⟨j, hj⟩ := List.getElem?_of_mem hx
      obtain ⟨_, rfl⟩ := hg j x hj
      refine ⟨rfl, fun k => ?_⟩
      rw [vX]
      split
      · rfl
      · rfl
  · have e : (leavesN l).map (cX v200.S 0) = List.replicate (leavesN l).length 1 := by
      refine List.eq_replicate_iff.2 ⟨by simp, fun b hb => ?_⟩
      obtain ⟨x, hx, rfl⟩ := List.mem_map.1 hb
      obtain ⟨j, hj⟩ := List.getElem?_of_mem hx
      obtain ⟨_, rfl⟩ := hg j x hj
      rfl
    rw [e, List.sum_replicate_nat, hll]
    show _ = (l.length - 1) / 7 + 1
    omega
/-- a load onto a new disk -/
theorem load_spec {l : List ENT} (hl : loadOk l) (h1 : 1 ≤ l.length) (h2 : l.length ≤ 600) : Held l (loadN v200 l) := by
  have hll := leavesN_length l
  rw [loadN, stackN, if_neg (by omega)]
  have := stack_spec hl (leavesN l).length 0 2 v200 (leavesN l) (base_lev hl h1) (by omega) (by omega) (by show _ ≤ 16 ^ 4; rw [hll]; have : 16 ^ 4 = 65536 := rfl; omega) (by omega) (fun i hi => by omega)
  exact this
end Go.Proofs.Ytckdlfbbkemklaa
end
section
/- tree: a view's Node: the walk. -/
namespace Go.Proofs.Ytckdlfbbkemklaa
open Go Go.RowKit Go.Gv
set_option linter.unusedVariables false
set_option linter.unusedSimpArgs false

set_option maxHeartbeats 8000000 in
theorem view_Node (pv d : Nat) (v : VS) (a : Int) (leaf : Bool) (hv : v.ok) (hl : v.S.W.length ≤ 1000000) (ha : -1000000 ≤ a ∧ a ≤ 1000000) :
    Gv.Spec Try.prog 104 #[.pointer (some ⟨pv, 0, none⟩), .int .i64 a, .bool leaf] [blk pv 194 (viewL d v), DSK d v.S]
    (fun r H' => ∃ A c B e C f, r = .tuple #[ndW (rdN v.S a leaf).leaf (.slice A (rdN v.S a leaf).E.length c) (.slice B (rdN v.S a leaf).K.length e) (.slice C (rdN v.S a leaf).D.length f), .int .i64 ((rdN v.S a leaf).e : Int)]
      ∧ H' = [blk pv 194 (viewL d v), DSK d v.S, own 100 8 (.slice A (rdN v.S a leaf).E.length c) (rdN v.S a leaf).E.length (EL (rdN v.S a leaf).E), own 98 2 (.slice B (rdN v.S a leaf).K.length e) (rdN v.S a leaf).K.length (KL (rdN v.S a leaf).K), own 3 1 (.slice C (rdN v.S a leaf).D.length f) (rdN v.S a leaf).D.length (NL (rdN v.S a leaf).D)]) := by
  refine Gv.Spec.of (fun w h0 hw => ?_)
  refine Calls.enter Try.func104 rfl rfl rfl hw ?_
  simp only [argSlots]
  (try dsimp only [List.cons_append, List.nil_append])
  (refine Tri.seq (Tri.region ?_); apply Tri.op; rfl)
  (apply o_alloc; (case hn => rfl); intro b6)
  (apply Tri.op; rfl; apply o_assign; rfl; rfl; refine Tri.nil (Tri.thenN (Tri.seq (Tri.seq (Tri.region ?_)))); apply Tri.op; rfl; apply o_move; rfl; rfl; apply Tri.op; rfl; apply o_eqlN; rfl; rfl; rfl; refine Tri.nil (Tri.thenN ?_))
  ((with_reducible apply Tri.setb 12 (false)); (case h => rfl); (case hi => rfl))
  (apply Tri.condF; rfl; rfl; refine Tri.skip (Tri.thenN ?_))
  refine Tri.seq ?_
  (refine Tri.region ?_; apply Tri.op; rfl; apply o_assign; rfl; rfl; refine Tri.nil (Tri.thenN ?_))
  (apply Tri.seqMeet (α := Unit) (Lx := fun _ => [(0, .pointer (some ⟨pv, 0, none⟩)), (1, .int .i64 a), (2, .bool leaf), (6, .pointer (some ⟨b6, 0, none⟩)), (7, .int .i64 0), (8, .int .u8 ((kindN leaf).toNat : Int))]) (Hx := fun _ => [blk b6 33 (ndLL false (.slice none 0 0) (.slice none 0 0) (.slice none 0 0)), blk pv 194 (viewL d v), DSK d v.S, Ex h0]); rotate_left; (rintro ⟨⟩; (try dsimp only)); rotate_left)
  · cases leaf
    · (refine Tri.seq (Tri.region ?_); apply Tri.op; rfl; apply o_move; rfl; rfl; refine Tri.nil (Tri.thenN ?_); apply Tri.condF; rfl; rfl; refine Tri.skip (Tri.thenN ?_))
      ((with_reducible apply Tri.seti 8 (((kindN false).toNat : Int))); (case h => rfl); (case hi => rfl))
      ((with_reducible apply Tri.eqA (A := blk b6 _ _) (B := blk b6 33 (ndLL false (.slice none 0 0) (.slice none 0 0) (.slice none 0 0)))); (case p => (with_reducible repeat constructor)); (case e => rfl))
      (apply Tri.reach (y := ()); (case hL => ((try dsimp only); (repeat (first | exact trivial | refine And.intro (by rfl) ?_)))); (case p => ((try dsimp only); (repeat (first | exact Pulls.nil | (apply Pulls.cons; (case a => (first | ((repeat (first | with_reducible exact Gv.Pull.head | with_reducible apply Gv.Pull.tail)); done) | (repeat (first | exact Gv.Pull.head | apply Gv.Pull.tail))))))))))
    · (refine Tri.seq (Tri.region ?_); apply Tri.op; rfl; apply o_move; rfl; rfl; refine Tri.nil (Tri.thenN ?_); apply Tri.condT; rfl; rfl; refine Tri.region ?_; apply Tri.op; rfl; apply o_assign; rfl; rfl; refine Tri.nil (Tri.thenN ?_))
      ((with_reducible apply Tri.seti 8 (((kindN true).toNat : Int))); (case h => rfl); (case hi => rfl))
      ((with_reducible apply Tri.eqA (A := blk b6 _ _) (B := blk b6 33 (ndLL false (.slice none 0 0) (.slice none 0 0) (.slice none 0 0)))); (case p => (with_reducible repeat constructor)); (case e => rfl))
      (apply Tri.reach (y := ()); (case hL => ((try dsimp only); (repeat (first | exact trivial | refine And.intro (by rfl) ?_)))); (case p => ((try dsimp only); (repeat (first | exact Pulls.nil | (apply Pulls.cons; (case a => (first | ((repeat (first | with_reducible exact Gv.Pull.head | with_reducible apply Gv.Pull.tail)); done) | (repeat (first | exact Gv.Pull.head | apply Gv.Pull.tail))))))))))
  skip
  obtain ⟨R, hR⟩ : ∃ R, R = rdPg v.S a (kindN leaf) := ⟨_, rfl⟩
  have hrd := page_Read d v.S a (kindN leaf) hv.S hl ha
  rw [← hR] at hrd
  (apply Tri.seqMeet (α := Σ' (_ : Nat) (_ : Option Addr), Nat) (Lx := fun x => [(2, .bool leaf), (6, .pointer (some ⟨b6, 0, none⟩)), (9, .pointer (some ⟨x.1, 0, none⟩)), (10, .int .i64 (R.2 : Int))]) (Hx := fun x => [blk b6 33 (ndLL false (.slice none 0 0) (.slice none 0 0) (.slice none 0 0)), blk pv 194 (viewL d v), DSK d v.S, blk x.1 135 (pgL R.1 (.slice x.2.1 R.1.b.length x.2.2)), own 5 1 (.slice x.2.1 R.1.b.length x.2.2) R.1.b.length (B8 R.1.b), Ex h0]); rotate_left; (rintro ⟨b9, A, c⟩; (try dsimp only)); rotate_left)
  · skip
    ((first | with_reducible apply Tri.mix [blk pv 194 (viewL d v)] | (apply TriR.mix [blk pv 194 (viewL d v)]; (case hnd => rfl))); (case p => (repeat first | with_reducible constructor | constructor)); (dsimp only [List.length]))
    ((first | (apply TriM.q 0; rfl; rfl) | (apply TriM.qYes 0; rfl; rfl; rfl; with_reducible rfl)); kernel_rfl; rfl; rfl; (intro F K hK; apply o_move; rfl; rfl; exact hK); (first | (apply TriM.q 1; rfl; rfl) | (apply TriM.qYes 1; rfl; rfl; rfl; with_reducible rfl)); kernel_rfl; rfl; rfl; (intro F K hK; apply o_nilCheck; rfl; rfl; exact hK); (first | (apply TriM.q 2; rfl; rfl) | (apply TriM.qYes 2; rfl; rfl; rfl; with_reducible rfl)); kernel_rfl; rfl; rfl; (intro F K hK; apply o_fieldAddr; rfl; rfl; exact hK))
    ((first | (apply TriM.q 3; (case ho => rfl); (case hg => rfl)) | (apply TriM.qYes 3; (case ho => rfl); (case hg => rfl); (case hyl => rfl); (case hb => with_reducible rfl))); (case hB => kernel_rfl); (case hd => rfl); (case hn => rfl); (case h => (intro F K hK; (try dsimp only [List.cons_append, List.nil_append]); (apply o_loadAgg; (case hx => rfl); (case p => (with_reducible repeat constructor)); (case hv => exact viewL_tab d v); (case hl => exact tabL_length); (case hn => rfl)); exact hK)))
    ((first | (apply TriM.q 4; rfl; rfl) | (apply TriM.qYes 4; rfl; rfl; rfl; with_reducible rfl)); kernel_rfl; rfl; rfl; (intro F K hK; apply o_move; rfl; rfl; exact hK); (first | (apply TriM.q 5; rfl; rfl) | (apply TriM.qYes 5; rfl; rfl; rfl; with_reducible rfl)); kernel_rfl; rfl; rfl; (intro F K hK; apply o_nilCheck; rfl; rfl; exact hK); (first | (apply TriM.q 6; rfl; rfl) | (apply TriM.qYes 6; rfl; rfl; rfl; with_reducible rfl)); kernel_rfl; rfl; rfl; (intro F K hK; apply o_fieldAddr; rfl; rfl; exact hK))
    ((first | (apply TriM.q 7; (case ho => rfl); (case hg => rfl)) | (apply TriM.qYes 7; (case ho => rfl); (case hg => rfl); (case hyl => rfl); (case hb => with_reducible rfl))); (case hB => kernel_rfl); (case hd => rfl); (case hn => rfl); (case h => (intro F K hK; (try dsimp only [List.cons_append, List.nil_append]); (apply o_load; (case hx => rfl); (case p => (with_reducible repeat constructor)); (case hv => exact viewL_d d v); (case hn => rfl)); exact hK)))
    ((first | (apply TriM.q 8; rfl; rfl) | (apply TriM.qYes 8; rfl; rfl; rfl; with_reducible rfl)); kernel_rfl; rfl; rfl; (intro F K hK; apply o_move; rfl; rfl; exact hK); (first | (apply TriM.q 9; rfl; rfl) | (apply TriM.qYes 9; rfl; rfl; rfl; with_reducible rfl)); kernel_rfl; rfl; rfl; (intro F K hK; apply o_move; rfl; rfl; exact hK))
    (apply TriM.a2 10 14; (case hoi => rfl); (case hoj => rfl); (case hgi => rfl); (case hgj => rfl); (case hr => kernel_rfl); (all_goals (try dsimp only [List.cons_append, List.nil_append])))
    · (apply o_callS (hs := hrd); (case hargs => (repeat first | exact evs.nil | (apply evs.cons; case a => rfl))); (case p => (repeat first | with_reducible constructor | constructor)); (case hn => rfl))
      rintro r H' ⟨A, c, rfl, rfl⟩
      (try dsimp only [List.cons_append, List.nil_append])
      (apply TriM.back; (case p => (repeat first | with_reducible constructor | constructor)))
      ((first | (apply TriM.q 11; rfl; rfl) | (apply TriM.qYes 11; rfl; rfl; rfl; with_reducible rfl)); kernel_rfl; rfl; rfl; (intro F K hK; apply o_move; rfl; rfl; exact hK); (first | (apply TriM.q 12; rfl; rfl) | (apply TriM.qYes 12; rfl; rfl; rfl; with_reducible rfl)); kernel_rfl; rfl; rfl; (intro F K hK; apply o_extract; rfl; rfl; rfl; exact hK); (first | (apply TriM.q 13; rfl; rfl) | (apply TriM.qYes 13; rfl; rfl; rfl; with_reducible rfl)); kernel_rfl; rfl; rfl; (intro F K hK; apply o_extract; rfl; rfl; rfl; exact hK))
      (apply TriM.a 14; (case ho => rfl); (case hg => rfl); (case hr => kernel_rfl); (try dsimp only [List.cons_append, List.nil_append]))
      (apply o_alloc; (case hn => rfl); intro b9)
      (apply TriM.back; (case p => (repeat first | with_reducible constructor | constructor)))
      (apply TriM.a 15; (case ho => rfl); (case hg => rfl); (case hr => kernel_rfl); (try dsimp only [List.cons_append, List.nil_append]))
      (apply o_storeAll (ys := pgL R.1 (.slice A R.1.b.length c)); (case hx => rfl); (case hy => rfl); (case p => (with_reducible repeat constructor)); (case hl => exact pgL_len R.1 (.slice A R.1.b.length c)); (case hc => rfl); (case h1 => exact pgL_one R.1 A _ c))
      (apply TriM.back; (case p => (repeat first | with_reducible constructor | constructor)))
      ((first | (apply TriM.q 16; rfl; rfl) | (apply TriM.qYes 16; rfl; rfl; rfl; with_reducible rfl)); kernel_rfl; rfl; rfl; (intro F K hK; apply o_assign; rfl; rfl; exact hK))
      (apply TriM.nil; (case hr => kernel_rfl); (try dsimp only [List.cons_append, List.nil_append]))
      (refine Tri.thenN ?_)
      (apply Tri.reach (y := ⟨b9, A, c⟩); (case hL => ((try dsimp only); (repeat (first | exact trivial | refine And.intro (by rfl) ?_)))); (case p => ((try dsimp only); (repeat (first | exact Pulls.nil | (apply Pulls.cons; (case a => (first | ((repeat (first | with_reducible exact Gv.Pull.head | with_reducible apply Gv.Pull.tail)); done) | (repeat (first | exact Gv.Pull.head | apply Gv.Pull.tail))))))))))
    · (apply o_alloc; (case hn => rfl); intro b9)
      (apply TriM.back; (case p => (repeat first | with_reducible constructor | constructor)))
      (apply TriM.a 10; (case ho => rfl); (case hg => rfl); (case hr => kernel_rfl); (try dsimp only [List.cons_append, List.nil_append]))
      (apply o_callS (hs := hrd); (case hargs => (repeat first | exact evs.nil | (apply evs.cons; case a => rfl))); (case p => (repeat first | with_reducible constructor | constructor)); (case hn => rfl))
      rintro r H' ⟨A, c, rfl, rfl⟩
      (try dsimp only [List.cons_append, List.nil_append])
      (apply TriM.back; (case p => (repeat first | with_reducible constructor | constructor)))
      ((first | (apply TriM.q 11; rfl; rfl) | (apply TriM.qYes 11; rfl; rfl; rfl; with_reducible rfl)); kernel_rfl; rfl; rfl; (intro F K hK; apply o_move; rfl; rfl; exact hK); (first | (apply TriM.q 12; rfl; rfl) | (apply TriM.qYes 12; rfl; rfl; rfl; with_reducible rfl)); kernel_rfl; rfl; rfl; (intro F K hK; apply o_extract; rfl; rfl; rfl; exact hK); (first | (apply TriM.q 13; rfl; rfl) | (apply TriM.qYes 13; rfl; rfl; rfl; with_reducible rfl)); kernel_rfl; rfl; rfl; (intro F K hK; apply o_extract; rfl; rfl; rfl; exact hK))
      (apply TriM.a 15; (case ho => rfl); (case hg => rfl); (case hr => kernel_rfl); (try dsimp only [List.cons_append, List.nil_append]))
      (apply o_storeAll (ys := pgL R.1 (.slice A R.1.b.length c)); (case hx => rfl); (case hy => rfl); (case p => (with_reducible repeat constructor)); (case hl => exact pgL_len R.1 (.slice A R.1.b.length c)); (case hc => rfl); (case h1 => exact pgL_one R.1 A _ c))
      (apply TriM.back; (case p => (repeat first | with_reducible constructor | constructor)))
      ((first | (apply TriM.q 16; rfl; rfl) | (apply TriM.qYes 16; rfl; rfl; rfl; with_reducible rfl)); kernel_rfl; rfl; rfl; (intro F K hK; apply o_assign; rfl; rfl; exact hK))
      (apply TriM.nil; (case hr => kernel_rfl); (try dsimp only [List.cons_append, List.nil_append]))
      (refine Tri.thenN ?_)
      (apply Tri.reach (y := ⟨b9, A, c⟩); (case hL => ((try dsimp only); (repeat (first | exact trivial | refine And.intro (by rfl) ?_)))); (case p => ((try dsimp only); (repeat (first | exact Pulls.nil | (apply Pulls.cons; (case a => (first | ((repeat (first | with_reducible exact Gv.Pull.head | with_reducible apply Gv.Pull.tail)); done) | (repeat (first | exact Gv.Pull.head | apply Gv.Pull.tail))))))))))
  have hN : rdN v.S a leaf = if R.2 = 0 then getN leaf R.1.b else ⟨false, [], [], [], R.2⟩ := by rw [rdN, ← hR]
  by_cases hz : R.2 = 0
  · rw [if_pos hz] at hN
    rw [hN]
    (refine Tri.seq (Tri.seq (Tri.region ?_)); apply Tri.op; rfl; apply o_move; rfl; rfl; apply Tri.op; rfl; apply o_neq; rfl; rfl; rfl; refine Tri.nil (Tri.thenN ?_))
    ((with_reducible apply Tri.setb 30 (false)); (case h => rfl); (case hi => (rw [hz]; rfl)))
    (apply Tri.condF; rfl; rfl; refine Tri.skip (Tri.thenN (Tri.seq (Tri.region ?_))); apply Tri.op; rfl; apply o_move; rfl; rfl; apply Tri.op; rfl; apply o_fieldAddr; rfl; rfl; apply Tri.op; rfl; apply o_load; rfl; (with_reducible repeat constructor); rfl; rfl; apply Tri.op; rfl)
    (apply o_callR (hs := node_GetN leaf (.slice A R.1.b.length c) R.1.b); (case hargs => (repeat first | exact evs.nil | (apply evs.cons; case a => rfl))); (case hpre => exact rdw_own (v := .slice A R.1.b.length c) (by (with_reducible repeat constructor))); (case hn => rfl))
    rintro r3 H3 ⟨A1, c1, B1, d1, C1, e1, rfl, rfl⟩
    (try dsimp only [List.cons_append, List.nil_append])
    generalize getN leaf R.1.b = G at *
    (apply Tri.op; rfl; apply o_extract; rfl; rfl; rfl; apply Tri.op; rfl; apply o_extract; rfl; rfl; rfl; apply Tri.op; rfl)
    (apply o_storeAll (ys := ndLL G.leaf (.slice A1 G.E.length c1) (.slice B1 G.K.length d1) (.slice C1 G.D.length e1)); (case hx => rfl); (case hy => rfl); (case p => (with_reducible repeat constructor)); (case hl => rfl); (case hc => rfl); (case h1 => exact ndLL_one G.leaf A1 B1 C1 _ c1 _ d1 _ e1))
    (apply Tri.op; rfl; apply o_assign; rfl; rfl; refine Tri.nil (Tri.thenN (Tri.ret ?_)))
    (apply Tri.fin; (case hr => rfl); (case h => exact ResL.cons ((Res1.agg rfl (by (with_reducible repeat constructor)) (by rw [List.drop_zero]; exact List.take_of_length_le (Nat.le_of_eq (rfl : (ndLL G.leaf (.slice A1 G.E.length c1) (.slice B1 G.K.length d1) (.slice C1 G.D.length e1)).length = 4))) (rfl : (ndLL G.leaf (.slice A1 G.E.length c1) (.slice B1 G.K.length d1) (.slice C1 G.D.length e1)).length = 4))) (ResL.cons (Res1.tmp rfl) (ResL.nil))); (apply fin_R (Hn := [blk pv 194 (viewL d v), DSK d v.S, own 100 8 (.slice A1 G.E.length c1) G.E.length (EL G.E), own 98 2 (.slice B1 G.K.length d1) G.K.length (KL G.K), own 3 1 (.slice C1 G.D.length e1) G.D.length (NL G.D)])); (case p => exact (by (repeat first | with_reducible constructor | constructor))); exact ⟨A1, c1, B1, d1, C1, e1, rfl, rfl⟩)
  · rw [if_neg hz] at hN
    rw [hN]
    (refine Tri.seq (Tri.seq (Tri.region ?_)); apply Tri.op; rfl; apply o_move; rfl; rfl; apply Tri.op; rfl; apply o_neq; rfl; rfl; rfl; refine Tri.nil (Tri.thenN ?_))
    ((with_reducible apply Tri.setb 30 (true)); (case h => rfl); (case hi => (rw [decide_eq_true]; omega)))
    (apply Tri.condT; rfl; rfl; refine Tri.seq (Tri.region ?_); apply Tri.op; rfl; apply o_build0; rfl; apply Tri.op; rfl; apply o_move; rfl; rfl; apply Tri.op; rfl)
    (apply o_storeAll (ys := ndLL false (.slice none 0 0) (.slice none 0 0) (.slice none 0 0)); (case hx => rfl); (case hy => rfl); (case p => (with_reducible repeat constructor)); (case hl => rfl); (case hc => rfl); (case h1 => exact ndLL_one false none none none 0 0 0 0 0 0))
    (apply Tri.op; rfl; apply o_assign; rfl; rfl; refine Tri.nil (Tri.thenN (Tri.ret (Tri.thenR ?_))))
    (with_reducible apply Tri.ownNil 100 8)
    (with_reducible apply Tri.ownNil 98 2)
    (with_reducible apply Tri.ownNil 3 1)
    (apply Tri.fin; (case hr => rfl); (case h => exact ResL.cons ((Res1.agg rfl (by (with_reducible repeat constructor)) (by rw [List.drop_zero]; exact List.take_of_length_le (Nat.le_of_eq (rfl : (ndLL false (.slice none 0 0) (.slice none 0 0) (.slice none 0 0)).length = 4))) (rfl : (ndLL false (.slice none 0 0) (.slice none 0 0) (.slice none 0 0)).length = 4))) (ResL.cons (Res1.tmp rfl) (ResL.nil))); (apply fin_R (Hn := [blk pv 194 (viewL d v), DSK d v.S, own 100 8 (.slice none 0 0) 0 [], own 98 2 (.slice none 0 0) 0 [], own 3 1 (.slice none 0 0) 0 []])); (case p => exact (by (repeat first | with_reducible constructor | constructor))); exact ⟨none, 0, none, 0, none, 0, rfl, rfl⟩)
end Go.Proofs.Ytckdlfbbkemklaa
end
section
/- Loops over functions whose captured memory turns while they go. -/
namespace Go.Gv
open Go Go.RowKit
set_option linter.unusedVariables false
set_option linter.unusedSimpArgs false

/-- a function that calls yield with some rows of values, one behind the other; what it holds turns: at first, where a row is refused, at the end -/
def IterS (P : Program) (g : FuncId) (lb : List Value) (C0 : List Atom) (Cj : Nat → List Atom) (Ce : List Atom) (xs : List (List Value)) : Prop :=
  ∀ (w0 : World) (l : Nat) (I J : Nat → Atom), (∀ k vs, xs[k]? = some vs → YSpec P w0 l vs.toArray (I k) (I (k + 1)) (J k)) → ∀ w H, St w0 w (I 0 :: (C0 ++ H)) →
    Calls P g (#[.func (.yield l) #[] #[]] ++ lb.toArray) w (Ret fun _ w' => St w0 w' (I xs.length :: (Ce ++ H)) ∨ ∃ k, k < xs.length ∧ St w0 w' (J k :: (Cj k ++ H)))
/-- what a round's body is asked -/
def RdQS {α β : Type} (w0 : World) (idx : α → Nat) (jdx : β → Nat) (Hx : α → List Atom) (Jc : β → Code) (Hj : β → List Atom) (k : Nat) (h0 : PH) : Exit → Act → World → Prop
  | .normal, _, w => ∃ y, idx y = k + 1 ∧ St w0 w (Hx y ++ [Ex h0])
  | .ret, _, w => ∃ y, jdx y = k ∧ Jc y = .ret ∧ St w0 w (Hj y ++ [Ex h0])
  | .exit id, _, w => ∃ y, jdx y = k ∧ Jc y = .exit id ∧ St w0 w (Hj y ++ [Ex h0])
  | _, _, _ => False
section
variable {P : Program} {w0 : World} {n : NT} {L : Slots} {H H' : List Atom} {Q : Exit → Act → World → Prop} {G : Act → World → Prop} {ro : Option Nat}
theorem TriR.rangeS {α β γ : Type} (idx : α → Nat) (jdx : β → Nat) (Hx : α → List Atom) (x0 : α) (Jc : β → Code) (Hj : β → List Atom) (Lm : α → γ → Slots) (Hm : α → γ → List Atom) {g : Operand} {gf : FuncId} {lb : List Value} {C0 : List Atom} {Cj : Nat → List Atom} {Ce : List Atom} {xs : List (List Value)} {ps : List Tmp} {assign body : Code} [TFn P gf]
    (hit : IterS P gf lb C0 Cj Ce xs) (hg : ev L g = some (.func (.func gf) #[] lb.toArray)) (h0 : idx x0 = 0) (p : Pulls H (Hx x0 ++ C0) H') (hps : ∀ v ∈ xs, v.length = ps.length) (hpn : ∀ q ∈ ps, Nat.blt q n = true)
    (hassign : ∀ l x vs, xs[idx x]? = some vs → ∀ h0, Tri w0 (Code.wr (some l) P assign (Exit.then (fun a w => ∃ z : γ, Has a ⟨n.k, []⟩ (Lm x z) ∧ St w0 w (Hm x z ++ [Ex h0])) (fun _ _ _ => False))) ⟨n.k, []⟩ (zipL ps vs L) (Hx x ++ [Ex h0]))
    (hbody : ∀ l x vs, xs[idx x]? = some vs → ∀ z h0, Tri w0 (Code.wr (some l) P body (RdQS w0 idx jdx Hx Jc Hj (idx x) h0)) ⟨n.k, []⟩ (Lm x z) (Hm x z ++ [Ex h0]))
    (hdone : ∀ D y, idx y = xs.length → Tri w0 (Q .normal) ⟨n.k, mark D :: n.ds⟩ L (dfA D :: (Hx y ++ (Ce ++ H'))))
    (hjump : ∀ D y, jdx y < xs.length → Tri w0 (Code.wr none P (Jc y) Q) ⟨n.k, mark D :: n.ds⟩ L (dfA D :: (Hj y ++ (Cj (jdx y) ++ H')))) :
    Tri w0 (Code.wr none P (Code.rangeFunc g ps.toArray assign body) Q) n L H := fun a w ha hw => by
  refine wpIn_rangeFunc (F := FR none) (n := 0) (fun fn _ => ?_)
  let r0 : Loop := { state := .ready, pending := none, fn, tmps := a.tmps, params := ps.toArray, assign, body, defers := w.heap.size }
  let w1 : World := (w.alloc (.deferred (some []))).alloc (.loop r0)
  have hsz : (w.alloc (.deferred (some []))).heap.size = w.heap.size + 1 := by show (w.heap.push _).size = _; simp
  have hst0 : St w0 w1 (lpA (w.heap.size + 1) r0 :: dfA w.heap.size :: ((Hx x0 ++ C0) ++ H')) := by
    have q1 := (hw.pulls p).alloc (.deferred (some [])) (dfA w.heap.size) (fun h e => e)
    have q2 := q1.alloc (.loop r0) (lpA (w.heap.size + 1) r0) (fun h e => by rw [hsz] at e; exact e)
    exact q2
  let I : Nat → Atom := fun k => Gv.exA (fun x : { x : α // idx x = k } => Gv.star (lpA (w.heap.size + 1) r0 :: Hx x.1))
  let J : Nat → Atom := fun k => Gv.exA (fun y : { y : β // jdx y = k } => Gv.star (lpA (w.heap.size + 1) { r0 with state := .done, pending := some (Jc y.1) } :: Hj y.1))
  have hY : ∀ k vs, xs[k]? = some vs → YSpec P w0 (w.heap.size + 1) vs.toArray (I k) (I (k + 1)) (J k) := by
    intro k vs hvs w2 Hf hw2
    obtain ⟨⟨x, hx⟩, hw3⟩ := St.exA hw2
    subst hx
    have hw4 := St.unstar hw3
    have hl := St.lp hw4
    have hlen : vs.length = ps.length := hps vs (List.mem_of_getElem? hvs)
    refine ⟨_, _, _, _, run_yield hl (by show vs.toArray.size = ps.toArray.size; simpa using hlen), ?_⟩
    have hz : Has { tmps := (ps.toArray.zip vs.toArray).foldl (fun t (q : Tmp × Value) => t.setIfInBounds q.1 q.2) a.tmps, defers := [] } ⟨n.k, []⟩ (zipL ps vs L) := by
      have := Has.zip (n := ⟨n.k, []⟩) ps vs (a := { tmps := a.tmps, defers := [] }) (L := L) ⟨rfl, ha.size, ha.get⟩ hpn
      simpa using this
    refine roundIn_of_wpIn (F := Fence.wide) (n := 0) trivial ?_
    have hw5 : St w0 w2 (Hx x ++ (lpA (w.heap.size + 1) r0 :: Hf)) := St.unrot hw4
    obtain ⟨hA, hA1, hA2⟩ := St.aside hw5
    refine wpIn_mono (hassign (w.heap.size + 1) x vs hvs hA _ w2 hz hA1) ?_
    intro e a1 w3 hq
    cases e with
    | normal =>
      obtain ⟨z, hz1, hz2⟩ := hq
      have hw6 := St.rot (hA2 w3 _ hz2)
      refine ⟨_, run_beginRound (St.lp hw6) rfl, ?_⟩
      have hw7 := St.unrot (upd_lp { r0 with state := .busy } hw6)
      obtain ⟨hB, hB1, hB2⟩ := St.aside hw7
      refine wpIn_mono (hbody (w.heap.size + 1) x vs hvs z hB _ _ hz1 hB1) ?_
      intro e2 a2 w4 hq2
      cases e2 with
      | normal =>
        obtain ⟨y, hy1, hy2⟩ := hq2
        have hw8 := St.rot (hB2 w4 _ hy2)
        refine ⟨_, _, run_endRound none (St.lp hw8), .inl ⟨rfl, ?_⟩⟩
        exact St.toExA (A := fun x' : { x' : α // idx x' = idx x + 1 } => Gv.star (lpA (w.heap.size + 1) r0 :: Hx x'.1)) ⟨y, hy1⟩ (St.star (As := lpA _ r0 :: Hx y) (upd_lp _ hw8))
      | ret =>
        obtain ⟨y, hyk, hy1, hy2⟩ := hq2
        have hw8 := St.rot (hB2 w4 _ hy2)
        refine ⟨_, _, run_endRound (some .ret) (St.lp hw8), .inr ⟨rfl, ?_⟩⟩
        exact St.toExA (A := fun y : { y : β // jdx y = idx x } => Gv.star (lpA (w.heap.size + 1) { r0 with state := .done, pending := some (Jc y.1) } :: Hj y.1)) ⟨y, hyk⟩ (St.star (As := lpA _ _ :: Hj y) (by rw [hy1]; exact upd_lp _ hw8))
      | exit id =>
        obtain ⟨y, hyk, hy1, hy2⟩ := hq2
        have hw8 := St.rot (hB2 w4 _ hy2)
        refine ⟨_, _, run_endRound (some (.exit id)) (St.lp hw8), .inr ⟨rfl, ?_⟩⟩
        exact St.toExA (A := fun y : { y : β // jdx y = idx x } => Gv.star (lpA (w.heap.size + 1) { r0 with state := .done, pending := some (Jc y.1) } :: Hj y.1)) ⟨y, hyk⟩ (St.star (As := lpA _ _ :: Hj y) (by rw [hy1]; exact upd_lp _ hw8))
      | goto t => exact hq2.elim
      | panic c => exact hq2.elim
      | outgrown => exact hq2.elim
    | ret => exact hq.elim
    | exit id => exact hq.elim
    | goto t => exact hq.elim
    | panic c => exact hq.elim
    | outgrown => exact hq.elim
  have hst1 : St w0 w1 (I 0 :: (C0 ++ (dfA w.heap.size :: H'))) := by
    have q1 : St w0 w1 (dfA w.heap.size :: ((lpA (w.heap.size + 1) r0 :: (Hx x0 ++ C0)) ++ H')) := ⟨hst0.1, Sat.swap hst0.2⟩
    have q2 := St.unrot q1
    have q3 : St w0 w1 ((lpA (w.heap.size + 1) r0 :: Hx x0) ++ (C0 ++ (dfA w.heap.size :: H'))) := by simpa [List.append_assoc] using q2
    exact St.toExA (A := fun x' : { x' : α // idx x' = 0 } => Gv.star (lpA (w.heap.size + 1) r0 :: Hx x'.1)) ⟨x0, h0⟩ (St.star q3)
  have hcall := hit w0 (w.heap.size + 1) I J hY w1 (dfA w.heap.size :: H') hst1
  have ev1 : ∀ (a' : Act), a'.eval (.const (.func (.yield (w.heap.size + 1)) #[] #[])) = .func (.yield (w.heap.size + 1)) #[] #[] := fun _ => rfl
  have hmk : ∀ (z : List Deferred), Has { a with defers := [mark w.heap.size] ++ a.defers } ⟨n.k, mark w.heap.size :: n.ds⟩ L := fun _ => ⟨by simp [ha.defers], ha.size, ha.get⟩
  refine ⟨_, [mark w.heap.size], w1, ⟨.fn (.func gf) lb.toArray, #[.func (.yield (w.heap.size + 1)) #[] #[]]⟩, w1, gf, _, w1, run_enterLoop_outer fn a.tmps ps.toArray assign body, ?_, fun _ _ => trivial, ?_, fun h => (nomatch h), CallsIn.mono (callsIn_FR hcall) ?_⟩
  · simp [resolve, rangeCall, Deferred.ofValue, ha.eval hg, ev1]
  · simp only [invoke]
    exact fn_run
  · intro e w3 he
    cases e with
    | returned v =>
      rcases he with he | ⟨kj, hkj, he⟩
      · obtain ⟨⟨y, hy⟩, hw3⟩ := St.exA he
        have hw4 := St.unstar hw3
        refine ⟨none, _, run_endLoop (St.lp hw4) (by simp [r0]), ?_⟩
        have hw5 := (upd_lp { r0 with state := .exhausted } hw4).drop
        refine hdone w.heap.size y hy _ _ (hmk []) ?_
        have q : St w0 (w3.putObj (w.heap.size + 1) (.loop { r0 with state := .exhausted })) ((Hx y ++ Ce) ++ (dfA w.heap.size :: H')) := by simpa [List.append_assoc] using hw5
        simpa [List.append_assoc] using St.rot q
      · obtain ⟨⟨y, hyk⟩, hw3⟩ := St.exA he
        have hw4 := St.unstar hw3
        refine ⟨some (Jc y), _, run_endLoop (St.lp hw4) (by simp), ?_⟩
        have hw5 := (upd_lp { r0 with state := .exhausted, pending := some (Jc y) } hw4).drop
        refine hjump w.heap.size y (by rw [hyk]; exact hkj) _ _ (hmk []) ?_
        rw [hyk]
        have q : St w0 (w3.putObj (w.heap.size + 1) (.loop { r0 with state := .exhausted, pending := some (Jc y) })) ((Hj y ++ Cj kj) ++ (dfA w.heap.size :: H')) := by simpa [List.append_assoc] using hw5
        simpa [List.append_assoc] using St.rot q
    | panicked c => exact he.elim
    | outgrown => exact he.elim

theorem Tri.rdEndS {α β : Type} {idx : α → Nat} {jdx : β → Nat} {Hx : α → List Atom} {Jc : β → Code} {Hj : β → List Atom} {k : Nat} {h0 : PH} {R : List Atom} (y : α) (hk : idx y = k + 1) (p : Pulls H (Hx y ++ [Ex h0]) R) : Tri w0 (RdQS w0 idx jdx Hx Jc Hj k h0 .normal) n L H := fun a w ha hw => ⟨y, hk, (hw.pulls p).1, Sat.left (hw.pulls p).2⟩
theorem Tri.rdRetS {α β : Type} {idx : α → Nat} {jdx : β → Nat} {Hx : α → List Atom} {Jc : β → Code} {Hj : β → List Atom} {k : Nat} {h0 : PH} {R : List Atom} (y : β) (hj : jdx y = k ∧ Jc y = .ret) (p : Pulls H (Hj y ++ [Ex h0]) R) : Tri w0 (RdQS w0 idx jdx Hx Jc Hj k h0 .ret) n L H := fun a w ha hw => ⟨y, hj.1, hj.2, (hw.pulls p).1, Sat.left (hw.pulls p).2⟩
theorem Tri.rdExitS {α β : Type} {idx : α → Nat} {jdx : β → Nat} {Hx : α → List Atom} {Jc : β → Code} {Hj : β → List Atom} {k id : Nat} {h0 : PH} {R : List Atom} (y : β) (hj : jdx y = k ∧ Jc y = .exit id) (p : Pulls H (Hj y ++ [Ex h0]) R) : Tri w0 (RdQS w0 idx jdx Hx Jc Hj k h0 (.exit id)) n L H := fun a w ha hw => ⟨y, hj.1, hj.2, (hw.pulls p).1, Sat.left (hw.pulls p).2⟩
end
/-- a contract that holds for one world at the start (it speaks of a loop that is under way) -/
def SpecW (P : Program) (w0 : World) (f : FuncId) (args : Array Value) (Pre : List Atom) (R : Value → List Atom → Prop) : Prop :=
  ∀ w H, St w0 w (Pre ++ H) → Calls P f args w (Ret fun v w' => ∃ H', R v H' ∧ St w0 w' (H' ++ H))
theorem SpecW.of {P : Program} {w0 : World} {f : FuncId} {args : Array Value} {Pre : List Atom} {R : Value → List Atom → Prop}
    (h : ∀ w h0, St w0 w (Pre ++ [Ex h0]) → Calls P f args w (Ret fun v w' => ∃ H', R v H' ∧ St w0 w' (H' ++ [Ex h0]))) : SpecW P w0 f args Pre R := fun w H hw => by
  obtain ⟨h0, h1, h2⟩ := St.aside hw
  refine (h w h0 h1).mono ?_
  intro e w' he
  cases e with
  | returned v => obtain ⟨H', q1, q2⟩ := he; exact ⟨H', q1, h2 w' _ q2⟩
  | panicked c => exact he.elim
  | outgrown => exact he.elim
section
variable {P : Program} {w0 : World} {n : NT} {L : Slots} {H H' : List Atom} {K : Act → World → Prop} {Q : Exit → Act → World → Prop} {d : Nat} {ty : TypeId} {pos : String} {aft : Array Edge} {g : Option (Nat × Bool)}
theorem o_callW {f : FuncId} {args : List Operand} {ts : Array TypeId} {vs : List Value} {Pre : List Atom} {R : Value → List Atom → Prop} [TFn P f] (hs : SpecW P w0 f vs.toArray Pre R) (hargs : evs L args vs) (p : Pulls H Pre H') (hn : Nat.blt d n = true)
    (k : ∀ v Hq, R v Hq → Tri w0 K n ((d, v) :: L) (Hq ++ H')) :
    Tri w0 (OpG P ⟨some d, .call { callee := .value (.func f), args := args.toArray, argTypes := ts }, ty, pos, aft, g⟩ K Q) n L H :=
  o_callX hargs hn (fun w hw => hs w H' (hw.pulls p)) k
end
theorem IterS.of {P : Program} {g : FuncId} {lb : List Value} {C0 : List Atom} {Cj : Nat → List Atom} {Ce : List Atom} {xs : List (List Value)}
    (h : ∀ (w0 : World) (l : Nat) (I J : Nat → Atom), (∀ k vs, xs[k]? = some vs → YSpec P w0 l vs.toArray (I k) (I (k + 1)) (J k)) → ∀ w h0, St w0 w ((I 0 :: C0) ++ [Ex h0]) →
      Calls P g ((.func (.yield l) #[] #[] :: lb).toArray) w (Ret fun _ w' => St w0 w' ((I xs.length :: Ce) ++ [Ex h0]) ∨ ∃ k, k < xs.length ∧ St w0 w' ((J k :: Cj k) ++ [Ex h0]))) : IterS P g lb C0 Cj Ce xs := fun w0 l I J hY w H hw => by
  have hw' : St w0 w ((I 0 :: C0) ++ H) := hw
  obtain ⟨h0, h1, h2⟩ := St.aside hw'
  have e : (#[.func (.yield l) #[] #[]] ++ lb.toArray : Array Value) = (.func (.yield l) #[] #[] :: lb).toArray := by simp
  rw [e]
  refine (h w0 l I J hY w h0 h1).mono ?_
  intro e w' he
  cases e with
  | returned v =>
    rcases he with q | ⟨k, hk, q⟩
    · exact .inl (h2 w' _ q)
    · exact .inr ⟨k, hk, h2 w' _ q⟩
  | panicked c => exact he.elim
  | outgrown => exact he.elim
end Go.Gv
end
section
/- walk: a walker's each: the walk. -/
namespace Go.Proofs.Ytckdlfbbkemklaa
open Go Go.RowKit Go.Gv
set_option linter.unusedVariables false
set_option linter.unusedSimpArgs false

/-- what each does below a node of that height -/
def eachR (es : List ENT) (I J : Nat → Atom) (pw pv d : Nat) (v : VS) (N : Nat) (C : Nat) (V : Nat → Nat) (r : Value) (H' : List Atom) : Prop :=
  (r = .bool true ∧ H' = [I es.length, blk pw 154 [.pointer (some ⟨pv, 0, none⟩), .int .i64 ((N + C : Nat) : Int)], blk pv 194 (viewL d v), DSK d v.S])
  ∨ ∃ k, k < es.length ∧ r = .bool false ∧ H' = [J k, blk pw 154 [.pointer (some ⟨pv, 0, none⟩), .int .i64 ((N + V k : Nat) : Int)], blk pv 194 (viewL d v), DSK d v.S]
def eachS (pw pv d : Nat) (v : VS) (w0 : World) (l : Nat) (h : Nat) (a : Int) : Prop := ∀ (I J : Nat → Atom) (N : Nat), N + wkC v.S h a ≤ 1000000 →
    (∀ k e, (wkE v.S h a)[k]? = some e → YSpec Try.prog w0 l #[entV e, .int .i64 0] (I k) (I (k + 1)) (J k)) →
    SpecW Try.prog w0 103 #[.pointer (some ⟨pw, 0, none⟩), .int .i64 a, .int .i64 (h : Int), .func (.yield l) #[] #[]]
      [I 0, blk pw 154 [.pointer (some ⟨pv, 0, none⟩), .int .i64 (N : Int)], blk pv 194 (viewL d v), DSK d v.S]
      (eachR (wkE v.S h a) I J pw pv d v N (wkC v.S h a) (wkV v.S h a))
theorem nl_get (D : List Int) (j : Nat) : (NL D)[j]? = (D[j]?).map (.int .i64) := by simp [NL]
set_option maxHeartbeats 16000000 in
theorem each_step (pw pv d : Nat) (v : VS) (hv : v.ok) (hl : v.S.W.length ≤ 1000000) (w0 : World) (l : Nat) (h : Nat) (a : Int) (hg : wkG v.S (h + 1) a) (hh : h ≤ 1000)
    (ih : ∀ k ∈ (rdN v.S a (decide (h = 0))).D, eachS pw pv d v w0 l h k) : eachS pw pv d v w0 l (h + 1) a := by
  intro I J N hN hY
  refine SpecW.of (fun w h0 hw => ?_)
  refine Calls.enter Try.func103 rfl rfl rfl hw ?_
  simp only [argSlots]
  refine Tri.wr ?_
  (try dsimp only [List.cons_append, List.nil_append])
  obtain ⟨ha, he, hEl, hDl, _⟩ := hg
  have hE : wkE v.S (h + 1) a = (rdN v.S a (decide (h = 0))).E ++ (rdN v.S a (decide (h = 0))).D.flatMap (wkE v.S h) := rfl
  have hC : wkC v.S (h + 1) a = 1 + ((rdN v.S a (decide (h = 0))).D.map (wkC v.S h)).sum := rfl
  have hV : ∀ k, wkV v.S (h + 1) a k = 1 + if k < (rdN v.S a (decide (h = 0))).E.length then 0 else wkVL (wkE v.S h) (wkC v.S h) (wkV v.S h) (rdN v.S a (decide (h = 0))).D (k - (rdN v.S a (decide (h = 0))).E.length) := fun _ => rfl
  rw [hC] at hN
  generalize wkE v.S (h + 1) a = ES at hE hY ⊢
  generalize wkC v.S (h + 1) a = CC at hC ⊢
  generalize wkV v.S (h + 1) a = VV at hV ⊢
  (refine TriR.seq (TriR.region ?_); apply TriR.op; rfl; rfl; apply o_assign; rfl; rfl; refine TriR.nil (Tri.thenN (TriR.seq (TriR.region ?_))); apply TriR.op; rfl; rfl; apply o_move; rfl; rfl; apply TriR.op; rfl; rfl; apply o_nilCheck; rfl; rfl; apply TriR.op; rfl; rfl; apply o_fieldAddr; rfl; rfl; apply TriR.op; rfl; rfl; apply o_load; rfl; (with_reducible repeat constructor); rfl; rfl; apply TriR.op; rfl; rfl; apply o_move; rfl; rfl; apply TriR.op; rfl; rfl; apply o_move; rfl; rfl; apply TriR.op; rfl; rfl; apply o_eql; rfl; rfl; rfl; apply TriR.op; rfl; rfl)
  ((with_reducible apply Tri.setb 22 ((decide (h = 0)))); (case h => rfl); (case hi => exact decide_eq_decide.2 (by omega)))
  (apply o_callS (hs := view_Node pv d v a (decide (h = 0)) hv hl ha); (case hargs => (repeat first | exact evs.nil | (apply evs.cons; case a => rfl))); (case p => (repeat first | with_reducible constructor | constructor)); (case hn => rfl))
  rintro r1 H1 ⟨A, c, B, b, C, e, rfl, rfl⟩
  (try dsimp only [List.cons_append, List.nil_append])
  generalize rdN v.S a (decide (h = 0)) = G at *
  (apply TriR.op; rfl; rfl; apply o_move; rfl; rfl; apply TriR.op; rfl; rfl; apply o_extract; rfl; rfl; rfl; apply TriR.op; rfl; rfl; apply o_extract; rfl; rfl; rfl; apply TriR.op; rfl; rfl)
  (apply o_alloc; (case hn => rfl); intro b9)
  (apply TriR.op; rfl; rfl)
  (apply o_storeAll (ys := ndLL G.leaf (.slice A G.E.length c) (.slice B G.K.length b) (.slice C G.D.length e)); (case hx => rfl); (case hy => rfl); (case p => (with_reducible repeat constructor)); (case hl => rfl); (case hc => rfl); (case h1 => exact ndLL_one G.leaf A B C _ c _ b _ e))
  (apply TriR.op; rfl; rfl; apply o_assign; rfl; rfl; refine TriR.nil (Tri.thenN (TriR.seq (TriR.region ?_))); apply TriR.op; rfl; rfl; apply o_move; rfl; rfl; apply TriR.op; rfl; rfl; apply o_nilCheck; rfl; rfl; apply TriR.op; rfl; rfl; apply o_fieldAddr; rfl; rfl; apply TriR.op; rfl; rfl; apply o_load; rfl; (with_reducible repeat constructor); rfl; rfl; apply TriR.op; rfl; rfl; apply o_add64; rfl; rfl; rfl; (omega); apply TriR.op; rfl; rfl; apply o_nilCheck; rfl; rfl; apply TriR.op; rfl; rfl; apply o_fieldAddr; rfl; rfl; apply TriR.op; rfl; rfl; apply o_store; rfl; rfl; rfl; (with_reducible repeat constructor); (exact Nat.le_of_ble_eq_true rfl); refine TriR.nil (Tri.thenN (TriR.seq (TriR.seq (TriR.region ?_)))); apply TriR.op; rfl; rfl; apply o_move; rfl; rfl; apply TriR.op; rfl; rfl; apply o_neq; rfl; rfl; rfl; refine TriR.nil (Tri.thenN ?_))
  ((with_reducible apply Tri.setb 34 (false)); (case h => rfl); (case hi => (rw [he]; rfl)))
  (apply TriR.condF; rfl; rfl; refine TriR.skip (Tri.thenN (TriR.seq (TriR.seq (TriR.region ?_)))); apply TriR.op; rfl; rfl; apply o_fieldAddr; rfl; rfl; apply TriR.op; rfl; rfl; apply o_load; rfl; (with_reducible repeat constructor); rfl; rfl; apply TriR.op; rfl; rfl; apply o_len; rfl; rfl; apply TriR.op; rfl; rfl; apply o_move; rfl; rfl; refine TriR.nil (Tri.thenN (TriR.block ?_)))
  ((with_reducible apply Tri.eqA (A := blk pw _ _) (B := blk pw 154 [.pointer (some ⟨pv, 0, none⟩), .int .i64 ((N + 1 : Nat) : Int)])); (case p => (with_reducible repeat constructor)); (case e => rfl))
  (apply TriR.loop (α := { i : Nat // i ≤ G.E.length }) (m := fun x => G.E.length - x.1) (Lx := fun x => [(0, .pointer (some ⟨pw, 0, none⟩)), (2, .int .i64 ((h + 1 : Nat) : Int)), (3, .func (.yield l) #[] #[]), (9, .pointer (some ⟨b9, 0, none⟩)), (40, .slice A G.E.length c), (41, .int .i64 (G.E.length : Int)), (42, .int .i64 (x.1 : Int))]) (Hx := fun x => [I x.1, blk pw 154 [.pointer (some ⟨pv, 0, none⟩), .int .i64 ((N + 1 : Nat) : Int)], blk pv 194 (viewL d v), DSK d v.S, blk b9 33 (ndLL G.leaf (.slice A G.E.length c) (.slice B G.K.length b) (.slice C G.D.length e)), own 100 8 (.slice A G.E.length c) G.E.length (EL G.E), own 3 1 (.slice C G.D.length e) G.D.length (NL G.D), Ex h0]) (x0 := ⟨0, Nat.zero_le _⟩); (case hL => ((try dsimp only); (repeat (first | exact trivial | refine And.intro (by rfl) ?_)))); (case hH => ((try dsimp only); apply St.all; (repeat first | with_reducible constructor | constructor)))); (rintro ⟨i, hi⟩ mx hmx; (try dsimp only at hmx ⊢))
  (refine TriR.seq (TriR.region ?_); apply TriR.op; rfl; rfl; apply o_lss; rfl; rfl; rfl; refine TriR.nil (Tri.thenN (TriR.seq ?_)))
  (apply TriR.condD; (case hc => rfl); (all_goals intro hc))
  · have hil : i < G.E.length := by omega
    obtain ⟨x, hx⟩ : ∃ x, x = G.E.getD i ent0 := ⟨_, rfl⟩
    have hE8 : ((EL G.E).drop (i * 8)).take 8 = entL x := by rw [hx]; exact EL_eight G.E i hil
    have hxi : ES[i]? = some x := by
      rw [hE, List.getElem?_append_left hil, hx, List.getD_eq_getElem?_getD, List.getElem?_eq_getElem hil]; rfl
    have hil' : i + 1 ≤ G.E.length := hil
    (refine TriR.skip (Tri.thenN (TriR.seq (TriR.block (TriR.seq (TriR.region ?_))))); apply TriR.op; rfl; rfl)
    (apply o_ixOwn (j := i); (case hx => rfl); (case hy => rfl); (case p => (with_reducible repeat constructor)); (case hj => rfl); (case hlt => exact hil); (case hn => rfl))
    (apply TriR.op; rfl; rfl)
    (apply o_loadAggOwn; (case hx => rfl); (case p => (with_reducible repeat constructor)); (case hv => exact hE8); (case hl => rfl); (case hn => rfl))
    (apply TriR.op; rfl; rfl)
    (apply o_alloc; (case hn => rfl); intro b12)
    (apply TriR.op; rfl; rfl)
    (apply o_storeAll (ys := entL x); (case hx => rfl); (case hy => rfl); (case p => (with_reducible repeat constructor)); (case hl => rfl); (case hc => rfl); (case h1 => exact entL_one5 x))
    (refine TriR.nil (Tri.thenN (TriR.seq (TriR.region ?_))); apply TriR.op; rfl; rfl; apply o_move; rfl; rfl; apply TriR.op; rfl; rfl)
    (apply o_loadAll (cs := entL x); (case hx => rfl); (case p => exact (by (with_reducible repeat constructor))); (case hl => rfl); (case hn => rfl))
    skip
    (apply TriR.yield (hy := hY i x hxi); (case hx => rfl); (case hargs => (repeat first | exact evs.nil | (apply evs.cons; case a => rfl))); (case hn => rfl); (case p => (with_reducible repeat constructor)))
    · (apply TriR.op; rfl; rfl; apply o_not; rfl; rfl; refine TriR.nil (Tri.thenN ?_))
      ((with_reducible apply Tri.setb 49 (false)); (case h => rfl); (case hi => rfl))
      (apply TriR.condF; rfl; rfl; refine TriR.skip (Tri.blockN (Tri.thenN (TriR.region ?_))); apply TriR.op; rfl; rfl; apply o_add64; rfl; rfl; rfl; (omega); apply TriR.op; rfl; rfl; apply o_move; rfl; rfl; refine TriR.nil (Tri.thenN ?_))
      ((with_reducible apply Tri.seti 42 (((i + 1 : Nat) : Int))); (case h => rfl); (case hi => omega))
      (apply Tri.again (y := ⟨i + 1, hil'⟩); (case p => ((try dsimp only); (repeat (first | exact Pulls.nil | (apply Pulls.cons; (case a => (first | ((repeat (first | with_reducible exact Gv.Pull.head | with_reducible apply Gv.Pull.tail)); done) | (repeat (first | exact Gv.Pull.head | apply Gv.Pull.tail))))))))); (case hm => ((try dsimp only); omega)); (try dsimp only))
      (repeat (first | exact trivial | refine And.intro (by rfl) ?_))
    · (apply TriR.op; rfl; rfl; apply o_not; rfl; rfl; refine TriR.nil (Tri.thenN ?_))
      ((with_reducible apply Tri.setb 49 (true)); (case h => rfl); (case hi => rfl))
      (apply TriR.condT; rfl; rfl; refine TriR.seq (TriR.region ?_); apply TriR.op; rfl; rfl; apply o_assign; rfl; rfl; refine TriR.nil (Tri.thenN (TriR.ret (Tri.blockR (Tri.thenR (Tri.thenR (Tri.blockR (Tri.thenR ?_))))))))
      have hvi : VV i = 1 := by rw [hV i, if_pos hil]
      have hlt : i < ES.length := by rw [hE, List.length_append]; omega
      ((with_reducible apply Tri.eqA (A := blk pw _ _) (B := blk pw 154 [.pointer (some ⟨pv, 0, none⟩), .int .i64 ((N + VV i : Nat) : Int)])); (case p => (with_reducible repeat constructor)); (case e => (rw [hvi])))
      (apply Tri.fin; (case hr => rfl); (case h => exact ResL.cons (Res1.tmp rfl) (ResL.nil)); (apply fin_R (Hn := [J i, blk pw 154 [.pointer (some ⟨pv, 0, none⟩), .int .i64 ((N + VV i : Nat) : Int)], blk pv 194 (viewL d v), DSK d v.S])); (case p => exact (by (repeat first | with_reducible constructor | constructor))); exact .inr ⟨i, hlt, rfl, rfl⟩)
  · have hil : i = G.E.length := by omega
    subst hil
    ((with_reducible refine TriR.exit (Tri.thenE (Tri.thenE (Tri.blockE (Tri.thenN (TriR.seq (TriR.seq (TriR.region ?_)))))))); apply TriR.op; rfl; rfl; apply o_fieldAddr; rfl; rfl; apply TriR.op; rfl; rfl; apply o_load; rfl; (with_reducible repeat constructor); rfl; rfl; apply TriR.op; rfl; rfl; apply o_len; rfl; rfl; apply TriR.op; rfl; rfl; apply o_move; rfl; rfl; refine TriR.nil (Tri.thenN (TriR.block ?_)))
    ((with_reducible apply Tri.eqA (A := I G.E.length) (B := I (G.E.length + ((G.D.take 0).flatMap (wkE v.S h)).length))); (case p => (with_reducible repeat constructor)); (case e => rfl))
    ((with_reducible apply Tri.eqA (A := blk pw _ _) (B := blk pw 154 [.pointer (some ⟨pv, 0, none⟩), .int .i64 ((N + 1 + ((G.D.take 0).map (wkC v.S h)).sum : Nat) : Int)])); (case p => (with_reducible repeat constructor)); (case e => rfl))
    (apply TriR.loop (α := { j : Nat // j ≤ G.D.length }) (m := fun x => G.D.length - x.1) (Lx := fun x => [(0, .pointer (some ⟨pw, 0, none⟩)), (2, .int .i64 ((h + 1 : Nat) : Int)), (3, .func (.yield l) #[] #[]), (52, .slice C G.D.length e), (53, .int .i64 (G.D.length : Int)), (54, .int .i64 (x.1 : Int))]) (Hx := fun x => [I (G.E.length + ((G.D.take x.1).flatMap (wkE v.S h)).length), blk pw 154 [.pointer (some ⟨pv, 0, none⟩), .int .i64 ((N + 1 + ((G.D.take x.1).map (wkC v.S h)).sum : Nat) : Int)], blk pv 194 (viewL d v), DSK d v.S, own 3 1 (.slice C G.D.length e) G.D.length (NL G.D), Ex h0]) (x0 := ⟨0, Nat.zero_le _⟩); (case hL => ((try dsimp only); (repeat (first | exact trivial | refine And.intro (by rfl) ?_)))); (case hH => ((try dsimp only); apply St.all; (repeat first | with_reducible constructor | constructor)))); (rintro ⟨j, hj⟩ mx hmx; (try dsimp only at hmx ⊢))
    (refine TriR.seq (TriR.region ?_); apply TriR.op; rfl; rfl; apply o_lss; rfl; rfl; rfl; refine TriR.nil (Tri.thenN (TriR.seq ?_)))
    (apply TriR.condD; (case hc => rfl); (all_goals intro hc2))
    · have hjl : j < G.D.length := by omega
      have hjl' : j + 1 ≤ G.D.length := hjl
      obtain ⟨k, hk⟩ : ∃ k, G.D[j]? = some k := ⟨_, List.getElem?_eq_getElem hjl⟩
      have hkn : (NL G.D)[j * 1]? = some (.int .i64 k) := by rw [Nat.mul_one, nl_get, hk]; rfl
      obtain ⟨off, hoff⟩ : ∃ off, off = G.E.length + ((G.D.take j).flatMap (wkE v.S h)).length := ⟨_, rfl⟩
      obtain ⟨M, hM⟩ : ∃ M, M = N + 1 + ((G.D.take j).map (wkC v.S h)).sum := ⟨_, rfl⟩
      have hst := wk_stake (C := wkC v.S h) hk
      have hsl := wk_sle (C := wkC v.S h) G.D (j + 1)
      have hfl := wk_take (E := wkE v.S h) hk
      have hfe := wk_le (E := wkE v.S h) G.D (j + 1)
      have hMb : M + wkC v.S h k ≤ 1000000 := by omega
      have hsub : ∀ q x, (wkE v.S h k)[q]? = some x → ES[off + q]? = some x := fun q x hq => by
        have hql : q < (wkE v.S h k).length := (List.getElem?_eq_some_iff.1 hq).1
        rw [hE, hoff, List.getElem?_append_right (by omega), Nat.add_assoc, Nat.add_sub_cancel_left, wk_at G.D j q k hk hql]
        exact hq
      have hYk : ∀ q x, (wkE v.S h k)[q]? = some x → YSpec Try.prog w0 l #[entV x, .int .i64 0] ((fun q => I (off + q)) q) ((fun q => I (off + q)) (q + 1)) ((fun q => J (off + q)) q) := fun q x hq => hY (off + q) x (hsub q x hq)
      have hcall := ih k (List.mem_of_getElem? hk) (fun q => I (off + q)) (fun q => J (off + q)) M hMb hYk
      rw [← hoff, ← hM]
      (refine TriR.skip (Tri.thenN (TriR.seq (TriR.block (TriR.seq (TriR.region ?_))))); apply TriR.op; rfl; rfl)
      (apply o_ixOwn (j := j); (case hx => rfl); (case hy => rfl); (case p => (with_reducible repeat constructor)); (case hj => rfl); (case hlt => exact hjl); (case hn => rfl))
      (apply TriR.op; rfl; rfl)
      (apply o_loadOwn; (case hx => rfl); (case p => (with_reducible repeat constructor)); (case hv => exact hkn); (case hn => rfl))
      (apply TriR.op; rfl; rfl; apply o_assign; rfl; rfl; refine TriR.nil (Tri.thenN (TriR.seq (TriR.region ?_))); apply TriR.op; rfl; rfl; apply o_move; rfl; rfl; apply TriR.op; rfl; rfl; apply o_move; rfl; rfl; apply TriR.op; rfl; rfl; apply o_move; rfl; rfl; apply TriR.op; rfl; rfl; apply o_sub64; rfl; rfl; rfl; (omega); apply TriR.op; rfl; rfl; apply o_move; rfl; rfl; apply TriR.op; rfl; rfl)
      ((with_reducible apply Tri.seti 61 ((h : Int))); (case h => rfl); (case hi => omega))
      skip
      ((with_reducible apply Tri.eqA (A := I off) (B := (fun q => I (off + q)) 0)); (case p => (with_reducible repeat constructor)); (case e => rfl))
      (apply o_callW (hs := hcall); (case hargs => (repeat first | exact evs.nil | (apply evs.cons; case a => rfl))); (case p => (repeat first | with_reducible constructor | constructor)); (case hn => rfl))
      rintro r2 H2 (⟨rfl, rfl⟩ | ⟨q, hq, rfl, rfl⟩)
      · (try dsimp only [List.cons_append, List.nil_append])
        (apply TriR.op; rfl; rfl; apply o_not; rfl; rfl; refine TriR.nil (Tri.thenN ?_))
        ((with_reducible apply Tri.setb 64 (false)); (case h => rfl); (case hi => rfl))
        (apply TriR.condF; rfl; rfl; refine TriR.skip (Tri.blockN (Tri.thenN (TriR.region ?_))); apply TriR.op; rfl; rfl; apply o_add64; rfl; rfl; rfl; (omega); apply TriR.op; rfl; rfl; apply o_move; rfl; rfl; refine TriR.nil (Tri.thenN ?_))
        ((with_reducible apply Tri.seti 54 (((j + 1 : Nat) : Int))); (case h => rfl); (case hi => omega))
        ((with_reducible apply Tri.eqA (A := I (off + (wkE v.S h k).length)) (B := I (G.E.length + ((G.D.take (j + 1)).flatMap (wkE v.S h)).length))); (case p => (with_reducible repeat constructor)); (case e => (rw [hoff, hfl, Nat.add_assoc])))
        ((with_reducible apply Tri.eqA (A := blk pw _ _) (B := blk pw 154 [.pointer (some ⟨pv, 0, none⟩), .int .i64 ((N + 1 + ((G.D.take (j + 1)).map (wkC v.S h)).sum : Nat) : Int)])); (case p => (with_reducible repeat constructor)); (case e => (rw [hst, hM, Nat.add_assoc (N + 1)])))
        (apply Tri.again (y := ⟨j + 1, hjl'⟩); (case p => ((try dsimp only); (repeat (first | exact Pulls.nil | (apply Pulls.cons; (case a => (first | ((repeat (first | with_reducible exact Gv.Pull.head | with_reducible apply Gv.Pull.tail)); done) | (repeat (first | exact Gv.Pull.head | apply Gv.Pull.tail))))))))); (case hm => ((try dsimp only); omega)); (try dsimp only))
        (repeat (first | exact trivial | refine And.intro (by rfl) ?_))
      · (try dsimp only [List.cons_append, List.nil_append])
        have hvi : VV (off + q) = 1 + (((G.D.take j).map (wkC v.S h)).sum + wkV v.S h k q) := by
          rw [hV (off + q), if_neg (by omega), hoff, show G.E.length + ((G.D.take j).flatMap (wkE v.S h)).length + q - G.E.length = ((G.D.take j).flatMap (wkE v.S h)).length + q by omega, wkVL_at G.D j q k hk hq]
        have hlt : off + q < ES.length := by rw [hE, List.length_append]; omega
        (apply TriR.op; rfl; rfl; apply o_not; rfl; rfl; refine TriR.nil (Tri.thenN ?_))
        ((with_reducible apply Tri.setb 64 (true)); (case h => rfl); (case hi => rfl))
        (apply TriR.condT; rfl; rfl; refine TriR.seq (TriR.region ?_); apply TriR.op; rfl; rfl; apply o_assign; rfl; rfl; refine TriR.nil (Tri.thenN (TriR.ret (Tri.blockR (Tri.thenR (Tri.thenR (Tri.blockR (Tri.thenR ?_))))))))
        ((with_reducible apply Tri.eqA (A := blk pw _ _) (B := blk pw 154 [.pointer (some ⟨pv, 0, none⟩), .int .i64 ((N + VV (off + q) : Nat) : Int)])); (case p => (with_reducible repeat constructor)); (case e => (rw [show M + wkV v.S h k q = N + VV (off + q) by rw [hvi, hM]; omega])))
        (apply Tri.fin; (case hr => rfl); (case h => exact ResL.cons (Res1.tmp rfl) (ResL.nil)); (apply fin_R (Hn := [J (off + q), blk pw 154 [.pointer (some ⟨pv, 0, none⟩), .int .i64 ((N + VV (off + q) : Nat) : Int)], blk pv 194 (viewL d v), DSK d v.S])); (case p => exact (by (repeat first | with_reducible constructor | constructor))); exact .inr ⟨off + q, hlt, rfl, rfl⟩)
    · have hjl : j = G.D.length := by omega
      subst hjl
      rw [List.take_length]
      have hEL : ES.length = G.E.length + (G.D.flatMap (wkE v.S h)).length := by rw [hE, List.length_append]
      have hNC : N + 1 + (G.D.map (wkC v.S h)).sum = N + CC := by rw [hC]; omega
      rw [← hEL, hNC]
      ((with_reducible refine TriR.exit (Tri.thenE (Tri.thenE (Tri.blockE (Tri.thenN (TriR.seq (TriR.region ?_))))))); apply TriR.op; rfl; rfl; apply o_assign; rfl; rfl; refine TriR.nil (Tri.thenN (TriR.ret ?_)))
      (apply Tri.fin; (case hr => rfl); (case h => exact ResL.cons (Res1.tmp rfl) (ResL.nil)); (apply fin_R (Hn := [I ES.length, blk pw 154 [.pointer (some ⟨pv, 0, none⟩), .int .i64 ((N + CC : Nat) : Int)], blk pv 194 (viewL d v), DSK d v.S])); (case p => exact (by (repeat first | with_reducible constructor | constructor))); exact .inl ⟨rfl, rfl⟩)
theorem walker_each (pw pv d : Nat) (v : VS) (hv : v.ok) (hl : v.S.W.length ≤ 1000000) (w0 : World) (l : Nat) : ∀ (h : Nat) (a : Int), wkG v.S h a → h ≤ 1000 → eachS pw pv d v w0 l h a := by
  intro h
  induction h with
  | zero => intro a hg _; exact hg.elim
  | succ h ih =>
    intro a hg hh
    exact each_step pw pv d v hv hl w0 l h a hg (by omega) (fun k hk => ih k (hg.2.2.2.2 k hk) (by omega))
end Go.Proofs.Ytckdlfbbkemklaa
end
section
/- walk: a walker's entries: the walk. -/
namespace Go.Proofs.Ytckdlfbbkemklaa
open Go Go.RowKit Go.Gv
set_option linter.unusedVariables false
set_option linter.unusedSimpArgs false

theorem walker_entries (pw : Nat) (a h : Int) : SpecR Try.prog 69 #[.pointer (some ⟨pw, 0, none⟩), .agg #[.int .i64 a, .int .i64 h]] (fun _ => True) (fun r H' => ∃ b2 b3 : Nat, r = .func (.func 102) #[] [.pointer (some ⟨b2, 0, none⟩), .pointer (some ⟨b3, 0, none⟩)].toArray
    ∧ H' = [blk b2 152 [.pointer (some ⟨pw, 0, none⟩)], blk b3 48 [.int .i64 a, .int .i64 h]]) := by
  refine SpecR.of (fun w _ => ?_)
  refine Calls.enter Try.func69 rfl rfl rfl (St.rebase w) ?_
  simp only [argSlots]
  (refine Tri.seq (Tri.region ?_); apply Tri.op; rfl)
  (first | (apply o_boxA; (case hx => rfl); (case hn => rfl); intro b2) | (apply o_box1; (case hx => rfl); (case h1 => rfl); (case hn => rfl); intro b2))
  (apply Tri.op; rfl)
  (first | (apply o_boxA; (case hx => rfl); (case hn => rfl); intro b3) | (apply o_box1; (case hx => rfl); (case h1 => rfl); (case hn => rfl); intro b3))
  (apply Tri.op; rfl; apply o_assign; rfl; rfl; refine Tri.nil (Tri.thenN (Tri.seq (Tri.region ?_))); apply Tri.op; rfl)
  (apply o_makeFunc (vs := [.pointer (some ⟨b2, 0, none⟩), .pointer (some ⟨b3, 0, none⟩)]); (case hc => exact ⟨rfl, rfl, trivial⟩); (case hn => rfl))
  (apply Tri.op; rfl; apply o_assign; rfl; rfl; refine Tri.nil (Tri.thenN (Tri.ret ?_)))
  (apply Tri.fin; (case hr => rfl); (case h => (repeat (first | exact ResL.nil | (apply ResL.cons; (case a => (first | exact Res1.tmp rfl | (apply Res1.cell; rfl; (with_reducible repeat constructor); rfl) | (apply Res1.agg; rfl; (with_reducible repeat constructor); rfl; rfl))))))); (apply fin_R (Hn := [blk b2 152 [.pointer (some ⟨pw, 0, none⟩)], blk b3 48 [.int .i64 a, .int .i64 h]])); (case p => (repeat first | with_reducible constructor | constructor)))
  exact ⟨b2, b3, rfl, rfl⟩
def rowsW (es : List ENT) : List (List Value) := es.map fun e => [entV e, .int .i64 0]
theorem rowsW_get {es : List ENT} {k : Nat} {e : ENT} (h : es[k]? = some e) : (rowsW es)[k]? = some [entV e, .int .i64 0] := by rw [rowsW, List.getElem?_map, h]; rfl
theorem rowsW_of {es : List ENT} {k : Nat} {vs : List Value} (h : (rowsW es)[k]? = some vs) : ∃ e, es[k]? = some e ∧ vs = [entV e, .int .i64 0] := by
  rw [rowsW, List.getElem?_map, Option.map_eq_some_iff] at h
  obtain ⟨e, h1, h2⟩ := h
  exact ⟨e, h1, h2.symm⟩
theorem rowsW_length (es : List ENT) : (rowsW es).length = es.length := by simp [rowsW]
def walkC (pw pv d b2 b3 : Nat) (v : VS) (a h : Int) (N : Nat) : List Atom := [blk b2 152 [.pointer (some ⟨pw, 0, none⟩)], blk b3 48 [.int .i64 a, .int .i64 h], blk pw 154 [.pointer (some ⟨pv, 0, none⟩), .int .i64 (N : Int)], blk pv 194 (viewL d v), DSK d v.S]
set_option maxHeartbeats 8000000 in
theorem entries_iter (pw pv d b2 b3 : Nat) (v : VS) (hv : v.ok) (hl : v.S.W.length ≤ 1000000) (h : Nat) (a : Int) (hh : h ≤ 5) (hg : h = 0 ∨ wkG v.S h a) (N : Nat) (hN : N + wkC v.S h a ≤ 1000000) :
    IterS Try.prog 102 [.pointer (some ⟨b2, 0, none⟩), .pointer (some ⟨b3, 0, none⟩)] (walkC pw pv d b2 b3 v a (h : Int) N) (fun k => walkC pw pv d b2 b3 v a (h : Int) (N + wkV v.S h a k)) (walkC pw pv d b2 b3 v a (h : Int) (N + wkC v.S h a)) (rowsW (wkE v.S h a)) := by
  refine IterS.of (fun w0 l I J hY w h0 hw => ?_)
  rw [rowsW_length]
  simp only [walkC] at hw ⊢
  refine Calls.enter Try.func102 rfl rfl rfl hw ?_
  simp only [argSlots]
  refine Tri.wr ?_
  (try dsimp only [List.cons_append, List.nil_append])
  (refine TriR.block (TriR.seq (TriR.region ?_)); apply TriR.op; rfl; rfl; apply o_load; rfl; (with_reducible repeat constructor); rfl; rfl; apply TriR.op; rfl; rfl; apply o_nilCheck; rfl; rfl; apply TriR.op; rfl; rfl; apply o_fieldAddr; rfl; rfl; apply TriR.op; rfl; rfl; apply o_load; rfl; (with_reducible repeat constructor); rfl; rfl; apply TriR.op; rfl; rfl; apply o_eqlN; rfl; rfl; rfl; apply TriR.op; rfl; rfl; apply o_move; rfl; rfl)
  ((with_reducible apply Tri.setb 10 (false)); (case h => rfl); (case hi => rfl))
  (apply TriR.opYes; (iterate 4 rfl); apply o_fieldAddr; rfl; rfl; apply TriR.opYes; (iterate 4 rfl); apply o_load; rfl; (with_reducible repeat constructor); rfl; rfl; apply TriR.opYes; (iterate 4 rfl); apply o_lss; rfl; rfl; rfl; apply TriR.op; rfl; rfl; apply o_pickF; (iterate 4 rfl); apply TriR.op; rfl; rfl; apply o_move; rfl; rfl)
  ((with_reducible apply Tri.setb 15 (false)); (case h => rfl); (case hi => exact decide_eq_false (by omega)))
  (apply TriR.opYes; (iterate 4 rfl); apply o_fieldAddr; rfl; rfl; apply TriR.opYes; (iterate 4 rfl); apply o_load; rfl; (with_reducible repeat constructor); rfl; rfl; apply TriR.opYes; (iterate 4 rfl); apply o_gtr; rfl; rfl; rfl; apply TriR.op; rfl; rfl; apply o_pickF; (iterate 4 rfl); apply TriR.op; rfl; rfl; apply o_assign; rfl; rfl; refine TriR.nil (Tri.thenN ?_))
  ((with_reducible apply Tri.setb 4 (false)); (case h => rfl); (case hi => exact decide_eq_false (by omega)))
  (apply TriR.condF; rfl; rfl; refine TriR.seq (TriR.region ?_); apply TriR.op; rfl; rfl; apply o_fieldAddr; rfl; rfl; apply TriR.op; rfl; rfl; apply o_load; rfl; (with_reducible repeat constructor); rfl; rfl; apply TriR.op; rfl; rfl; apply o_gtr; rfl; rfl; rfl; apply TriR.op; rfl; rfl; apply o_assign; rfl; rfl; refine TriR.nil (Tri.thenN ?_))
  rcases hg with hg | hg
  · subst hg
    ((with_reducible apply Tri.setb 23 (false)); (case h => rfl); (case hi => rfl))
    (apply TriR.condF; rfl; rfl; refine TriR.skip (Tri.blockN ?_))
    apply Tri.fin
    case hr => rfl
    case h => exact ResL.nil
    exact fun w' hw' => .inl ⟨(hw'.pulls (As := [I 0, blk b2 152 [.pointer (some ⟨pw, 0, none⟩)], blk b3 48 [.int .i64 a, .int .i64 ((0 : Nat) : Int)], blk pw 154 [.pointer (some ⟨pv, 0, none⟩), .int .i64 (N : Int)], blk pv 194 (viewL d v), DSK d v.S, Ex h0]) (by (repeat (first | exact Pulls.nil | (apply Pulls.cons; (case a => (first | ((repeat (first | with_reducible exact Gv.Pull.head | with_reducible apply Gv.Pull.tail)); done) | (repeat (first | exact Gv.Pull.head | apply Gv.Pull.tail))))))))).1, Sat.left (hw'.pulls (by (repeat (first | exact Pulls.nil | (apply Pulls.cons; (case a => (first | ((repeat (first | with_reducible exact Gv.Pull.head | with_reducible apply Gv.Pull.tail)); done) | (repeat (first | exact Gv.Pull.head | apply Gv.Pull.tail))))))))).2⟩
  · have hpos : 0 < h := by
      rcases Nat.eq_zero_or_pos h with q | q
      · subst q; exact hg.elim
      · exact q
    ((with_reducible apply Tri.setb 23 (true)); (case h => rfl); (case hi => exact decide_eq_true (by omega)))
    (apply TriR.condT; rfl; rfl; refine TriR.region ?_; apply TriR.op; rfl; rfl; apply o_load; rfl; (with_reducible repeat constructor); rfl; rfl; apply TriR.op; rfl; rfl; apply o_fieldAddr; rfl; rfl; apply TriR.op; rfl; rfl; apply o_load; rfl; (with_reducible repeat constructor); rfl; rfl; apply TriR.op; rfl; rfl; apply o_fieldAddr; rfl; rfl; apply TriR.op; rfl; rfl; apply o_load; rfl; (with_reducible repeat constructor); rfl; rfl; apply TriR.op; rfl; rfl; apply o_move; rfl; rfl; apply TriR.op; rfl; rfl)
    have hcall := walker_each pw pv d v hv hl w0 l h a hg (by omega) I J N hN (fun k e he => hY k _ (rowsW_get he))
    (apply o_callW (hs := hcall); (case hargs => (repeat first | exact evs.nil | (apply evs.cons; case a => rfl))); (case p => (repeat first | with_reducible constructor | constructor)); (case hn => rfl))
    rintro r2 H2 (⟨rfl, rfl⟩ | ⟨q, hq, rfl, rfl⟩)
    · (try dsimp only [List.cons_append, List.nil_append])
      (refine TriR.nil (Tri.blockN ?_))
      apply Tri.fin
      case hr => rfl
      case h => exact ResL.nil
      exact fun w' hw' => .inl ⟨(hw'.pulls (As := [I (wkE v.S h a).length, blk b2 152 [.pointer (some ⟨pw, 0, none⟩)], blk b3 48 [.int .i64 a, .int .i64 (h : Int)], blk pw 154 [.pointer (some ⟨pv, 0, none⟩), .int .i64 ((N + wkC v.S h a : Nat) : Int)], blk pv 194 (viewL d v), DSK d v.S, Ex h0]) (by (repeat first | with_reducible constructor | constructor))).1, Sat.left (hw'.pulls (by (repeat first | with_reducible constructor | constructor))).2⟩
    · (try dsimp only [List.cons_append, List.nil_append])
      (refine TriR.nil (Tri.blockN ?_))
      apply Tri.fin
      case hr => rfl
      case h => exact ResL.nil
      exact fun w' hw' => .inr ⟨q, hq, (hw'.pulls (As := [J q, blk b2 152 [.pointer (some ⟨pw, 0, none⟩)], blk b3 48 [.int .i64 a, .int .i64 (h : Int)], blk pw 154 [.pointer (some ⟨pv, 0, none⟩), .int .i64 ((N + wkV v.S h a q : Nat) : Int)], blk pv 194 (viewL d v), DSK d v.S, Ex h0]) (by (repeat first | with_reducible constructor | constructor))).1, Sat.left (hw'.pulls (by (repeat first | with_reducible constructor | constructor))).2⟩
set_option maxHeartbeats 8000000 in
/-- of no view, or of a root that can't be, an error is told -/
theorem entries_bad (pw b2 b3 : Nat) (pv : Option Nat) (a h N : Int) (hb : pv = none ∨ h < 0 ∨ 5 < h) :
    IterS Try.prog 102 [.pointer (some ⟨b2, 0, none⟩), .pointer (some ⟨b3, 0, none⟩)]
      [blk b2 152 [.pointer (some ⟨pw, 0, none⟩)], blk b3 48 [.int .i64 a, .int .i64 h], blk pw 154 [.pointer (pv.map fun p => ⟨p, 0, none⟩), .int .i64 N]]
      (fun _ => [blk b2 152 [.pointer (some ⟨pw, 0, none⟩)], blk b3 48 [.int .i64 a, .int .i64 h], blk pw 154 [.pointer (pv.map fun p => ⟨p, 0, none⟩), .int .i64 N]])
      [blk b2 152 [.pointer (some ⟨pw, 0, none⟩)], blk b3 48 [.int .i64 a, .int .i64 h], blk pw 154 [.pointer (pv.map fun p => ⟨p, 0, none⟩), .int .i64 N]] [[entV ent0, .int .i64 1]] := by
  refine IterS.of (fun w0 l I J hY w h0 hw => ?_)
  refine Calls.enter Try.func102 rfl rfl rfl hw ?_
  simp only [argSlots]
  refine Tri.wr ?_
  (try dsimp only [List.cons_append, List.nil_append])
  refine TriR.block ?_
  (apply TriR.seqMeet (α := Unit) (Lx := fun _ => [(0, .func (.yield l) #[] #[]), (4, .bool true)]) (Hx := fun _ => [I 0, blk b2 152 [.pointer (some ⟨pw, 0, none⟩)], blk b3 48 [.int .i64 a, .int .i64 h], blk pw 154 [.pointer (pv.map fun p => ⟨p, 0, none⟩), .int .i64 N], Ex h0]); rotate_left; (rintro ⟨⟩; (try dsimp only)); rotate_left)
  · cases pv with
    | none =>
      (refine TriR.region ?_; apply TriR.op; rfl; rfl; apply o_load; rfl; (with_reducible repeat constructor); rfl; rfl; apply TriR.op; rfl; rfl; apply o_nilCheck; rfl; rfl; apply TriR.op; rfl; rfl; apply o_fieldAddr; rfl; rfl; apply TriR.op; rfl; rfl; apply o_load; rfl; (with_reducible repeat constructor); rfl; rfl; apply TriR.op; rfl; rfl; apply o_eqlN; rfl; rfl; rfl; apply TriR.op; rfl; rfl; apply o_move; rfl; rfl)
      ((with_reducible apply Tri.setb 10 (true)); (case h => rfl); (case hi => rfl))
      ((iterate 3 apply TriR.opNo (c := true); (iterate 6 rfl)); apply TriR.op; rfl; rfl; apply o_pickT; (iterate 4 rfl); apply TriR.op; rfl; rfl; apply o_move; rfl; rfl; (iterate 3 apply TriR.opNo (c := true); (iterate 6 rfl)); apply TriR.op; rfl; rfl; apply o_pickT; (iterate 4 rfl); apply TriR.op; rfl; rfl; apply o_assign; rfl; rfl; refine TriR.nil (Tri.thenN ?_))
      (apply Tri.reach (y := ()); (case hL => ((try dsimp only); (repeat (first | exact trivial | refine And.intro (by rfl) ?_)))); (case p => ((try dsimp only); (repeat (first | exact Pulls.nil | (apply Pulls.cons; (case a => (first | ((repeat (first | with_reducible exact Gv.Pull.head | with_reducible apply Gv.Pull.tail)); done) | (repeat (first | exact Gv.Pull.head | apply Gv.Pull.tail))))))))))
    | some p =>
      have hb' : h < 0 ∨ 5 < h := by rcases hb with q | q | q; exact absurd q (by simp); exact .inl q; exact .inr q
      (refine TriR.region ?_; apply TriR.op; rfl; rfl; apply o_load; rfl; (with_reducible repeat constructor); rfl; rfl; apply TriR.op; rfl; rfl; apply o_nilCheck; rfl; rfl; apply TriR.op; rfl; rfl; apply o_fieldAddr; rfl; rfl; apply TriR.op; rfl; rfl; apply o_load; rfl; (with_reducible repeat constructor); rfl; rfl; apply TriR.op; rfl; rfl; apply o_eqlN; rfl; rfl; rfl; apply TriR.op; rfl; rfl; apply o_move; rfl; rfl)
      ((with_reducible apply Tri.setb 10 (false)); (case h => rfl); (case hi => rfl))
      (apply TriR.opYes; (iterate 4 rfl); apply o_fieldAddr; rfl; rfl; apply TriR.opYes; (iterate 4 rfl); apply o_load; rfl; (with_reducible repeat constructor); rfl; rfl; apply TriR.opYes; (iterate 4 rfl); apply o_lss; rfl; rfl; rfl; apply TriR.op; rfl; rfl; apply o_pickF; (iterate 4 rfl); apply TriR.op; rfl; rfl; apply o_move; rfl; rfl)
      by_cases h1 : h < 0
      · ((with_reducible apply Tri.setb 15 (true)); (case h => rfl); (case hi => exact decide_eq_true h1))
        ((iterate 3 apply TriR.opNo (c := true); (iterate 6 rfl)); apply TriR.op; rfl; rfl; apply o_pickT; (iterate 4 rfl); apply TriR.op; rfl; rfl; apply o_assign; rfl; rfl; refine TriR.nil (Tri.thenN ?_))
        (apply Tri.reach (y := ()); (case hL => ((try dsimp only); (repeat (first | exact trivial | refine And.intro (by rfl) ?_)))); (case p => ((try dsimp only); (repeat (first | exact Pulls.nil | (apply Pulls.cons; (case a => (first | ((repeat (first | with_reducible exact Gv.Pull.head | with_reducible apply Gv.Pull.tail)); done) | (repeat (first | exact Gv.Pull.head | apply Gv.Pull.tail))))))))))
      · ((with_reducible apply Tri.setb 15 (false)); (case h => rfl); (case hi => exact decide_eq_false h1))
        (apply TriR.opYes; (iterate 4 rfl); apply o_fieldAddr; rfl; rfl; apply TriR.opYes; (iterate 4 rfl); apply o_load; rfl; (with_reducible repeat constructor); rfl; rfl; apply TriR.opYes; (iterate 4 rfl); apply o_gtr; rfl; rfl; rfl; apply TriR.op; rfl; rfl; apply o_pickF; (iterate 4 rfl); apply TriR.op; rfl; rfl; apply o_assign; rfl; rfl; refine TriR.nil (Tri.thenN ?_))
        ((with_reducible apply Tri.setb 4 (true)); (case h => rfl); (case hi => exact decide_eq_true (by omega)))
        (apply Tri.reach (y := ()); (case hL => ((try dsimp only); (repeat (first | exact trivial | refine And.intro (by rfl) ?_)))); (case p => ((try dsimp only); (repeat (first | exact Pulls.nil | (apply Pulls.cons; (case a => (first | ((repeat (first | with_reducible exact Gv.Pull.head | with_reducible apply Gv.Pull.tail)); done) | (repeat (first | exact Gv.Pull.head | apply Gv.Pull.tail))))))))))
  (apply TriR.condT; rfl; rfl; refine TriR.region ?_; apply TriR.op; rfl; rfl; apply o_move; rfl; rfl; apply TriR.op; rfl; rfl; apply o_build0; rfl)
  ((with_reducible apply Tri.setv 21 ((entV ent0))); (case h => rfl); (case hv => rfl))
  (apply TriR.yield (hy := hY 0 _ rfl); (case hx => rfl); (case hargs => (repeat first | exact evs.nil | (apply evs.cons; case a => rfl))); (case hn => rfl); (case p => (with_reducible repeat constructor)))
  · (refine TriR.nil (Tri.blockN ?_))
    apply Tri.fin
    case hr => rfl
    case h => exact ResL.nil
    exact fun w' hw' => .inl ⟨(hw'.pulls (As := [I 1, blk b2 152 [.pointer (some ⟨pw, 0, none⟩)], blk b3 48 [.int .i64 a, .int .i64 h], blk pw 154 [.pointer (pv.map fun p => ⟨p, 0, none⟩), .int .i64 N], Ex h0]) (by (repeat (first | exact Pulls.nil | (apply Pulls.cons; (case a => (first | ((repeat (first | with_reducible exact Gv.Pull.head | with_reducible apply Gv.Pull.tail)); done) | (repeat (first | exact Gv.Pull.head | apply Gv.Pull.tail))))))))).1, Sat.left (hw'.pulls (by (repeat (first | exact Pulls.nil | (apply Pulls.cons; (case a => (first | ((repeat (first | with_reducible exact Gv.Pull.head | with_reducible apply Gv.Pull.tail)); done) | (repeat (first | exact Gv.Pull.head | apply Gv.Pull.tail))))))))).2⟩
  · (refine TriR.nil (Tri.blockN ?_))
    apply Tri.fin
    case hr => rfl
    case h => exact ResL.nil
    exact fun w' hw' => .inr ⟨0, by decide, (hw'.pulls (As := [J 0, blk b2 152 [.pointer (some ⟨pw, 0, none⟩)], blk b3 48 [.int .i64 a, .int .i64 h], blk pw 154 [.pointer (pv.map fun p => ⟨p, 0, none⟩), .int .i64 N], Ex h0]) (by (repeat first | with_reducible constructor | constructor))).1, Sat.left (hw'.pulls (by (repeat first | with_reducible constructor | constructor))).2⟩
end Go.Proofs.Ytckdlfbbkemklaa
end
section
/- walk: Take: the walk. -/
namespace Go.Proofs.Ytckdlfbbkemklaa
open Go Go.RowKit Go.Gv
set_option linter.unusedVariables false
set_option linter.unusedSimpArgs false

/-- how many nodes are read for the first n entries -/
def tkC (S : DS) (h : Nat) (a : Int) (n : Nat) : Nat := if n = 0 then 0 else if n ≤ (wkE S h a).length then wkV S h a (n - 1) else wkC S h a
def rootL (a h : Int) : List Value := [.int .i64 a, .int .i64 h]
def rootV (a h : Int) : Value := .agg (rootL a h).toArray
set_option maxHeartbeats 16000000 in
theorem walk_Take (pv d : Nat) (v : VS) (hv : v.ok) (hl : v.S.W.length ≤ 1000000) (h : Nat) (a : Int) (hh : h ≤ 5) (hg : h = 0 ∨ wkG v.S h a) (hC : wkC v.S h a ≤ 1000000) (n : Int) (hlen : (wkE v.S h a).length ≤ 1000000) :
    Gv.Spec Try.prog 36 #[.pointer (some ⟨pv, 0, none⟩), rootV a (h : Int), .int .i64 n] [blk pv 194 (viewL d v), DSK d v.S]
    (fun r H' => ∃ A c, r = .tuple #[.slice A ((wkE v.S h a).take n.toNat).length c, .int .i64 (tkC v.S h a n.toNat : Int), .int .i64 0] ∧ H' = [blk pv 194 (viewL d v), DSK d v.S, own 100 8 (.slice A ((wkE v.S h a).take n.toNat).length c) ((wkE v.S h a).take n.toNat).length (EL ((wkE v.S h a).take n.toNat))]) := by
  refine Gv.Spec.of (fun w h0 hw => ?_)
  refine Calls.enterM Try.func36 rfl rfl rfl hw ?_
  simp only [argSlots]
  (try dsimp only [List.cons_append, List.nil_append])
  (refine TriR.seq (TriR.region ?_); apply TriR.op; rfl; rfl)
  (first | (apply o_boxA; (case hx => rfl); (case hn => rfl); intro b4) | (apply o_box1; (case hx => rfl); (case h1 => rfl); (case hn => rfl); intro b4))
  (apply TriR.op; rfl; rfl)
  (first | (apply o_boxA; (case hx => rfl); (case hn => rfl); intro b5) | (apply o_box1; (case hx => rfl); (case h1 => rfl); (case hn => rfl); intro b5))
  (apply TriR.op; rfl; rfl)
  (apply o_alloc; (case hn => rfl); intro b6)
  (apply TriR.op; rfl; rfl)
  (apply o_alloc; (case hn => rfl); intro b7)
  (apply TriR.op; rfl; rfl)
  (apply o_alloc; (case hn => rfl); intro b8)
  (refine TriR.nil (Tri.thenN (TriR.seq (TriR.region ?_))); apply TriR.op; rfl; rfl; apply o_move; rfl; rfl; apply TriR.op; rfl; rfl)
  (apply o_build (ys := [.pointer (some ⟨pv, 0, none⟩), .int .i64 0]); (case hp => (repeat first | exact pev.nil | (apply pev.cons; case a => rfl))); (case hf => rfl); (case hn => rfl))
  (apply TriR.op; rfl; rfl)
  (first | (apply o_boxA; (case hx => rfl); (case hn => rfl); intro pw) | (apply o_box1; (case hx => rfl); (case h1 => rfl); (case hn => rfl); intro pw))
  (apply TriR.op; rfl; rfl; apply o_assign; rfl; rfl; refine TriR.nil (Tri.thenN (TriR.seq (TriR.region ?_))); apply TriR.op; rfl; rfl)
  (apply o_alloc; (case hn => rfl); intro b10)
  (refine TriR.nil (Tri.thenN (TriR.seq (TriR.seq (TriR.region ?_)))); apply TriR.op; rfl; rfl; apply o_load; rfl; (with_reducible repeat constructor); rfl; rfl; apply TriR.op; rfl; rfl; apply o_lss; rfl; rfl; rfl; refine TriR.nil (Tri.thenN ?_))
  by_cases hn : n < 1
  · have hn0 : n.toNat = 0 := by omega
    have hC0 : tkC v.S h a n.toNat = 0 := by rw [tkC, if_pos hn0]
    rw [hC0, hn0, List.take_zero]
    ((with_reducible apply Tri.setb 17 (true)); (case h => rfl); (case hi => exact decide_eq_true hn))
    (apply TriR.condT; rfl; rfl; refine TriR.seq (TriR.region ?_); apply TriR.op; rfl; rfl; apply o_store; rfl; rfl; rfl; (with_reducible repeat constructor); (exact Nat.le_of_ble_eq_true rfl); apply TriR.op; rfl; rfl; apply o_store; rfl; rfl; rfl; (with_reducible repeat constructor); (exact Nat.le_of_ble_eq_true rfl); apply TriR.op; rfl; rfl; apply o_store; rfl; rfl; rfl; (with_reducible repeat constructor); (exact Nat.le_of_ble_eq_true rfl); refine TriR.nil (Tri.thenN (TriR.ret (Tri.thenR ?_))))
    (with_reducible apply Tri.ownNil 100 8)
    (apply Tri.finM0; (case hr => rfl); (case h => exact ResL.cons (Res1.cell rfl (by (with_reducible repeat constructor)) rfl) (ResL.cons (Res1.cell rfl (by (with_reducible repeat constructor)) rfl) (ResL.cons (Res1.cell rfl (by (with_reducible repeat constructor)) rfl) (ResL.nil)))); (apply fin_R (Hn := [blk pv 194 (viewL d v), DSK d v.S, own 100 8 (.slice none 0 0) 0 []])); (case p => exact (by (repeat first | with_reducible constructor | constructor))); exact ⟨none, 0, rfl, rfl⟩)
  · ((with_reducible apply Tri.setb 17 (false)); (case h => rfl); (case hi => exact decide_eq_false hn))
    obtain ⟨nn, hnn⟩ : ∃ nn, nn = n.toNat := ⟨_, rfl⟩
    rw [← hnn]
    have hn1 : n = (nn : Int) := by omega
    have hnp : 1 ≤ nn := by omega
    (apply TriR.condF; rfl; rfl; refine TriR.skip (Tri.thenN (TriR.seq (TriR.seq (TriR.region ?_)))); apply TriR.op; rfl; rfl; apply o_move; rfl; rfl; apply TriR.op; rfl; rfl)
    (apply o_loadAll (cs := rootL a (h : Int)); (case hx => rfl); (case p => exact (by (with_reducible repeat constructor))); (case hl => rfl); (case hn => rfl))
    (apply TriR.op; rfl; rfl)
    (apply o_callR (hs := walker_entries pw a (h : Int)); (case hargs => (repeat first | exact evs.nil | (apply evs.cons; case a => rfl))); (case hpre => exact fun _ _ => trivial); (case hn => rfl))
    rintro r2 H2 ⟨b2, b3, rfl, rfl⟩
    (try dsimp only [List.cons_append, List.nil_append])
    (refine TriR.nil (Tri.thenN (TriR.block ?_)))
    have hit := entries_iter pw pv d b2 b3 v hv hl h a hh hg 0 (by omega)
    simp only [walkC] at hit
    have hTC : tkC v.S h a nn = if nn ≤ (wkE v.S h a).length then wkV v.S h a (nn - 1) else wkC v.S h a := by rw [tkC, if_neg (by omega)]
    generalize tkC v.S h a nn = TC at hTC ⊢
    generalize wkE v.S h a = ES at hit hTC hlen ⊢
    generalize wkC v.S h a = CC at hit hTC ⊢
    generalize wkV v.S h a = VV at hit hTC ⊢
    (with_reducible apply Tri.ownNil 100 8)
    ((with_reducible apply Tri.eqA (A := own 100 8 (.slice none 0 0) 0 []) (B := own 100 8 (.slice none 0 0) 0 (EL (ES.take 0)))); (case p => (with_reducible repeat constructor)); (case e => rfl))
    refine TriR.rangeS (α := Σ' (k : Nat) (_ : Option Addr) (_ : Nat), k ≤ ES.length ∧ k < nn) (β := Σ' (k : Nat) (_ : Option Addr) (_ : Nat), k + 1 = nn ∧ k < ES.length) (γ := Nat) (fun x => x.1) (fun y => y.1)
      (fun x => [blk b10 30 [.slice x.2.1 x.1 x.2.2.1], own 100 8 (.slice x.2.1 x.1 x.2.2.1) x.1 (EL (ES.take x.1)), blk b5 3 [.int .i64 n]]) ⟨0, none, 0, Nat.zero_le _, hnp⟩ (fun _ => .exit 0)
      (fun x => [blk b10 30 [.slice x.2.1 (x.1 + 1) x.2.2.1], own 100 8 (.slice x.2.1 (x.1 + 1) x.2.2.1) (x.1 + 1) (EL (ES.take (x.1 + 1)))])
      (fun x z => [(5, .pointer (some ⟨b5, 0, none⟩)), (10, .pointer (some ⟨b10, 0, none⟩)), (11, .pointer (some ⟨z, 0, none⟩)), (12, .int .i64 0)])
      (fun x z => blk z 100 (entL (ES.getD x.1 ent0)) :: [blk b10 30 [.slice x.2.1 x.1 x.2.2.1], own 100 8 (.slice x.2.1 x.1 x.2.2.1) x.1 (EL (ES.take x.1)), blk b5 3 [.int .i64 n]])
      hit rfl rfl (by (repeat (first | exact Pulls.nil | (apply Pulls.cons; (case a => (first | ((repeat (first | with_reducible exact Gv.Pull.head | with_reducible apply Gv.Pull.tail)); done) | (repeat (first | exact Gv.Pull.head | apply Gv.Pull.tail)))))))) ?_ ?_ ?_ ?_ ?_ ?_
    · intro y hy
      obtain ⟨k, _, rfl⟩ := List.mem_map.1 hy
      rfl
    · intro q hq
      simp at hq
      rcases hq with rfl | rfl <;> rfl
    · intro lp x vs hvs hq
      obtain ⟨e, he, rfl⟩ := rowsW_of hvs
      have hed : ES.getD x.1 ent0 = e := by rw [List.getD_eq_getElem?_getD, he]; rfl
      rw [hed]
      simp only [zipL]
      (try dsimp only [List.cons_append, List.nil_append])
      (refine TriR.seq (TriR.region ?_); apply TriR.op; rfl; rfl)
      (apply o_alloc; (case hn => rfl); intro b11)
      (apply TriR.op; rfl; rfl)
      (apply o_storeAll (ys := entL e); (case hx => rfl); (case hy => rfl); (case p => (with_reducible repeat constructor)); (case hl => rfl); (case hc => rfl); (case h1 => exact entL_one5 e))
      (refine TriR.nil (Tri.thenN (TriR.region ?_)); apply TriR.op; rfl; rfl; apply o_assign; rfl; rfl; refine TriR.nil (Tri.thenN ?_))
      (apply Tri.reach (y := b11); (case hL => ((try dsimp only); (repeat (first | exact trivial | refine And.intro (by rfl) ?_)))); (case p => ((try dsimp only); (repeat (first | exact Pulls.nil | (apply Pulls.cons; (case a => (first | ((repeat (first | with_reducible exact Gv.Pull.head | with_reducible apply Gv.Pull.tail)); done) | (repeat (first | exact Gv.Pull.head | apply Gv.Pull.tail))))))))))
    · rintro lp ⟨k, A, c, hk, hkn⟩ vs hvs b11 hq
      obtain ⟨e, he, rfl⟩ := rowsW_of hvs
      (try dsimp only at he)
      have hed : ES.getD k ent0 = e := by rw [List.getD_eq_getElem?_getD, he]; rfl
      have hkl : k < ES.length := (List.getElem?_eq_some_iff.1 he).1
      have hkl' : k + 1 ≤ ES.length := hkl
      have htk : EL (ES.take k) ++ entL e = EL (ES.take (k + 1)) := by
        rw [List.take_add_one, he, EL_app]; simp [EL]
      (try dsimp only [List.cons_append, List.nil_append])
      rw [hed]
      (refine TriR.block (TriR.seq (TriR.seq (TriR.region ?_))); apply TriR.op; rfl; rfl; apply o_move; rfl; rfl; apply TriR.op; rfl; rfl; apply o_neq; rfl; rfl; rfl; refine TriR.nil (Tri.thenN ?_))
      ((with_reducible apply Tri.setb 24 (false)); (case h => rfl); (case hi => rfl))
      (apply TriR.condF; rfl; rfl; refine TriR.skip (Tri.thenN (TriR.seq (TriR.region ?_))); apply TriR.op; rfl; rfl; apply o_load; rfl; (with_reducible repeat constructor); rfl; rfl; apply TriR.op; rfl; rfl)
      (apply o_loadAll (cs := entL e); (case hx => rfl); (case p => exact (by (with_reducible repeat constructor))); (case hl => rfl); (case hn => rfl))
      (apply TriR.op; rfl; rfl)
      (apply o_litSl (ys := entL e); (case hp => (repeat first | exact pev.nil | (apply pev.cons; case a => rfl))); (case hm => rfl); (case hf => rfl); (case hn => rfl); intro vl)
      (apply TriR.op; rfl; rfl)
      (apply o_append (m2 := 1) (news := entL e); (case hx => rfl); (case hy => rfl); (case p => (with_reducible repeat constructor)); (case hr => exact rdw_own (v := vl) (by (with_reducible repeat constructor))); (case hl => rfl); (case h1 => exact entL_one5 e); (case hb => omega); (case hn => rfl))
      intro vr
      (refine Tri.shape (e := 100) (size := 8) (v := vr) (by (with_reducible repeat constructor)) ?_; rintro ⟨A2, c2, rfl⟩)
      (apply TriR.op; rfl; rfl)
      (apply o_store; (case hx => rfl); (case hy => rfl); (case h1 => rfl); (case p => (with_reducible repeat constructor)); (case hi => exact (by decide : 0 < 1)))
      ((with_reducible apply Tri.eqA (A := own 100 8 (.slice A2 (k + 1) c2) _ _) (B := own 100 8 (.slice A2 (k + 1) c2) (k + 1) (EL (ES.take (k + 1))))); (case p => (with_reducible repeat constructor)); (case e => (rw [htk])))
      ((with_reducible apply Tri.eqA (A := blk b10 _ _) (B := blk b10 30 [.slice A2 (k + 1) c2])); (case p => (with_reducible repeat constructor)); (case e => rfl))
      (refine TriR.nil (Tri.thenN (TriR.seq (TriR.region ?_))); apply TriR.op; rfl; rfl; apply o_load; rfl; (with_reducible repeat constructor); rfl; rfl; apply TriR.op; rfl; rfl; apply o_len; rfl; rfl; apply TriR.op; rfl; rfl; apply o_load; rfl; (with_reducible repeat constructor); rfl; rfl; apply TriR.op; rfl; rfl; apply o_eql; rfl; rfl; rfl; refine TriR.nil (Tri.thenN ?_))
      by_cases hlast : k + 1 = nn
      · ((with_reducible apply Tri.setb 33 (true)); (case h => rfl); (case hi => exact decide_eq_true (by omega)))
        (apply TriR.condT; rfl; rfl; (with_reducible refine TriR.exit ?_); apply Tri.blockE'; rfl)
        (apply Tri.rdExitS (y := ⟨k, A2, c2, hlast, hkl⟩); (case hj => exact ⟨rfl, rfl⟩); (case p => ((try dsimp only [List.cons_append, List.nil_append]); (repeat first | with_reducible constructor | constructor))))
      · have hkn' : k + 1 < nn := by omega
        ((with_reducible apply Tri.setb 33 (false)); (case h => rfl); (case hi => exact decide_eq_false (by omega)))
        (apply TriR.condF; rfl; rfl; refine TriR.skip (Tri.blockN ?_))
        (apply Tri.rdEndS (y := ⟨k + 1, A2, c2, hkl', hkn'⟩); (case hk => rfl); (case p => ((try dsimp only [List.cons_append, List.nil_append]); (repeat first | with_reducible constructor | constructor))))
    · rintro D ⟨k, A, c, hk, hkn⟩ hy
      have hkE : k = ES.length := by rw [← rowsW_length ES]; exact hy
      have hTC' : TC = CC := by rw [hTC, if_neg (by omega)]
      have htk : ES.take nn = ES := List.take_of_length_le (by omega)
      have htk2 : ES.take k = ES := List.take_of_length_le (by omega)
      (try dsimp only [List.cons_append, List.nil_append])
      rw [htk, hTC', htk2]
      (refine Tri.blockN (Tri.thenN (TriR.seq ?_)))
      ((first | with_reducible apply Tri.mix [blk b10 30 [.slice A k c], blk pw 154 [.pointer (some ⟨pv, 0, none⟩), .int .i64 ((0 + CC : Nat) : Int)]] | (apply TriR.mix [blk b10 30 [.slice A k c], blk pw 154 [.pointer (some ⟨pv, 0, none⟩), .int .i64 ((0 + CC : Nat) : Int)]]; (case hnd => rfl))); (case p => (repeat first | with_reducible constructor | constructor)); (dsimp only [List.length]))
      ((first | (apply TriM.q 0; rfl; rfl) | (apply TriM.qYes 0; rfl; rfl; rfl; with_reducible rfl)); kernel_rfl; rfl; rfl; (intro F K hK; (try dsimp only [List.cons_append, List.nil_append]); apply o_load; rfl; (with_reducible repeat constructor); rfl; rfl; exact hK); (first | (apply TriM.q 1; rfl; rfl) | (apply TriM.qYes 1; rfl; rfl; rfl; with_reducible rfl)); kernel_rfl; rfl; rfl; (intro F K hK; apply o_move; rfl; rfl; exact hK); (first | (apply TriM.q 2; rfl; rfl) | (apply TriM.qYes 2; rfl; rfl; rfl; with_reducible rfl)); kernel_rfl; rfl; rfl; (intro F K hK; apply o_nilCheck; rfl; rfl; exact hK); (first | (apply TriM.q 3; rfl; rfl) | (apply TriM.qYes 3; rfl; rfl; rfl; with_reducible rfl)); kernel_rfl; rfl; rfl; (intro F K hK; apply o_fieldAddr; rfl; rfl; exact hK); (first | (apply TriM.q 4; rfl; rfl) | (apply TriM.qYes 4; rfl; rfl; rfl; with_reducible rfl)); kernel_rfl; rfl; rfl; (intro F K hK; (try dsimp only [List.cons_append, List.nil_append]); apply o_load; rfl; (with_reducible repeat constructor); rfl; rfl; exact hK))
      (apply TriM.a 5; (case ho => rfl); (case hg => rfl); (case hr => kernel_rfl); (try dsimp only [List.cons_append, List.nil_append]))
      (apply o_store; (case hx => rfl); (case hy => rfl); (case h1 => rfl); (case p => (with_reducible repeat constructor)); (case hi => exact (by decide : 0 < 1)))
      (apply TriM.back; (case p => (repeat first | with_reducible constructor | constructor)))
      (apply TriM.a 6; (case ho => rfl); (case hg => rfl); (case hr => kernel_rfl); (try dsimp only [List.cons_append, List.nil_append]))
      (apply o_store; (case hx => rfl); (case hy => rfl); (case h1 => rfl); (case p => (with_reducible repeat constructor)); (case hi => exact (by decide : 0 < 1)))
      (apply TriM.back; (case p => (repeat first | with_reducible constructor | constructor)))
      (apply TriM.a 7; (case ho => rfl); (case hg => rfl); (case hr => kernel_rfl); (try dsimp only [List.cons_append, List.nil_append]))
      (apply o_store; (case hx => rfl); (case hy => rfl); (case h1 => rfl); (case p => (with_reducible repeat constructor)); (case hi => exact (by decide : 0 < 1)))
      (apply TriM.back; (case p => (repeat first | with_reducible constructor | constructor)))
      (apply TriM.nil; (case hr => kernel_rfl); (try dsimp only [List.cons_append, List.nil_append]))
      (refine Tri.thenN (TriR.ret ?_))
      subst hkE
      (apply Tri.finM1; (case p => (with_reducible repeat constructor)); (case hr => rfl); (case h => exact ResL.cons (Res1.cell rfl (by (with_reducible repeat constructor)) rfl) (ResL.cons (Res1.cell rfl (by (with_reducible repeat constructor)) rfl) (ResL.cons (Res1.cell rfl (by (with_reducible repeat constructor)) rfl) (ResL.nil)))); (apply fin_R (Hn := [blk pv 194 (viewL d v), DSK d v.S, own 100 8 (.slice A ES.length c) ES.length (EL ES)])); (case p => exact (by (repeat first | with_reducible constructor | constructor))); exact ⟨A, c, by rw [Nat.zero_add]; rfl, rfl⟩)
    · rintro D ⟨k, A, c, hk, hkl⟩ hjl
      (try dsimp only at hjl)
      have hTC' : TC = VV k := by rw [hTC, if_pos (by omega), show nn - 1 = k by omega]
      have hlen2 : (ES.take nn).length = k + 1 := by rw [List.length_take]; omega
      (try dsimp only [List.cons_append, List.nil_append])
      rw [hTC', hlen2, ← hk]
      ((with_reducible refine TriR.exit (Tri.blockE (Tri.thenN (TriR.seq ?_)))))
      ((first | with_reducible apply Tri.mix [blk b10 30 [.slice A (k + 1) c], blk pw 154 [.pointer (some ⟨pv, 0, none⟩), .int .i64 ((0 + VV k : Nat) : Int)]] | (apply TriR.mix [blk b10 30 [.slice A (k + 1) c], blk pw 154 [.pointer (some ⟨pv, 0, none⟩), .int .i64 ((0 + VV k : Nat) : Int)]]; (case hnd => rfl))); (case p => (repeat first | with_reducible constructor | constructor)); (dsimp only [List.length]))
      ((first | (apply TriM.q 0; rfl; rfl) | (apply TriM.qYes 0; rfl; rfl; rfl; with_reducible rfl)); kernel_rfl; rfl; rfl; (intro F K hK; (try dsimp only [List.cons_append, List.nil_append]); apply o_load; rfl; (with_reducible repeat constructor); rfl; rfl; exact hK); (first | (apply TriM.q 1; rfl; rfl) | (apply TriM.qYes 1; rfl; rfl; rfl; with_reducible rfl)); kernel_rfl; rfl; rfl; (intro F K hK; apply o_move; rfl; rfl; exact hK); (first | (apply TriM.q 2; rfl; rfl) | (apply TriM.qYes 2; rfl; rfl; rfl; with_reducible rfl)); kernel_rfl; rfl; rfl; (intro F K hK; apply o_nilCheck; rfl; rfl; exact hK); (first | (apply TriM.q 3; rfl; rfl) | (apply TriM.qYes 3; rfl; rfl; rfl; with_reducible rfl)); kernel_rfl; rfl; rfl; (intro F K hK; apply o_fieldAddr; rfl; rfl; exact hK); (first | (apply TriM.q 4; rfl; rfl) | (apply TriM.qYes 4; rfl; rfl; rfl; with_reducible rfl)); kernel_rfl; rfl; rfl; (intro F K hK; (try dsimp only [List.cons_append, List.nil_append]); apply o_load; rfl; (with_reducible repeat constructor); rfl; rfl; exact hK))
      (apply TriM.a 5; (case ho => rfl); (case hg => rfl); (case hr => kernel_rfl); (try dsimp only [List.cons_append, List.nil_append]))
      (apply o_store; (case hx => rfl); (case hy => rfl); (case h1 => rfl); (case p => (with_reducible repeat constructor)); (case hi => exact (by decide : 0 < 1)))
      (apply TriM.back; (case p => (repeat first | with_reducible constructor | constructor)))
      (apply TriM.a 6; (case ho => rfl); (case hg => rfl); (case hr => kernel_rfl); (try dsimp only [List.cons_append, List.nil_append]))
      (apply o_store; (case hx => rfl); (case hy => rfl); (case h1 => rfl); (case p => (with_reducible repeat constructor)); (case hi => exact (by decide : 0 < 1)))
      (apply TriM.back; (case p => (repeat first | with_reducible constructor | constructor)))
      (apply TriM.a 7; (case ho => rfl); (case hg => rfl); (case hr => kernel_rfl); (try dsimp only [List.cons_append, List.nil_append]))
      (apply o_store; (case hx => rfl); (case hy => rfl); (case h1 => rfl); (case p => (with_reducible repeat constructor)); (case hi => exact (by decide : 0 < 1)))
      (apply TriM.back; (case p => (repeat first | with_reducible constructor | constructor)))
      (apply TriM.nil; (case hr => kernel_rfl); (try dsimp only [List.cons_append, List.nil_append]))
      (refine Tri.thenN (TriR.ret ?_))
      (apply Tri.finM1; (case p => (with_reducible repeat constructor)); (case hr => rfl); (case h => exact ResL.cons (Res1.cell rfl (by (with_reducible repeat constructor)) rfl) (ResL.cons (Res1.cell rfl (by (with_reducible repeat constructor)) rfl) (ResL.cons (Res1.cell rfl (by (with_reducible repeat constructor)) rfl) (ResL.nil)))); (apply fin_R (Hn := [blk pv 194 (viewL d v), DSK d v.S, own 100 8 (.slice A (k + 1) c) (k + 1) (EL (ES.take (k + 1)))])); (case p => exact (by (repeat first | with_reducible constructor | constructor))); exact ⟨A, c, by rw [Nat.zero_add]; rfl, rfl⟩)
end Go.Proofs.Ytckdlfbbkemklaa
end
section
/- layer 14's law: what is built. -/
namespace Go.Proofs.Ytckdlfbbkemklaa
open Go Go.RowKit Go.Gv
set_option linter.unusedVariables false
set_option linter.unusedSimpArgs false

theorem visF_le : ∀ (h k : Nat), visF h k ≤ (h + 1) * (k + 1)
  | 0, k => by rw [visF]; omega
  | h + 1, k => by
    rw [visF]
    have h1 := visF_le h k
    have h2 : k / capN (h + 1) ≤ k := Nat.div_le_self _ _
    rw [Nat.add_mul (h + 1), Nat.one_mul]
    omega
/-- how many nodes are read for the first n of m entries, in a tree of so many levels -/
def tkF (H m n : Nat) : Nat := if m = 0 ∨ n = 0 then 0 else visF (H - 1) (min n m - 1)
structure Built (l : List ENT) (R : VS × (Int × Nat) × Nat) : Prop where
  e : R.2.2 = 0
  ok : R.1.ok
  wt : R.1.S.W.length ≤ 1000000
  h5 : R.2.1.2 ≤ 5
  g : R.2.1.2 = 0 ∨ wkG R.1.S R.2.1.2 R.2.1.1
  E : wkE R.1.S R.2.1.2 R.2.1.1 = l
  C : wkC R.1.S R.2.1.2 R.2.1.1 ≤ 1000000
  tk : ∀ n, tkC R.1.S R.2.1.2 R.2.1.1 n = tkF R.2.1.2 l.length n
theorem built_of {l : List ENT} (hl : loadOk l) (h2 : l.length ≤ 600) : Built l (loadN v200 l) := by
  rcases Nat.eq_zero_or_pos l.length with h0 | h0
  · have hn : l = [] := List.eq_nil_of_length_eq_zero h0
    subst hn
    have hR : loadN v200 [] = (v200, (0, 0), 0) := rfl
    rw [hR]
    refine { e := rfl, ok := v200_ok, wt := Nat.zero_le _, h5 := Nat.zero_le _, g := .inl rfl, E := rfl, C := Nat.zero_le _, tk := fun n => ?_ }
    show tkC v200.S 0 0 n = tkF 0 0 n
    rw [tkF, if_pos (.inl rfl), tkC]
    have e1 : wkE v200.S 0 0 = [] := rfl
    have e2 : wkC v200.S 0 0 = 0 := rfl
    rw [e1, e2]
    split
    · rfl
    · rename_i hn
      rw [if_neg (by show ¬ n ≤ 0; omega)]
  · have H := load_spec hl h0 h2
    obtain ⟨c, hc, hvc⟩ := H.c
    have hCb := visF_le ((loadN v200 l).2.1.2 - 1) (l.length - 1)
    have hm : ((loadN v200 l).2.1.2 - 1 + 1) * (l.length - 1 + 1) ≤ 5 * 600 := Nat.mul_le_mul (by have := H.h5; have := H.h1; omega) (by omega)
    refine { e := H.e, ok := hvc.ok hc, wt := ?_, h5 := H.h5, g := .inr H.g, E := H.E, C := by rw [H.C]; omega, tk := fun n => ?_ }
    · have := hvc.wt; omega
    · rw [tkF, tkC]
      by_cases hn : n = 0
      · rw [if_pos hn, if_pos (.inr hn)]
      · rw [if_neg hn, H.E, if_neg (show ¬ (l.length = 0 ∨ n = 0) by omega)]
        by_cases hle : n ≤ l.length
        · rw [if_pos hle, H.V (n - 1) (by omega), Nat.min_eq_left hle]
        · rw [if_neg hle, H.C, Nat.min_eq_right (by omega)]
theorem nine : tkF (loadN v200 (bL 1 9)).2.1.2 9 3 = 2 := by
  have hl := bL_length 1 9
  have H := load_spec (l := bL 1 9) (bL_ok (by decide) (by decide)) (by rw [hl]; decide) (by rw [hl]; decide)
  have h1 := H.last
  have h2 := H.big
  rw [hl] at h1 h2
  generalize (loadN v200 (bL 1 9)).2.1.2 = q at *
  have e1 : q - 1 = 1 := by
    rcases Nat.lt_or_ge (q - 1) 1 with a | a
    · have : q - 1 = 0 := by omega
      rw [this] at h1
      exact absurd h1 (by decide)
    · rcases Nat.lt_or_ge 1 (q - 1) with b | b
      · exact absurd (h2 1 b) (by decide)
      · omega
  rw [tkF, if_neg (by decide), e1]
  decide
theorem v200_built (k s : Nat) (hk : k ≤ 200) (hs : s ≤ 8) : Built (bL s k) (loadN v200 (bL s k)) := built_of (bL_ok hs hk) (by rw [bL_length]; omega)
end Go.Proofs.Ytckdlfbbkemklaa
end
section
/- node: the reference: big, Put, Same, size. -/
namespace Go.Proofs.Ytckdlfbbkemklaa
open Go Go.RowKit Go.Gv
set_option linter.unusedVariables false
set_option linter.unusedSimpArgs false

theorem ent_alk (e : ENT) : Alk [.int .i64 0, .int .i64 0, .int .i64 0, .int .i64 0, .int .i64 0, .int .i64 0, .int .i64 0, .int .u32 0] (entL e) := ⟨rfl, rfl, rfl, rfl, rfl, rfl, rfl, rfl, trivial⟩
end Go.Proofs.Ytckdlfbbkemklaa
end
section
/- layer 13's Back, its reference's Same. -/
namespace Go.Proofs.Ytckdlfbbkemklaa
open Go Go.RowKit Go.Gv
set_option linter.unusedVariables false
set_option linter.unusedSimpArgs false

set_option maxHeartbeats 8000000 in
theorem law13_Back (v : Value) (E : List ENT) (hb : E.length ≤ 1000000) : SpecR Try.prog 38 #[v] (fun w => RdW w v E.length (EL E)) (fun r H' => ∃ A c, r = .slice A E.length c ∧ H' = [own 103 8 (.slice A E.length c) E.length (EL E)]) := by
  refine SpecR.of (fun w hr => ?_)
  obtain ⟨Av, cv, rfl, _⟩ := id hr
  refine Calls.enter Try.func38 rfl rfl rfl (St.rebase w) ?_
  simp only [argSlots]
  (refine Tri.seq (Tri.region ?_); apply Tri.op; rfl; apply o_assign; rfl; rfl; refine Tri.nil (Tri.thenN (Tri.seq (Tri.region ?_))); apply Tri.op; rfl; apply o_assign; rfl; rfl; refine Tri.nil (Tri.thenN (Tri.seq (Tri.seq (Tri.region ?_)))); apply Tri.op; rfl; apply o_assign; rfl; rfl; refine Tri.nil (Tri.thenN (Tri.block ?_)))
  (with_reducible apply Tri.ownNil 103 8)
  ((with_reducible apply Tri.eqA (A := own 103 8 (.slice none 0 0) 0 []) (B := own 103 8 (.slice none 0 0) 0 (EL (E.take 0)))); (case p => (with_reducible repeat constructor)); (case e => rfl))
  (apply Tri.loop (α := Σ' (i : Nat) (_ : Option Addr) (_ : Nat), i ≤ E.length) (m := fun x => E.length - x.1) (Lx := fun x => [(0, .slice Av E.length cv), (3, .slice x.2.1 x.1 x.2.2.1), (4, .int .i64 (x.1 : Int))]) (Hx := fun x => [own 103 8 (.slice x.2.1 x.1 x.2.2.1) x.1 (EL (E.take x.1)), Ex (hp w)]) (x0 := ⟨0, none, 0, Nat.zero_le _⟩); (case hL => ((try dsimp only); (repeat (first | exact trivial | refine And.intro (by rfl) ?_)))); (case hH => ((try dsimp only); apply St.all; (repeat first | with_reducible constructor | constructor)))); (rintro ⟨i, A, c, hi⟩ mx hmx; (try dsimp only at hmx ⊢))
  (refine Tri.seq (Tri.seq (Tri.region ?_)); apply Tri.op; rfl; apply o_move; rfl; rfl; apply Tri.op; rfl; apply o_move; rfl; rfl; apply Tri.op; rfl; apply o_len; rfl; rfl; apply Tri.op; rfl; apply o_lss; rfl; rfl; rfl; refine Tri.nil (Tri.thenN ?_))
  (apply Tri.condD; (case hc => rfl); (all_goals intro hc))
  · have hil : i < E.length := by omega
    have hil' : i + 1 ≤ E.length := hil
    obtain ⟨x, hx⟩ : ∃ x, x = E.getD i ent0 := ⟨_, rfl⟩
    have hE8 : ((EL E).drop (i * 8)).take 8 = entL x := by rw [hx]; exact EL_eight E i hil
    have hEl : (EL E).length = E.length * 8 := EL_lens E rfl
    have htk : EL (E.take i) ++ entL x = EL (E.take (i + 1)) := by
      rw [List.take_add_one, EL_app, hx, List.getD_eq_getElem?_getD, List.getElem?_eq_getElem hil]; simp [EL]
    (refine Tri.skip (Tri.thenN (Tri.seq (Tri.block (Tri.region ?_)))); apply Tri.op; rfl; apply o_move; rfl; rfl; apply Tri.op; rfl; apply o_move; rfl; rfl; apply Tri.op; rfl; apply o_move; rfl; rfl; apply Tri.op; rfl)
    (apply o_ixW (j := i); (case hx => rfl); (case hy => rfl); (case hr => exact rdw_ex (by (with_reducible repeat constructor)) hr); (case hj => rfl); (case hlt => exact hil); (case hl => (rw [hEl]; omega)); (case hn => rfl))
    (apply Tri.op; rfl)
    (apply o_loadAggW; (case hx => rfl); (case hr => exact rdw_ex (by (with_reducible repeat constructor)) hr); (case hv => exact hE8); (case hl => rfl); (case hn => rfl))
    (apply Tri.op; rfl)
    (apply o_callV (hs := law12_Back x); (case hargs => (repeat first | exact evs.nil | (apply evs.cons; case a => rfl))); (case hpre => exact fun _ _ => trivial); (case hn => rfl))
    (apply Tri.op; rfl)
    (apply o_litSl (ys := entL x); (case hp => (repeat first | exact pev.nil | (apply pev.cons; case a => rfl))); (case hm => rfl); (case hf => rfl); (case hn => rfl); intro vl)
    (apply Tri.op; rfl)
    (apply o_append (m2 := 1) (news := entL x); (case hx => rfl); (case hy => rfl); (case p => (with_reducible repeat constructor)); (case hr => exact rdw_own (v := vl) (by (with_reducible repeat constructor))); (case hl => rfl); (case h1 => exact entL_one5 x); (case hb => omega); (case hn => rfl))
    intro vr
    (refine Tri.shape (e := 103) (size := 8) (v := vr) (by (with_reducible repeat constructor)) ?_; rintro ⟨A2, c2, rfl⟩)
    (apply Tri.op; rfl; apply o_assign; rfl; rfl; refine Tri.nil (Tri.blockN (Tri.thenN (Tri.region ?_))); apply Tri.op; rfl; apply o_move; rfl; rfl; apply Tri.op; rfl; apply o_add64; rfl; rfl; rfl; (omega); apply Tri.op; rfl; apply o_assign; rfl; rfl; refine Tri.nil (Tri.thenN ?_))
    ((with_reducible apply Tri.eqA (A := own 103 8 (.slice A2 (i + 1) c2) _ _) (B := own 103 8 (.slice A2 (i + 1) c2) (i + 1) (EL (E.take (i + 1))))); (case p => (with_reducible repeat constructor)); (case e => (rw [htk])))
    ((with_reducible apply Tri.seti 4 (((i + 1 : Nat) : Int))); (case h => rfl); (case hi => omega))
    (apply Tri.again (y := ⟨i + 1, A2, c2, hil'⟩); (case p => ((try dsimp only); (repeat first | with_reducible constructor | constructor))); (case hm => ((try dsimp only); omega)); (try dsimp only))
    (repeat (first | exact trivial | refine And.intro (by rfl) ?_))
  · have hil : i = E.length := by omega
    subst hil
    rw [List.take_length]
    ((with_reducible refine Tri.exit (Tri.thenE (Tri.thenE (Tri.blockE (Tri.thenN (Tri.seq (Tri.region ?_))))))); apply Tri.op; rfl; apply o_move; rfl; rfl; apply Tri.op; rfl; apply o_assign; rfl; rfl; refine Tri.nil (Tri.thenN (Tri.ret ?_)))
    (apply Tri.fin; (case hr => rfl); (case h => (repeat (first | exact ResL.nil | (apply ResL.cons; (case a => (first | exact Res1.tmp rfl | (apply Res1.cell; rfl; (with_reducible repeat constructor); rfl) | (apply Res1.agg; rfl; (with_reducible repeat constructor); rfl; rfl))))))); (apply fin_R (Hn := [own 103 8 (.slice A E.length c) E.length (EL E)])); (case p => (repeat first | with_reducible constructor | constructor)))
    exact ⟨A, c, rfl, rfl⟩
set_option maxHeartbeats 8000000 in
theorem ref13_Same (u v : Value) (E : List ENT) (hb : E.length ≤ 1000000) : SpecR Try.prog 37 #[u, v] (fun w => RdW w u E.length (EL E) ∧ RdW w v E.length (EL E)) (fun r H' => r = .bool true ∧ H' = []) := by
  refine SpecR.of (fun w hrr => ?_)
  obtain ⟨hr0, hs0⟩ := hrr
  obtain ⟨Au, cu, rfl, _⟩ := id hr0
  obtain ⟨Av, cv, rfl, _⟩ := id hs0
  refine Calls.enter Try.func37 rfl rfl rfl (St.rebase w) ?_
  simp only [argSlots]
  (refine Tri.seq (Tri.region ?_); apply Tri.op; rfl; apply o_assign; rfl; rfl; refine Tri.nil (Tri.thenN (Tri.seq (Tri.seq (Tri.region ?_)))); apply Tri.op; rfl; apply o_move; rfl; rfl; apply Tri.op; rfl; apply o_len; rfl; rfl; apply Tri.op; rfl; apply o_move; rfl; rfl; apply Tri.op; rfl; apply o_len; rfl; rfl; apply Tri.op; rfl; apply o_neq; rfl; rfl; rfl; refine Tri.nil (Tri.thenN ?_))
  ((with_reducible apply Tri.setb 10 (false)); (case h => rfl); (case hi => simp))
  (apply Tri.condF; rfl; rfl; refine Tri.skip (Tri.thenN (Tri.seq (Tri.seq (Tri.region ?_)))); apply Tri.op; rfl; apply o_assign; rfl; rfl; refine Tri.nil (Tri.thenN (Tri.block ?_)))
  (apply Tri.loop (α := { i : Nat // i ≤ E.length }) (m := fun x => E.length - x.1) (Lx := fun x => [(0, .slice Au E.length cu), (1, .slice Av E.length cv), (5, .int .i64 (x.1 : Int))]) (Hx := fun x => [Ex (hp w)]) (x0 := ⟨0, Nat.zero_le _⟩); (case hL => ((try dsimp only); (repeat (first | exact trivial | refine And.intro (by rfl) ?_)))); (case hH => ((try dsimp only); apply St.all; (repeat first | with_reducible constructor | constructor)))); (rintro ⟨i, hi⟩ mx hmx; (try dsimp only at hmx ⊢))
  (refine Tri.seq (Tri.seq (Tri.region ?_)); apply Tri.op; rfl; apply o_move; rfl; rfl; apply Tri.op; rfl; apply o_move; rfl; rfl; apply Tri.op; rfl; apply o_len; rfl; rfl; apply Tri.op; rfl; apply o_lss; rfl; rfl; rfl; refine Tri.nil (Tri.thenN ?_))
  (apply Tri.condD; (case hc => rfl); (all_goals intro hc))
  · have hil : i < E.length := by omega
    have hil' : i + 1 ≤ E.length := hil
    obtain ⟨e, he⟩ : ∃ e, e = E.getD i ent0 := ⟨_, rfl⟩
    have h8 := EL_eight E i hil
    rw [← he] at h8
    (refine Tri.skip (Tri.thenN (Tri.seq (Tri.block (Tri.seq ?_)))))
    (apply Tri.quiet; (case hB => kernel_rfl))
    ((iterate 2 (first | (apply TriQ.op; rfl) | (apply TriQ.opYes; rfl; rfl; with_reducible rfl)); rfl; rfl; (intro K hK; apply o_move; rfl; rfl; exact hK)))
    ((first | (apply TriQ.op; (case hg => rfl)) | (apply TriQ.opYes; (case hg => rfl); (case hy => rfl); (case hb => with_reducible rfl))); (case hd => rfl); (case hn => rfl); (case h => (intro K hK; (apply o_ixRd (hr := hr0) (j := i); (case hx => rfl); (case hy => rfl); (case hj => rfl); (case hlt => exact hil); (case hl => (rw [EL_length]; omega)); (case hn => rfl)); exact hK)))
    ((first | (apply TriQ.op; (case hg => rfl)) | (apply TriQ.opYes; (case hg => rfl); (case hy => rfl); (case hb => with_reducible rfl))); (case hd => rfl); (case hn => rfl); (case h => (intro K hK; (apply o_loadAggRd (hr := hr0); (case hx => rfl); (case p => (with_reducible repeat constructor)); (case hv => exact h8); (case hl => rfl); (case hn => rfl)); exact hK)))
    ((iterate 2 (first | (apply TriQ.op; rfl) | (apply TriQ.opYes; rfl; rfl; with_reducible rfl)); rfl; rfl; (intro K hK; apply o_move; rfl; rfl; exact hK)))
    ((first | (apply TriQ.op; (case hg => rfl)) | (apply TriQ.opYes; (case hg => rfl); (case hy => rfl); (case hb => with_reducible rfl))); (case hd => rfl); (case hn => rfl); (case h => (intro K hK; (apply o_ixRd (hr := hs0) (j := i); (case hx => rfl); (case hy => rfl); (case hj => rfl); (case hlt => exact hil); (case hl => (rw [EL_length]; omega)); (case hn => rfl)); exact hK)))
    ((first | (apply TriQ.op; (case hg => rfl)) | (apply TriQ.opYes; (case hg => rfl); (case hy => rfl); (case hb => with_reducible rfl))); (case hd => rfl); (case hn => rfl); (case h => (intro K hK; (apply o_loadAggRd (hr := hs0); (case hx => rfl); (case p => (with_reducible repeat constructor)); (case hv => exact h8); (case hl => rfl); (case hn => rfl)); exact hK)))
    ((first | (apply TriQ.op; (case hg => rfl)) | (apply TriQ.opYes; (case hg => rfl); (case hy => rfl); (case hb => with_reducible rfl))); (case hd => rfl); (case hn => rfl); (case h => (intro K hK; (apply o_neqA (r := true); (case hx => rfl); (case hy => rfl); (case hax => exact ent_alk e); (case hay => exact ent_alk e); (case hr => exact ⟨fun _ => rfl, fun _ => rfl⟩); (case hn => rfl)); exact hK)))
    (refine TriQ.nil ?_)
    (refine Tri.thenN ?_)
    ((with_reducible apply Tri.setb 25 (false)); (case h => rfl); (case hi => rfl))
    (apply Tri.condF; rfl; rfl; refine Tri.skip (Tri.blockN (Tri.thenN (Tri.region ?_))); apply Tri.op; rfl; apply o_move; rfl; rfl; apply Tri.op; rfl; apply o_add64; rfl; rfl; rfl; (omega); apply Tri.op; rfl; apply o_assign; rfl; rfl; refine Tri.nil (Tri.thenN ?_))
    ((with_reducible apply Tri.seti 5 (((i + 1 : Nat) : Int))); (case h => rfl); (case hi => omega))
    (apply Tri.again (y := ⟨i + 1, hil'⟩); (case p => ((try dsimp only); (repeat first | with_reducible constructor | constructor))); (case hm => ((try dsimp only); omega)); (try dsimp only))
    (repeat (first | exact trivial | refine And.intro (by rfl) ?_))
  · ((with_reducible refine Tri.exit (Tri.thenE (Tri.thenE (Tri.blockE (Tri.thenN (Tri.seq (Tri.region ?_))))))); apply Tri.op; rfl; apply o_assign; rfl; rfl; refine Tri.nil (Tri.thenN (Tri.ret ?_)))
    (apply Tri.fin; (case hr => rfl); (case h => exact ResL.cons (Res1.tmp rfl) (ResL.nil)); (apply fin_R (Hn := [])); (case p => exact (by (repeat first | with_reducible constructor | constructor))); exact ⟨by simp only [tupled]; skip, rfl⟩)
end Go.Proofs.Ytckdlfbbkemklaa
end
