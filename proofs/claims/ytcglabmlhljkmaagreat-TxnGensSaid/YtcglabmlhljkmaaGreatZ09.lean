/- Texts of this claim, put together: TxPlain8, WkPlain5, WkPlain6, WkPlain7, WkWalk5, WkShare, TxWalk7, TxWalk8, TxWalk5, TxWalk9, TxPlain9, TxPlain10, TfPlain2, TxPlain11, TxWalk10, TxPlain12, CrcRef, PgWalk4, PgWalk5, GvLaw. -/
import Derived.Test.YtcglabmlhljkmaaGreatZ08
import Derived.Test.YtcglabmlhljkmaaGreatZ04
import Derived.Test.YtcglabmlhljkmaaGreatZ06
import Derived.Test.YtcglabmlhljkmaaGreatZ07
import Derived.Test.YtcglabmlhljkmaaGreatZ02
import Derived.Test.YtcglabmlhljkmaaGreatZ01
import Derived.Test.YtcglabmlhljkmaaGreatZ03
section
/- txn: texts beside a tree; one that is put; in plain terms. -/
namespace Go.Proofs.YtcglabmlhljkmaaGreat
open Go Go.RowKit Go.Gv
set_option linter.unusedVariables false
set_option linter.unusedSimpArgs false

/-- what an entry's pages hold -/
def txE (S : DS) (x : ENT) : List UInt8 := (S.V.drop (x.addr.toNat * 256)).take x.len.toNat
/-- an entry whose text is there -/
structure TxE (S : DS) (x : ENT) : Prop where
  ok : entOk x = true
  fit : x.addr + pagesE x.len ≤ ((S.A.length / 256 : Nat) : Int)
  crc : (crcSum (txE S x)).toNat = x.crc
theorem ent_bounds {x : ENT} (ok : entOk x = true) : (2 ≤ x.addr ∧ x.addr ≤ 511) ∧ (1 ≤ x.len ∧ x.len ≤ 65535) ∧ x.addr + pagesE x.len ≤ 512 := by
  simp only [entOk, Bool.and_eq_true, betw, decide_eq_true_eq] at ok
  exact ⟨ok.1.1.1.1.2, ok.1.1.1.2, ok.1.1.2⟩
theorem TxE.bounds {S : DS} {x : ENT} (h : TxE S x) : (2 ≤ x.addr ∧ x.addr ≤ 511) ∧ (1 ≤ x.len ∧ x.len ≤ 65535) := ⟨(ent_bounds h.ok).1, (ent_bounds h.ok).2.1⟩
theorem TxE.rd {S : DS} {x : ENT} (h : TxE S x) (ho : S.off = false) (hA : S.A.length % 256 = 0) : rdE S (x.addr * 4) ((x.len.toNat + 63) / 64) = 0 := by
  obtain ⟨h1, h2⟩ := h.bounds
  have hf := h.fit
  rw [pagesE] at hf
  obtain ⟨a, ha⟩ : ∃ a : Nat, x.addr = (a : Int) := ⟨x.addr.toNat, by omega⟩
  obtain ⟨n, hn⟩ : ∃ n : Nat, x.len = (n : Int) := ⟨x.len.toNat, by omega⟩
  have e : x.addr * 4 = ((a * 4 : Nat) : Int) := by omega
  rw [e, hn]
  show rdE S _ ((n + 63) / 64) = 0
  refine rdE_of ho _ ?_
  have h3 : (n + 63) / 64 ≤ 4 * ((n + 255) / 256) := by omega
  have h4 : a + (n + 255) / 256 ≤ S.A.length / 256 := by omega
  omega
/-- so many pages an entry's text takes -/
def nE (x : ENT) : Nat := (pagesE x.len).toNat
def txP (x : ENT) : List Nat := runL x.addr.toNat (nE x)
/-- the pages of all texts -/
def txs (E : List ENT) : List Nat := E.flatMap txP
theorem padN_mul (n : Nat) : n + padN n = (n + 255) / 256 * 256 := by
  unfold padN; omega
theorem padB_len (b : List UInt8) : (padB b).length = (b.length + 255) / 256 * 256 := by rw [padB_length, padN_mul]
theorem txE_at (S : DS) (x : ENT) (h : x.len.toNat ≤ nE x * 256) : txE S x = (textAt S.V x.addr.toNat (nE x)).take x.len.toNat := by
  rw [txE, textAt, List.take_take, Nat.min_eq_left h]
theorem nE_ge {x : ENT} (h : 0 ≤ x.len) : x.len.toNat ≤ nE x * 256 := by
  rw [nE, pagesE]; omega
theorem TxE.same {S S' : DS} {x : ENT} (h : TxE S x) (hl : S'.A.length = S.A.length) (hp : ∀ p ∈ txP x, pgAt S'.V p = pgAt S.V p) : TxE S' x ∧ txE S' x = txE S x := by
  have hb := h.bounds
  have e : txE S' x = txE S x := by
    rw [txE_at S' x (nE_ge (by omega)), txE_at S x (nE_ge (by omega)), textAt_same _ hp]
  exact ⟨⟨h.ok, by rw [hl]; exact h.fit, by rw [e]; exact h.crc⟩, e⟩
/-- a node that is read where the page is as it was -/
theorem rdN_pg {S S' : DS} (h : S.on) (h' : S'.on) (hl : S'.A.length = S.A.length) {p : Nat} (hp : p * 256 + 256 ≤ S.A.length) (e : pgAt S'.V p = pgAt S.V p) (lf : Bool) : rdN S' (p : Int) lf = rdN S (p : Int) lf := by
  have e2 : rdPg S' (p : Int) (kindN lf) = rdPg S (p : Int) (kindN lf) := by
    rw [rdPg_on h' p (by rw [hl]; exact hp), rdPg_on h p hp, e]
  rw [rdN, rdN, e2]
theorem same_pg {S S' : DS} {k : Nat} {P : List Nat} (h : S.on) (h' : S'.on) (hk : S.A.length = k * 256) (hk' : S'.A.length = k * 256) (h8 : 8 ≤ k) (hP : ∀ p ∈ P, p < k) (e : ∀ p, (p ∈ P ∨ p < 2) → pgAt S'.V p = pgAt S.V p) : same S S' P := fun p hp => by
  have hpk : p < k := hp.elim (hP p) (fun c => by omega)
  exact ⟨e p hp, fun lf => rdN_pg h h' (by rw [hk, hk']) (by rw [hk]; exact fitk hpk) (e p hp) lf⟩
theorem TI.perm {k : Nat} {mu : Nat → Nat} {O R R' : List Nat} {v : VS} {a : Int} {h : Nat} {E : List ENT} (ti : TI k mu O R v a h E) (p : R.Perm R') : TI k mu O R' v a h E :=
  ⟨ti.vg.perm (List.Perm.append_left _ p), ti.g, ti.ents, ti.ord, ti.h5⟩
/-- a tree whose pages are as they were -/
theorem TI.moved {k : Nat} {mu : Nat → Nat} {O R R' : List Nat} {v v' : VS} {a : Int} {h : Nat} {E : List ENT} (ti : TI k mu O R v a h E) (hv : VG k (pgN v.S h a ++ R') O v') (sm : same v.S v'.S (pgN v.S h a)) : TI k mu O R' v' a h E := by
  rcases ti.g with h0 | g
  · subst h0
    exact ⟨hv, .inl rfl, ti.ents, ti.ord, ti.h5⟩
  · obtain ⟨g1, g2, g3⟩ := tk_same h (rmin h) a g sm
    exact ⟨by rw [g3]; exact hv, .inr g1, by rw [g2]; exact ti.ents, ti.ord, ti.h5⟩
/-- a text beside a tree -/
theorem padB_take' (b : List UInt8) : (padB b).take b.length = b := by unfold padB; rw [List.take_left]
structure TxtR (k : Nat) (mu : Nat → Nat) (O R : List Nat) (v : VS) (a : Int) (h : Nat) (E : List ENT) (text : List UInt8) (n t : Nat) (m2 : BM) : Prop where
  tk : takeM v.m v.old (n : Int) = (m2, (t : Int), 0)
  fit : 2 ≤ t ∧ t + n ≤ k
  len : m2.u.length = 512
  rm : rightM m2 = true
  p : m2.p = v.m.p
  w : (rwS v.S (t : Int) text).2 = 0
  ti : TI k mu O (runL t n ++ R) (putV v m2 t text) a h E
  sm : same v.S (putV v m2 t text).S (pgN v.S h a ++ (R ++ O))
  txt : textAt (putV v m2 t text).S.V t n = padB text
  W : (putV v m2 t text).S.W.length ≤ v.S.W.length + n * 4
  A : (putV v m2 t text).S.A = v.S.A
  new : ∀ p ∈ runL t n, p ∉ pgN v.S h a ++ R ∧ p ∉ O
theorem ti_text {k : Nat} {mu : Nat → Nat} {O R : List Nat} {v : VS} {a : Int} {h : Nat} {E : List ENT} (ti : TI k mu O R v a h E) {n : Nat} {text : List UInt8} (hn : (padB text).length = n * 256) (hn1 : 1 ≤ n) :
    (∃ t m2, TxtR k mu O R v a h E text n t m2) ∨ ((takeM v.m v.old (n : Int)).2.2 = 5 ∧ ∀ t, t + n ≤ k → ¬ runF v.m v.old t n) := by
  have hv := ti.vg
  have hk := hv.k8
  rcases take_run hv.m hv.o hk hn1 with ⟨t, m2, e, hf, hnew, hi⟩ | hno
  · refine .inl ⟨t, m2, ?_⟩
    have hfit : t * 256 + n * 256 ≤ v.S.A.length := by
      rw [hv.len, ← Nat.add_mul]; exact Nat.mul_le_mul_right 256 hf.2
    obtain ⟨r1, r2, r3, r4, r5, r6⟩ := raw_on hv.on (t := t) hn hfit
    have eS : (putV v m2 t text).S = (rwS v.S (t : Int) text).1 := rfl
    have hVl : v.S.V.length = k * 256 := by rw [DS.V_length hv.on.1, hv.len]
    have hfV : t * 256 + n * 256 ≤ v.S.V.length := by rw [hVl, ← hv.len]; exact hfit
    have hpg : ∀ p, (p < t ∨ t + n ≤ p) → pgAt (rwS v.S (t : Int) text).1.V p = pgAt v.S.V p := fun p hp => by
      rw [r3]; exact pgAt_put v.S.V t n p _ hn hfV hp
    have hout : ∀ p, p ∉ runL t n → p < t ∨ t + n ≤ p := fun p hp => by
      by_cases c : p < t
      · exact .inl c
      · by_cases c2 : p < t + n
        · exact absurd (runL_mem.2 ⟨by omega, c2⟩) hp
        · exact .inr (by omega)
    have hsm : same v.S (rwS v.S (t : Int) text).1 (pgN v.S h a ++ (R ++ O)) := by
      refine same_pg hv.on r2 hv.len (by rw [r4, hv.len]) hk.1 (fun p hp => ?_) (fun p hp => hpg p ?_)
      · rcases List.mem_append.1 hp with c | c
        · exact (hv.m.rng p (List.mem_append_left _ c)).2
        · rcases List.mem_append.1 c with c | c
          · exact (hv.m.rng p (List.mem_append_right _ c)).2
          · exact (hv.o.rng p c).2
      · rcases hp with hp | hp
        · refine hout p (fun c => ?_)
          obtain ⟨q1, q2⟩ := hnew p c
          rcases List.mem_append.1 hp with d | d
          · exact q1 (List.mem_append_left _ d)
          · rcases List.mem_append.1 d with d | d
            · exact q1 (List.mem_append_right _ d)
            · exact q2 d
        · exact .inl (by omega)
    refine ⟨e, hf, hi.len, hi.right hk, by rw [hi.p, hv.m.p], r1, ?_, hsm, ?_, r5, r4, hnew⟩
    · refine ti.moved ⟨hk, r2, by rw [eS, r4, hv.len], hv.gen, inv_perm hi ?_, hv.o, fun x hx => ?_⟩ (hsm.sub (fun p hp => List.mem_append_left _ hp))
      · rw [← List.append_assoc, ← List.append_assoc]
        exact List.Perm.append_right _ List.perm_append_comm
      · rcases r6 x hx with c | ⟨c1, c2⟩
        · exact hv.w x c
        · exact ⟨by omega, (hnew _ (runL_mem.2 ⟨c1, c2⟩)).2⟩
    · rw [eS, r3]; exact textAt_put v.S.V t n _ hn hfV
  · exact .inr hno
end Go.Proofs.YtcglabmlhljkmaaGreat
end
section
/- walk: one level more. -/
namespace Go.Proofs.YtcglabmlhljkmaaGreat
open Go Go.RowKit Go.Gv
set_option linter.unusedVariables false
set_option linter.unusedSimpArgs false

theorem sum_groups {α : Type} {C : α → Nat} : ∀ gs : List (List α), (gs.map fun g => 1 + (g.map C).sum).sum = gs.length + (gs.flatten.map C).sum
  | [] => rfl
  | g :: gs => by rw [List.map_cons, List.sum_cons, sum_groups gs, List.length_cons, List.flatten_cons, List.map_append, List.sum_append]; omega
theorem cut_len {f : Int → List ENT} {D : List Int} {N m : Nat} (hs : ∀ (i : Nat) (d : Int), D[i]? = some d → (f d).length = min N (m - i * N)) (lo hi : Nat) (h1 : lo ≤ hi) (h2 : hi ≤ D.length) : ((cutL D lo hi).flatMap f).length = min (hi * N) m - min (lo * N) m := by
  have e : D.take hi = D.take lo ++ cutL D lo hi := by
    rw [← List.take_append_drop lo (D.take hi), List.take_take, Nat.min_eq_left h1, List.drop_take, cutL]
  have a := pre_len hs hi h2
  rw [e, List.flatMap_append, List.length_append, pre_len hs lo (by omega)] at a
  omega
theorem group_len {N m n j : Nat} (hN : 0 < N) (hn : n = (m + N - 1) / N) (hj : j * 16 < n) : min (min (j * 16 + 16) n * N) m - min (j * 16 * N) m = min (N * 16) (m - j * (N * 16)) := by
  have eA : j * (N * 16) = j * 16 * N := by rw [Nat.mul_comm N 16, Nat.mul_assoc]
  have e1 : (j * 16 + 16) * N = j * 16 * N + N * 16 := by rw [Nat.add_mul, Nat.mul_comm 16 N]
  have hle : m ≤ n * N := by
    have h1 := Nat.div_add_mod (m + N - 1) N
    have h2 := Nat.mod_lt (m + N - 1) hN
    rw [← hn, Nat.mul_comm] at h1
    omega
  have hlt : j * 16 * N < m := by
    have h1 : (j * 16 + 1) * N ≤ m + N - 1 := Nat.le_trans (Nat.mul_le_mul_right N hj) (by rw [hn]; exact Nat.div_mul_le_self _ _)
    rw [Nat.add_mul, Nat.one_mul] at h1
    omega
  rw [eA]
  by_cases hb : j * 16 + 16 ≤ n
  · rw [Nat.min_eq_left hb, e1]
    generalize j * 16 * N = Y at *
    omega
  · have hmin : min (j * 16 + 16) n = n := by omega
    rw [hmin]
    have h3 : n * N ≤ (j * 16 + 16) * N := Nat.mul_le_mul_right N (by omega)
    rw [e1] at h3
    generalize j * 16 * N = Y at *
    generalize n * N = Z at *
    omega
theorem Lev.step {l : List ENT} {h c : Nat} {v : VS} {xs : List ND3} (L : Lev l h c v xs) (hl : loadOk l) (hx : 2 ≤ xs.length) (hc : c + xs.length ≤ 200) :
    (unN (decide (h = 0)) v xs).2.2 = 0 ∧ Lev l (h + 1) (c + xs.length) (unN (decide (h = 0)) v xs).1 (chunkN (unN (decide (h = 0)) v xs).2.1) ∧ (unN (decide (h = 0)) v xs).2.1.D.length = xs.length := by
  have hrise := rise_of hl
  obtain ⟨v', e, hvc, hrd, hag⟩ := VC.go (leaf := decide (h = 0)) xs L.vc L.c2 hc (fun x hx => ⟨(L.ok x hx).1, (L.ok x hx).2.1, (L.ok x hx).2.2.1⟩)
  obtain ⟨n, hn⟩ : ∃ n, n = xs.length := ⟨_, rfl⟩
  rw [← hn] at hc hx hvc e ⊢
  obtain ⟨D, hD⟩ : ∃ D, D = (List.range n).map (fun i => ((c + i : Nat) : Int)) := ⟨_, rfl⟩
  obtain ⟨Ks, hK⟩ : ∃ Ks, Ks = xs.map (least3 (decide (h = 0))) := ⟨_, rfl⟩
  obtain ⟨N, hN⟩ : ∃ N, N = capN h := ⟨_, rfl⟩
  obtain ⟨m, hm⟩ : ∃ m, m = l.length := ⟨_, rfl⟩
  have hNp : 0 < N := by rw [hN]; exact capN_pos h
  rw [← hD] at e
  have hun : unN (decide (h = 0)) v xs = (v', ⟨[], Ks, D⟩, 0) := by rw [unN, e]; simp only [if_true, hK]
  rw [hun]
  have hDl : D.length = n := by rw [hD]; simp
  have hKl : Ks.length = n := by rw [hK, hn]; simp
  have hDg : ∀ i, i < n → D[i]? = some ((c + i : Nat) : Int) := fun i hi => by rw [hD, List.getElem?_map, List.getElem?_range hi]; rfl
  have hlt : ∀ {i : Nat} {d : Int}, D[i]? = some d → i < n := fun hi => by have := (List.getElem?_eq_some_iff.1 hi).1; omega
  have hxg : ∀ i, i < n → ∃ x, xs[i]? = some x := fun i hi => ⟨_, List.getElem?_eq_getElem (by omega)⟩
  have hcnt := L.cnt
  rw [← hn, ← hN, ← hm] at hcnt
  have hag' : agree v.S v'.S c := fun j lf hj => hag j lf hj
  have key : ∀ (i : Nat) (x : ND3), xs[i]? = some x → wkGc v'.S (c + n) (h + 1) ((c + i : Nat) : Int) ∧ wkE v'.S (h + 1) ((c + i : Nat) : Int) = entX v.S h x ∧ wkC v'.S (h + 1) ((c + i : Nat) : Int) = cX v.S h x ∧ ∀ k, wkV v'.S (h + 1) ((c + i : Nat) : Int) k = vX v.S h x k := by
    intro i x hi
    have hil := (List.getElem?_eq_some_iff.1 hi).1
    have hr := hrd i x hi
    obtain ⟨o1, o2, o3, o4⟩ := L.ok x (List.mem_of_getElem? hi)
    have sm := fun d hd => wkGc_same (c' := c + n) hag' (by omega) h d (o4 d hd)
    refine ⟨⟨⟨c + i, by omega, rfl⟩, by rw [hr], by rw [hr]; exact (right_len o1).1, by rw [hr]; exact (right_len o1).2, fun k hk => by rw [hr] at hk; exact (sm k hk).1⟩, ?_, ?_, fun k => ?_⟩
    · rw [wkE, hr, entX, flat_congr (fun k hk => (sm k hk).2.1)]
    · rw [wkC, hr, cX, List.map_congr_left (fun k hk => (sm k hk).2.2.1)]
    · rw [wkV, hr, vX, wkVL_g, wkVL_g]
      congr 2
      refine gVL_zip _ _ _ rfl (fun i x y hx hy => ?_)
      rw [hx] at hy
      cases hy
      have := sm x (List.mem_of_getElem? hx)
      exact ⟨by rw [this.2.1], this.2.2.1, this.2.2.2⟩
  have hDs : ∀ (i : Nat) (d : Int), D[i]? = some d → (wkE v'.S (h + 1) d).length = min N (m - i * N) := by
    intro i d hd
    obtain ⟨x, hxi⟩ := hxg i (hlt hd)
    rw [hDg i (hlt hd)] at hd
    cases hd
    rw [(key i x hxi).2.1, hN, hm]
    exact (L.sz i x hxi).1
  have hKg : ∀ i, i < n → Ks[i]? = some (l.getD (i * N) ent0).key := by
    intro i hi
    obtain ⟨x, hxi⟩ := hxg i hi
    rw [hK, List.getElem?_map, hxi, hN]
    show some (least3 _ x) = _
    rw [(L.sz i x hxi).2]
  have hNlt : ∀ i, i < n → i * N < m := by
    intro i hi
    have h1 : (i + 1) * N ≤ m + N - 1 := Nat.le_trans (Nat.mul_le_mul_right N hi) (by rw [hcnt]; exact Nat.div_mul_le_self _ _)
    rw [Nat.add_mul, Nat.one_mul] at h1
    omega
  obtain ⟨X, hX⟩ : ∃ X : ND3, X = ⟨[], Ks, D⟩ := ⟨_, rfl⟩
  have hXD : X.D.length = n := by rw [hX]; exact hDl
  have hcap : capN (h + 1) = N * 16 := by rw [capN_succ, hN]
  have hcn : (chunkN X).length = (n + 15) / 16 := by rw [chunkN_length, hXD]
  have hch : ∀ (j : Nat) (y : ND3), (chunkN X)[j]? = some y → j * 16 < n ∧ y = ⟨[], cutL Ks (j * 16) (min (j * 16 + 16) n), cutL D (j * 16) (min (j * 16 + 16) n)⟩ := by
    intro j y hy
    have hj : j < (n + 15) / 16 := by have := (List.getElem?_eq_some_iff.1 hy).1; omega
    rw [chunkN, List.getElem?_map, List.getElem?_range (by rw [hXD]; exact hj)] at hy
    have hy' : chN X j = y := Option.some.inj hy
    refine ⟨by omega, ?_⟩
    rw [← hy', chN, hXD, hX]
  have hgl : ∀ j, j * 16 < n → ((cutL D (j * 16) (min (j * 16 + 16) n)).flatMap (wkE v'.S (h + 1))).length = min (N * 16) (m - j * (N * 16)) := by
    intro j hj
    rw [cut_len hDs _ _ (by omega) (by omega)]
    exact group_len hNp hcnt hj
  obtain ⟨gs, hgs⟩ : ∃ gs, gs = (List.range ((n + 15) / 16)).map (fun j => cutL D (j * 16) (min (j * 16 + 16) n)) := ⟨_, rfl⟩
  have hgsl : gs.length = (n + 15) / 16 := by rw [hgs]; simp
  have hgsf : gs.flatten = D := by
    have := chunks_flat D ((n + 15) / 16) (by rw [hDl]; exact Nat.le_refl _)
    rw [hDl] at this
    rw [hgs, this]
    exact List.take_of_length_le (by omega)
  have hgg : ∀ (j : Nat) (g : List Int), gs[j]? = some g → j * 16 < n ∧ g = cutL D (j * 16) (min (j * 16 + 16) n) := by
    intro j g hg
    have hj : j < (n + 15) / 16 := by have := (List.getElem?_eq_some_iff.1 hg).1; omega
    rw [hgs, List.getElem?_map, List.getElem?_range hj] at hg
    exact ⟨by omega, (Option.some.inj hg).symm⟩
  have hcnt' : (n + 15) / 16 = (m + N * 16 - 1) / (N * 16) := by rw [hcnt]; exact ceil_ceil m N hNp
  have hmpos : 0 < m := by have := hNlt 0 (by omega); omega
  have hDC : D.map (wkC v'.S (h + 1)) = xs.map (cX v.S h) := by
    refine List.ext_getElem? (fun i => ?_)
    rw [List.getElem?_map, List.getElem?_map]
    by_cases hi : i < n
    · obtain ⟨x, hxi⟩ := hxg i hi
      rw [hDg i hi, hxi]
      show some _ = some _
      rw [(key i x hxi).2.2.1]
    · rw [List.getElem?_eq_none (by omega), List.getElem?_eq_none (by omega)]; rfl
  have e0 : decide (h + 1 = 0) = false := decide_eq_false (by omega)
  refine ⟨rfl, ?_, hDl⟩
  show Lev l (h + 1) (c + n) v' (chunkN ⟨[], Ks, D⟩)
  rw [← hX]
  refine { vc := hvc, c2 := ?_, n1 := ?_, cnt := ?_, ok := ?_, sz := ?_, ents := ?_, vis := ?_, tot := ?_ }
  · have := L.c2; omega
  · rw [hcn]; omega
  · rw [hcn, hcap, ← hm]; exact hcnt'
  · intro y hy
    obtain ⟨j, hjy⟩ := List.getElem?_of_mem hy
    obtain ⟨hj, rfl⟩ := hch j y hjy
    obtain ⟨lo, hlo⟩ : ∃ lo, lo = j * 16 := ⟨_, rfl⟩
    obtain ⟨hi, hhi⟩ : ∃ hi, hi = min (j * 16 + 16) n := ⟨_, rfl⟩
    rw [← hhi, ← hlo]
    have kl : (cutL Ks lo hi).length = hi - lo := cutL_len _ _ _ (by omega)
    have dl : (cutL D lo hi).length = hi - lo := cutL_len _ _ _ (by omega)
    have kg : ∀ i, i < hi - lo → (cutL Ks lo hi).getD i (0, 0) = (l.getD ((lo + i) * N) ent0).key := by
      intro i hi'
      rw [List.getD_eq_getElem?_getD, cutL_get _ _ _ _ (by omega), hKg (lo + i) (by omega)]; rfl
    have dg : ∀ i, i < hi - lo → (cutL D lo hi)[i]? = some ((c + (lo + i) : Nat) : Int) := by
      intro i hi'
      rw [cutL_get _ _ _ _ (by omega), hDg (lo + i) (by omega)]
    have hkey : ∀ i, i < hi - lo → keyAt (cutL Ks lo hi) i = true := by
      intro i hi'
      have hlt := hNlt (lo + i) (by omega)
      have hok : keyOk (l.getD ((lo + i) * N) ent0).key = true := by
        have := hl.1 ((lo + i) * N) (by omega)
        simp only [entOk, Bool.and_eq_true] at this
        exact this.1.1.1.1.1.1
      rw [keyAt, kg i hi', hok, Bool.true_and]
      rcases Nat.eq_zero_or_pos i with h0 | h0
      · rw [decide_eq_true h0]; rfl
      · rw [kg (i - 1) (by omega), hrise ((lo + (i - 1)) * N) ((lo + i) * N) (Nat.mul_lt_mul_of_pos_right (by omega) hNp) (by omega), Bool.or_true]
    have hkid : ∀ i, i < hi - lo → kidAt (cutL D lo hi) i = true := by
      intro i hi'
      have hd : (cutL D lo hi).getD i 0 = ((c + (lo + i) : Nat) : Int) := by rw [List.getD_eq_getElem?_getD, dg i hi']; rfl
      have hb : betw ((c + (lo + i) : Nat) : Int) 2 511 = true := by
        have := L.c2
        rw [betw, decide_eq_true (by omega), decide_eq_true (by omega)]; rfl
      have hnin : ¬ ((c + (lo + i) : Nat) : Int) ∈ (cutL D lo hi).take i := by
        intro hmem
        obtain ⟨q, hq⟩ := List.getElem?_of_mem hmem
        have hql : q < i := by
          have := (List.getElem?_eq_some_iff.1 hq).1
          rw [List.length_take] at this
          omega
        rw [List.getElem?_take, if_pos hql, dg q (by omega)] at hq
        have := Option.some.inj hq
        omega
      rw [kidAt, hd, hb, decide_eq_false hnin]; rfl
    refine ⟨?_, (fun e he => by cases he), ?_, ?_⟩
    · rw [e0, rightN, if_neg (by simp)]
      have hin : innerB (cutL Ks lo hi) (cutL D lo hi) = true := by
        rw [innerB, kl, dl, keysTo_of _ hkey, kidsTo_of _ hkid, decide_eq_true rfl, betw, decide_eq_true (by omega), decide_eq_true (by omega)]; rfl
      rw [hin]; rfl
    · intro k hk
      have hk' : k ∈ cutL Ks lo hi := hk
      obtain ⟨q, hq⟩ := List.getElem?_of_mem hk'
      have hql : q < hi - lo := by have := (List.getElem?_eq_some_iff.1 hq).1; omega
      have hk2 := kg q hql
      rw [List.getD_eq_getElem?_getD, hq] at hk2
      have hk3 : k = (l.getD ((lo + q) * N) ent0).key := hk2
      have hlt := hNlt (lo + q) (by omega)
      rw [hk3, List.getD_eq_getElem?_getD, List.getElem?_eq_getElem (by omega)]
      exact (hl.2.2 _ (List.getElem_mem _)).1
    · intro d hd
      have hd' : d ∈ cutL D lo hi := hd
      obtain ⟨q, hq⟩ := List.getElem?_of_mem hd'
      have hql : q < hi - lo := by have := (List.getElem?_eq_some_iff.1 hq).1; omega
      rw [dg q hql] at hq
      obtain ⟨x, hxi⟩ := hxg (lo + q) (by omega)
      have hdv : ((c + (lo + q) : Nat) : Int) = d := Option.some.inj hq
      rw [← hdv]
      exact (key (lo + q) x hxi).1
  · intro j y hjy
    obtain ⟨hj, rfl⟩ := hch j y hjy
    constructor
    · show ([] ++ (cutL D (j * 16) (min (j * 16 + 16) n)).flatMap (wkE v'.S (h + 1))).length = _
      rw [List.nil_append, hgl j hj, hcap, hm]
    · rw [e0, hcap]
      show (cutL Ks (j * 16) (min (j * 16 + 16) n)).getD 0 (0, 0) = _
      rw [List.getD_eq_getElem?_getD, cutL_get _ _ _ _ (by omega), Nat.add_zero, hKg _ hj, Nat.mul_comm N 16, ← Nat.mul_assoc]; rfl
  · have e1 : (chunkN X).flatMap (entX v'.S (h + 1)) = (gs.flatten).flatMap (wkE v'.S (h + 1)) := by
      rw [hgs, chunkN, hXD]
      generalize List.range ((n + 15) / 16) = rs
      induction rs with
      | nil => rfl
      | cons r rs ih =>
        rw [List.map_cons, List.map_cons, List.flatMap_cons, List.flatten_cons, List.flatMap_append, ih]
        congr 1
        rw [entX, chN, hXD, hX]; rfl
    rw [e1, hgsf]
    have e2 : D.flatMap (wkE v'.S (h + 1)) = xs.flatMap (entX v.S h) := by
      rw [List.flatMap_def, List.flatMap_def]
      congr 1
      refine List.ext_getElem? (fun i => ?_)
      rw [List.getElem?_map, List.getElem?_map]
      by_cases hi : i < n
      · obtain ⟨x, hxi⟩ := hxg i hi
        rw [hDg i hi, hxi]
        show some _ = some _
        rw [(key i x hxi).2.1]
      · rw [List.getElem?_eq_none (by omega), List.getElem?_eq_none (by omega)]; rfl
    rw [e2]; exact L.ents
  · intro k hk
    rw [← hm] at hk
    have s1 : gVL (nX v'.S (h + 1)) (cX v'.S (h + 1)) (vX v'.S (h + 1)) (chunkN X) k
        = gVL (fun g : List Int => (g.map fun d => (wkE v'.S (h + 1) d).length).sum) (fun g => 1 + (g.map (wkC v'.S (h + 1))).sum) (fun g k => 1 + gVL (fun d => (wkE v'.S (h + 1) d).length) (wkC v'.S (h + 1)) (wkV v'.S (h + 1)) g k) gs k := by
      refine gVL_zip _ _ _ (by rw [hcn, hgsl]) (fun j y g hy hg => ?_)
      obtain ⟨_, rfl⟩ := hch j y hy
      obtain ⟨_, rfl⟩ := hgg j g hg
      refine ⟨?_, rfl, fun k => ?_⟩
      · show ([] ++ _).length = _
        rw [List.nil_append, sum_flat]
      · show 1 + (if k < ([] : List ENT).length then 0 else wkVL _ _ _ _ (k - ([] : List ENT).length)) = _
        rw [if_neg (by simp), wkVL_g]; rfl
    have hsum : (D.map fun d => (wkE v'.S (h + 1) d).length).sum = m := by
      rw [← sum_flat]
      have := pre_len hDs n (by omega)
      rw [List.take_of_length_le (by omega)] at this
      rw [this]
      have h1 := Nat.div_add_mod (m + N - 1) N
      have h2 := Nat.mod_lt (m + N - 1) hNp
      rw [← hcnt, Nat.mul_comm] at h1
      omega
    rw [s1, gVL_groups gs k (by rw [hgsf, hsum]; exact hk), hgsf]
    have s2 : gVL (fun d => (wkE v'.S (h + 1) d).length) (wkC v'.S (h + 1)) (wkV v'.S (h + 1)) D k = gVL (nX v.S h) (cX v.S h) (vX v.S h) xs k := by
      refine gVL_zip _ _ _ (by omega) (fun i d x hd hxi => ?_)
      rw [hDg i (hlt hd)] at hd
      cases hd
      exact ⟨by rw [(key i x hxi).2.1]; rfl, (key i x hxi).2.2.1, (key i x hxi).2.2.2⟩
    have hm' : m ≤ (0 + gs.length) * (N * 16) := by
      rw [Nat.zero_add, hgsl, hcnt']
      have h1 := Nat.div_add_mod (m + N * 16 - 1) (N * 16)
      have h2 := Nat.mod_lt (m + N * 16 - 1) (show 0 < N * 16 by omega)
      rw [Nat.mul_comm] at h1
      omega
    have s3 := gIdx_div (n := fun d => (wkE v'.S (h + 1) d).length) (M := N * 16) (m := m) (by omega) gs 0 k (fun j g hg => by
      obtain ⟨hj, rfl⟩ := hgg j g hg
      rw [← sum_flat, hgl j hj, Nat.zero_add]) (by omega) hk hm'
    rw [Nat.zero_mul, Nat.sub_zero, Nat.sub_zero] at s3
    rw [s2, s3, L.vis k (by omega), visF, hcap]
  · have e1 : (chunkN X).map (cX v'.S (h + 1)) = gs.map (fun g => 1 + (g.map (wkC v'.S (h + 1))).sum) := by
      rw [hgs, chunkN, hXD, List.map_map, List.map_map]
      refine List.map_congr_left (fun j _ => ?_)
      show 1 + _ = 1 + _
      rw [chN, hXD, hX]
    rw [e1, sum_groups, hgsf, hDC, L.tot, hgsl, visF, hcap, ← hm, hcnt']
    have : m + N * 16 - 1 = (m - 1) + N * 16 := by omega
    rw [this, Nat.add_div_right _ (show 0 < N * 16 by omega)]
    omega
end Go.Proofs.YtcglabmlhljkmaaGreat
end
section
/- walk: a tree that is loaded: its entries, and the nodes that are read for them. -/
namespace Go.Proofs.YtcglabmlhljkmaaGreat
open Go Go.RowKit Go.Gv
set_option linter.unusedVariables false
set_option linter.unusedSimpArgs false

theorem node_facts {S S' : DS} {c c' h j : Nat} {x : ND3} (hr : rdN S' (j : Int) (decide (h = 0)) = ⟨decide (h = 0), x.E, x.K, x.D, 0⟩) (hag : agree S S' c) (hc : c ≤ c') (hj : j < c') (hx : rightN (decide (h = 0)) x.E x.K x.D = true) (hd : ∀ d ∈ x.D, wkGc S c h d) :
    wkGc S' c' (h + 1) (j : Int) ∧ wkE S' (h + 1) (j : Int) = entX S h x ∧ wkC S' (h + 1) (j : Int) = cX S h x ∧ ∀ k, wkV S' (h + 1) (j : Int) k = vX S h x k := by
  have sm := fun d hd' => wkGc_same (c' := c') hag hc h d (hd d hd')
  refine ⟨⟨⟨j, hj, rfl⟩, by rw [hr], by rw [hr]; exact (right_len hx).1, by rw [hr]; exact (right_len hx).2, fun k hk => by rw [hr] at hk; exact (sm k hk).1⟩, ?_, ?_, fun k => ?_⟩
  · rw [wkE, hr, entX, flat_congr (fun k hk => (sm k hk).2.1)]
  · rw [wkC, hr, cX, List.map_congr_left (fun k hk => (sm k hk).2.2.1)]
  · rw [wkV, hr, vX, wkVL_g, wkVL_g]
    congr 2
    refine gVL_zip _ _ _ rfl (fun i x y hx hy => ?_)
    rw [hx] at hy
    cases hy
    have := sm x (List.mem_of_getElem? hx)
    exact ⟨by rw [this.2.1], this.2.2.1, this.2.2.2⟩
/-- what a load leaves -/
structure Held (l : List ENT) (R : VS × (Int × Nat) × Nat) : Prop where
  e : R.2.2 = 0
  c : ∃ c, c ≤ 200 ∧ VC c R.1
  h5 : R.2.1.2 ≤ 5
  h1 : 1 ≤ R.2.1.2
  g : wkG R.1.S R.2.1.2 R.2.1.1
  E : wkE R.1.S R.2.1.2 R.2.1.1 = l
  V : ∀ k, k < l.length → wkV R.1.S R.2.1.2 R.2.1.1 k = visF (R.2.1.2 - 1) k
  C : wkC R.1.S R.2.1.2 R.2.1.1 = visF (R.2.1.2 - 1) (l.length - 1)
  last : (l.length + capN (R.2.1.2 - 1) - 1) / capN (R.2.1.2 - 1) = 1
  big : ∀ i, i < R.2.1.2 - 1 → 2 ≤ (l.length + capN i - 1) / capN i
theorem Lev.fin {l : List ENT} {h c : Nat} {v : VS} {x : ND3} (L : Lev l h c v [x]) (hc : c < 200) (hh : h ≤ 4) (hb : ∀ i, i < h → 2 ≤ (l.length + capN i - 1) / capN i) : Held l (finN (decide (h = 0)) v [x] (h + 1)) := by
  obtain ⟨o1, o2, o3, o4⟩ := L.ok x (List.mem_singleton.2 rfl)
  obtain ⟨v', e, hvc, hrd, hag⟩ := L.vc.wr L.c2 hc o1 o2 o3
  have hag' : agree v.S v'.S c := fun j lf hj => hag j lf (by omega) (by omega)
  obtain ⟨f1, f2, f3, f4⟩ := node_facts (c' := c + 1) hrd hag' (by omega) (by omega) o1 o4
  have hx : ([x] : List ND3).getD 0 ⟨[], [], []⟩ = x := rfl
  have hR : finN (decide (h = 0)) v [x] (h + 1) = (v', ((c : Int), h + 1), 0) := by rw [finN, if_neg (by omega), hx, e]
  rw [hR]
  have hents := L.ents
  rw [List.flatMap_cons, List.flatMap_nil, List.append_nil] at hents
  have hcnt := L.cnt
  have hvis := L.vis
  have htot := L.tot
  have hn : nX v.S h x = l.length := by rw [nX, hents]
  refine { e := rfl, c := ⟨c + 1, by omega, hvc⟩, h5 := ?_, h1 := ?_, g := wkGc_G (by omega) _ _ f1, E := ?_, V := ?_, C := ?_, last := ?_, big := ?_ }
  · show h + 1 ≤ 5; omega
  · show 1 ≤ h + 1; omega
  · show wkE v'.S (h + 1) (c : Int) = l
    rw [f2]; exact hents
  · intro k hk
    show wkV v'.S (h + 1) (c : Int) k = visF h k
    rw [f4, ← hvis k hk, gVL, if_pos (by omega)]
  · show wkC v'.S (h + 1) (c : Int) = visF h (l.length - 1)
    rw [f3, ← htot]; simp
  · show (l.length + capN h - 1) / capN h = 1
    rw [← hcnt]; rfl
  · exact hb
end Go.Proofs.YtcglabmlhljkmaaGreat
end
section
/- layer 14's law: what is built. -/
namespace Go.Proofs.YtcglabmlhljkmaaGreat
open Go Go.RowKit Go.Gv
set_option linter.unusedVariables false
set_option linter.unusedSimpArgs false

/-- how many nodes are read for the first n of m entries, in a tree of so many levels -/
def tkF (H m n : Nat) : Nat := if m = 0 ∨ n = 0 then 0 else visF (H - 1) (min n m - 1)
structure Built (l : List ENT) (R : VS × (Int × Nat) × Nat) : Prop where
  e : R.2.2 = 0
  ok : R.1.ok
  wt : R.1.S.W.length ≤ 1000000
  h5 : R.2.1.2 ≤ 5
  g : R.2.1.2 = 0 ∨ wkG R.1.S R.2.1.2 R.2.1.1
  E : wkE R.1.S R.2.1.2 R.2.1.1 = l
  C : wkC R.1.S R.2.1.2 R.2.1.1 ≤ 1000000
  tk : ∀ n, tkC R.1.S R.2.1.2 R.2.1.1 n = tkF R.2.1.2 l.length n
end Go.Proofs.YtcglabmlhljkmaaGreat
end
section
/- walk: the reference's Nodes; Entries: the walk. -/
namespace Go.Proofs.YtcglabmlhljkmaaGreat
open Go Go.RowKit Go.Gv
set_option linter.unusedVariables false
set_option linter.unusedSimpArgs false

set_option maxHeartbeats 8000000 in
theorem walk_Entries (pv : Option Nat) (a h : Int) : SpecR Tryz.prog 138 #[.pointer (pv.map fun p => ⟨p, 0, none⟩), rootV a h] (fun _ => True) (fun r H' => ∃ pw b2 b3 : Nat, r = .func (.func 199) #[] [.pointer (some ⟨b2, 0, none⟩), .pointer (some ⟨b3, 0, none⟩)].toArray
    ∧ H' = [blk b2 263 [.pointer (some ⟨pw, 0, none⟩)], blk b3 43 [.int .i64 a, .int .i64 h], blk pw 265 [.pointer (pv.map fun p => ⟨p, 0, none⟩), .int .i64 0]]) := by
  refine SpecR.of (fun w _ => ?_)
  refine Calls.enter Tryz.func138 rfl rfl rfl (St.rebase w) ?_
  simp only [argSlots]
  refine Ws ?_
  (refine Wbx ?_; intro b3)
  refine Ws ?_
  refine Zbu (ys := [.pointer (pv.map fun p => ⟨p, 0, none⟩), .int .i64 0]) ?_
  refine Ws ?_
  (refine Wbx ?_; intro pw)
  refine Ws ?_
  refine Zla (cs := rootL a h) ?_ (hl := by rfl)
  refine Ws ?_
  refine Zcr (walker_entries pw a h) ?_
  rintro r2 H2 ⟨b2, b4, rfl, rfl⟩
  refine Wap ?_
  refine Ws ?_
  refine Zfn [blk b2 263 [.pointer (some ⟨pw, 0, none⟩)], blk b4 43 [.int .i64 a, .int .i64 h], blk pw 265 [.pointer (pv.map fun p => ⟨p, 0, none⟩), .int .i64 0]] (hq := ?_)
  exact ⟨pw, b2, b4, rfl, rfl⟩
end Go.Proofs.YtcglabmlhljkmaaGreat
end
section
/- walk: a walker's each, beside a disk that the loop's body reads: the walk. -/
namespace Go.Proofs.YtcglabmlhljkmaaGreat
open Go Go.RowKit Go.Gv
set_option linter.unusedVariables false
set_option linter.unusedSimpArgs false

def eachH (pw pv d : Nat) (v : VS) (w0 : World) (l : Nat) (h : Nat) (a : Int) : Prop := ∀ (I J : Nat → Atom) (N : Nat), N + wkC v.S h a ≤ 1000000 →
    (∀ k e, (wkE v.S h a)[k]? = some e → YSpec Tryz.prog w0 l #[entV e, .int .i64 0] (Gv.star [I k, DSK d v.S]) (Gv.star [I (k + 1), DSK d v.S]) (Gv.star [J k, DSK d v.S])) →
    SpecW Tryz.prog w0 200 #[.pointer (some ⟨pw, 0, none⟩), .int .i64 a, .int .i64 (h : Int), .func (.yield l) #[] #[]]
      [I 0, blk pw 265 [.pointer (some ⟨pv, 0, none⟩), .int .i64 (N : Int)], blk pv 146 (viewL d v), DSK d v.S]
      (eachR (wkE v.S h a) I J pw pv d v N (wkC v.S h a) (wkV v.S h a))
set_option maxHeartbeats 16000000 in
theorem each_stepH (pw pv d : Nat) (v : VS) (hv : v.ok) (hl : v.S.W.length ≤ 1000000) (w0 : World) (l : Nat) (h : Nat) (a : Int) (hg : wkG v.S (h + 1) a) (hh : h ≤ 1000)
    (ih : ∀ k ∈ (rdN v.S a (decide (h = 0))).D, eachH pw pv d v w0 l h k) : eachH pw pv d v w0 l (h + 1) a := by
  intro I J N hN hY
  refine SpecW.of (fun w h0 hw => ?_)
  refine Calls.enter Tryz.func200 rfl rfl rfl hw ?_
  simp only [argSlots]
  refine Tri.wr ?_
  refine Wap ?_
  obtain ⟨ha, he, hEl, hDl, _⟩ := hg
  have hE : wkE v.S (h + 1) a = (rdN v.S a (decide (h = 0))).E ++ (rdN v.S a (decide (h = 0))).D.flatMap (wkE v.S h) := rfl
  have hC : wkC v.S (h + 1) a = 1 + ((rdN v.S a (decide (h = 0))).D.map (wkC v.S h)).sum := rfl
  have hV : ∀ k, wkV v.S (h + 1) a k = 1 + if k < (rdN v.S a (decide (h = 0))).E.length then 0 else wkVL (wkE v.S h) (wkC v.S h) (wkV v.S h) (rdN v.S a (decide (h = 0))).D (k - (rdN v.S a (decide (h = 0))).E.length) := fun _ => rfl
  rw [hC] at hN
  generalize wkE v.S (h + 1) a = ES at hE hY ⊢
  generalize wkC v.S (h + 1) a = CC at hC ⊢
  generalize wkV v.S (h + 1) a = VV at hV ⊢
  refine Ws ?_
  refine Zz 22 (decide (h = 0)) ?_ (hi := by exact decide_eq_decide.2 (by omega))
  refine Zcs (view_Node pv d v a (decide (h = 0)) hv hl ha) ?_
  rintro r1 H1 ⟨A, c, B, b, C, e, rfl, rfl⟩
  refine Wap ?_
  generalize rdN v.S a (decide (h = 0)) = G at *
  refine Ws ?_
  refine Zal fun b9 => ?_
  refine Ws ?_
  refine ZSa (ys := ndLL G.leaf (.slice A G.E.length c) (.slice B G.K.length b) (.slice C G.D.length e)) ?_ (h1 := by exact ndLL_one G.leaf A B C _ c _ b _ e)
  refine Wr ?_
  refine Zz 34 false ?_ (hi := by rw [he]; rfl)
  refine Ws ?_
  refine Zat (blk pw _ _) (blk pw 265 [.pointer (some ⟨pv, 0, none⟩), .int .i64 ((N + 1 : Nat) : Int)]) ?_
  (refine Wl (α := { i : Nat // i ≤ G.E.length }) (fun x => G.E.length - x.1) (fun x => [(0, .pointer (some ⟨pw, 0, none⟩)), (2, .int .i64 ((h + 1 : Nat) : Int)), (3, .func (.yield l) #[] #[]), (9, .pointer (some ⟨b9, 0, none⟩)), (40, .slice A G.E.length c), (41, .int .i64 (G.E.length : Int)), (42, .int .i64 (x.1 : Int))]) (fun x => [I x.1, blk pw 265 [.pointer (some ⟨pv, 0, none⟩), .int .i64 ((N + 1 : Nat) : Int)], blk pv 146 (viewL d v), DSK d v.S, blk b9 125 (ndLL G.leaf (.slice A G.E.length c) (.slice B G.K.length b) (.slice C G.D.length e)), own 40 8 (.slice A G.E.length c) G.E.length (EL G.E), own 3 1 (.slice C G.D.length e) G.D.length (NL G.D), Ex h0]) ⟨0, Nat.zero_le _⟩ ?_; rintro ⟨i, hi⟩ mx hmx; (try dsimp only at hmx ⊢))
  refine Ws ?_
  (refine Wcd ?_ ?_ <;> intro hc)
  · have hil : i < G.E.length := by omega
    obtain ⟨x, hx⟩ : ∃ x, x = G.E.getD i ent0 := ⟨_, rfl⟩
    have hE8 : ((EL G.E).drop (i * 8)).take 8 = entL x := by rw [hx]; exact EL_eight G.E i hil
    have hxi : ES[i]? = some x := by
      rw [hE, List.getElem?_append_left hil, hx, List.getD_eq_getElem?_getD, List.getElem?_eq_getElem hil]; rfl
    have hil' : i + 1 ≤ G.E.length := hil
    refine Ws ?_
    refine Zix (j := i) ?_ (hj := by rfl) (hlt := by exact hil)
    refine Ws ?_
    refine Zlq ?_ (hv := by exact hE8) (hl := by rfl)
    refine Ws ?_
    refine Zal fun b12 => ?_
    refine Ws ?_
    refine ZSa (ys := entL x) ?_ (h1 := by exact entL_one5 x)
    refine Ws ?_
    refine Zla (cs := entL x) ?_ (hl := by rfl)
    refine Ws ?_
    refine Tri.star [I i, DSK d v.S] Wps ?_
    ((with_reducible apply TriR.yield (hy := hY i x hxi)); (case hx => rfl); (case hargs => (repeat (first | exact evs.nil | (apply evs.cons; (case a => rfl))))); (case hn => rfl); (case p => (first | ((repeat (first | with_reducible exact Pull.head | with_reducible apply Pull.tail)); done) | (repeat (first | exact Pull.head | apply Pull.tail)))))
    · refine Tri.unstar Wp ?_
      refine Wap ?_
      refine Ws ?_
      refine Zz 49 false ?_
      refine Ws ?_
      refine Zi 42 ((i + 1 : Nat) : Int) ?_ (hi := by omega)
      exact Zag ⟨i + 1, hil'⟩
    · refine Tri.unstar Wp ?_
      refine Wap ?_
      refine Ws ?_
      refine Zz 49 true ?_
      refine Ws ?_
      have hvi : VV i = 1 := by rw [hV i, if_pos hil]
      have hlt : i < ES.length := by rw [hE, List.length_append]; omega
      refine Zat (blk pw _ _) (blk pw 265 [.pointer (some ⟨pv, 0, none⟩), .int .i64 ((N + VV i : Nat) : Int)]) ?_ (e := by rw [hvi])
      exact Zfn [J i, blk pw 265 [.pointer (some ⟨pv, 0, none⟩), .int .i64 ((N + VV i : Nat) : Int)], blk pv 146 (viewL d v), DSK d v.S] (hq := by exact .inr ⟨i, hlt, rfl, rfl⟩)
  · have hil : i = G.E.length := by omega
    subst hil
    refine Ws ?_
    refine Zat (I G.E.length) (I (G.E.length + ((G.D.take 0).flatMap (wkE v.S h)).length)) ?_
    refine Zat (blk pw _ _) (blk pw 265 [.pointer (some ⟨pv, 0, none⟩), .int .i64 ((N + 1 + ((G.D.take 0).map (wkC v.S h)).sum : Nat) : Int)]) ?_
    (refine Wl (α := { j : Nat // j ≤ G.D.length }) (fun x => G.D.length - x.1) (fun x => [(0, .pointer (some ⟨pw, 0, none⟩)), (2, .int .i64 ((h + 1 : Nat) : Int)), (3, .func (.yield l) #[] #[]), (52, .slice C G.D.length e), (53, .int .i64 (G.D.length : Int)), (54, .int .i64 (x.1 : Int))]) (fun x => [I (G.E.length + ((G.D.take x.1).flatMap (wkE v.S h)).length), blk pw 265 [.pointer (some ⟨pv, 0, none⟩), .int .i64 ((N + 1 + ((G.D.take x.1).map (wkC v.S h)).sum : Nat) : Int)], blk pv 146 (viewL d v), DSK d v.S, own 3 1 (.slice C G.D.length e) G.D.length (NL G.D), Ex h0]) ⟨0, Nat.zero_le _⟩ ?_; rintro ⟨j, hj⟩ mx hmx; (try dsimp only at hmx ⊢))
    refine Ws ?_
    (refine Wcd ?_ ?_ <;> intro hc2)
    · have hjl : j < G.D.length := by omega
      have hjl' : j + 1 ≤ G.D.length := hjl
      obtain ⟨k, hk⟩ : ∃ k, G.D[j]? = some k := ⟨_, List.getElem?_eq_getElem hjl⟩
      have hkn : (NL G.D)[j * 1]? = some (.int .i64 k) := by rw [Nat.mul_one, nl_get, hk]; rfl
      obtain ⟨off, hoff⟩ : ∃ off, off = G.E.length + ((G.D.take j).flatMap (wkE v.S h)).length := ⟨_, rfl⟩
      obtain ⟨M, hM⟩ : ∃ M, M = N + 1 + ((G.D.take j).map (wkC v.S h)).sum := ⟨_, rfl⟩
      have hst := wk_stake (C := wkC v.S h) hk
      have hsl := wk_sle (C := wkC v.S h) G.D (j + 1)
      have hfl := wk_take (E := wkE v.S h) hk
      have hfe := wk_le (E := wkE v.S h) G.D (j + 1)
      have hMb : M + wkC v.S h k ≤ 1000000 := by omega
      have hsub : ∀ q x, (wkE v.S h k)[q]? = some x → ES[off + q]? = some x := fun q x hq => by
        have hql : q < (wkE v.S h k).length := (List.getElem?_eq_some_iff.1 hq).1
        rw [hE, hoff, List.getElem?_append_right (by omega), Nat.add_assoc, Nat.add_sub_cancel_left, wk_at G.D j q k hk hql]
        exact hq
      have hYk : ∀ q x, (wkE v.S h k)[q]? = some x → YSpec Tryz.prog w0 l #[entV x, .int .i64 0] (Gv.star [(fun q => I (off + q)) q, DSK d v.S]) (Gv.star [(fun q => I (off + q)) (q + 1), DSK d v.S]) (Gv.star [(fun q => J (off + q)) q, DSK d v.S]) := fun q x hq => hY (off + q) x (hsub q x hq)
      have hcall := ih k (List.mem_of_getElem? hk) (fun q => I (off + q)) (fun q => J (off + q)) M hMb hYk
      rw [← hoff, ← hM]
      refine Ws ?_
      refine Zix (j := j) ?_ (hj := by rfl) (hlt := by exact hjl)
      refine Ws ?_
      refine Zlo ?_ (hv := by exact hkn)
      refine Ws ?_
      refine Zi 61 (h : Int) ?_ (hi := by omega)
      refine Ws ?_
      refine Zat (I off) ((fun q => I (off + q)) 0) ?_
      refine Zcw hcall ?_
      rintro r2 H2 (⟨rfl, rfl⟩ | ⟨q, hq, rfl, rfl⟩)
      · (try dsimp only [List.cons_append, List.nil_append])
        refine Ws ?_
        refine Zz 64 false ?_
        refine Ws ?_
        refine Zi 54 ((j + 1 : Nat) : Int) ?_ (hi := by omega)
        refine Zat (I (off + (wkE v.S h k).length)) (I (G.E.length + ((G.D.take (j + 1)).flatMap (wkE v.S h)).length)) ?_ (e := by rw [hoff, hfl, Nat.add_assoc])
        refine Zat (blk pw _ _) (blk pw 265 [.pointer (some ⟨pv, 0, none⟩), .int .i64 ((N + 1 + ((G.D.take (j + 1)).map (wkC v.S h)).sum : Nat) : Int)]) ?_ (e := by rw [hst, hM, Nat.add_assoc (N + 1)])
        exact Zag ⟨j + 1, hjl'⟩
      · (try dsimp only [List.cons_append, List.nil_append])
        have hvi : VV (off + q) = 1 + (((G.D.take j).map (wkC v.S h)).sum + wkV v.S h k q) := by
          rw [hV (off + q), if_neg (by omega), hoff, show G.E.length + ((G.D.take j).flatMap (wkE v.S h)).length + q - G.E.length = ((G.D.take j).flatMap (wkE v.S h)).length + q by omega, wkVL_at G.D j q k hk hq]
        have hlt : off + q < ES.length := by rw [hE, List.length_append]; omega
        refine Ws ?_
        refine Zz 64 true ?_
        refine Ws ?_
        refine Zat (blk pw _ _) (blk pw 265 [.pointer (some ⟨pv, 0, none⟩), .int .i64 ((N + VV (off + q) : Nat) : Int)]) ?_ (e := by rw [show M + wkV v.S h k q = N + VV (off + q) by rw [hvi, hM]; omega])
        exact Zfn [J (off + q), blk pw 265 [.pointer (some ⟨pv, 0, none⟩), .int .i64 ((N + VV (off + q) : Nat) : Int)], blk pv 146 (viewL d v), DSK d v.S] (hq := by exact .inr ⟨off + q, hlt, rfl, rfl⟩)
    · have hjl : j = G.D.length := by omega
      subst hjl
      rw [List.take_length]
      have hEL : ES.length = G.E.length + (G.D.flatMap (wkE v.S h)).length := by rw [hE, List.length_append]
      have hNC : N + 1 + (G.D.map (wkC v.S h)).sum = N + CC := by rw [hC]; omega
      rw [← hEL, hNC]
      refine Ws ?_
      exact Zfn [I ES.length, blk pw 265 [.pointer (some ⟨pv, 0, none⟩), .int .i64 ((N + CC : Nat) : Int)], blk pv 146 (viewL d v), DSK d v.S] (hq := by exact .inl ⟨rfl, rfl⟩)
theorem walker_eachH (pw pv d : Nat) (v : VS) (hv : v.ok) (hl : v.S.W.length ≤ 1000000) (w0 : World) (l : Nat) : ∀ (h : Nat) (a : Int), wkG v.S h a → h ≤ 1000 → eachH pw pv d v w0 l h a := by
  intro h
  induction h with
  | zero => intro a hg _; exact hg.elim
  | succ h ih =>
    intro a hg hh
    exact each_stepH pw pv d v hv hl w0 l h a hg (by omega) (fun k hk => ih k (hg.2.2.2.2 k hk) (by omega))
def walkCH (pw pv d b2 b3 : Nat) (v : VS) (a h : Int) (N : Nat) : List Atom := [blk b2 263 [.pointer (some ⟨pw, 0, none⟩)], blk b3 43 [.int .i64 a, .int .i64 h], blk pw 265 [.pointer (some ⟨pv, 0, none⟩), .int .i64 (N : Int)], blk pv 146 (viewL d v)]
set_option maxHeartbeats 8000000 in
theorem entries_iterH (pw pv d b2 b3 : Nat) (v : VS) (hv : v.ok) (hl : v.S.W.length ≤ 1000000) (h : Nat) (a : Int) (hh : h ≤ 5) (hg : h = 0 ∨ wkG v.S h a) (N : Nat) (hN : N + wkC v.S h a ≤ 1000000) :
    IterH Tryz.prog 199 [.pointer (some ⟨b2, 0, none⟩), .pointer (some ⟨b3, 0, none⟩)] [DSK d v.S] (walkCH pw pv d b2 b3 v a (h : Int) N) (fun k => walkCH pw pv d b2 b3 v a (h : Int) (N + wkV v.S h a k)) (walkCH pw pv d b2 b3 v a (h : Int) (N + wkC v.S h a)) (rowsW (wkE v.S h a)) := by
  refine IterH.of (fun w0 l I J hY w h0 hw => ?_)
  rw [rowsW_length]
  simp only [walkCH] at hw ⊢
  refine Calls.enter Tryz.func199 rfl rfl rfl hw ?_
  simp only [argSlots]
  refine Tri.wr ?_
  refine Wap ?_
  refine Ws ?_
  refine Zz 10 false ?_
  refine Ws ?_
  refine Zz 15 false ?_ (hi := by exact decide_eq_false (by omega))
  refine Ws ?_
  refine Zz 4 false ?_ (hi := by exact decide_eq_false (by omega))
  refine Ws ?_
  rcases hg with hg | hg
  · subst hg
    refine Zz 23 false ?_
    refine Ws ?_
    (first | with_reducible apply Tri.fin | with_reducible apply Tri.finN)
    case hr => rfl
    case h => exact ResL.nil
    exact fun w' hw' => .inl ⟨(hw'.pulls (As := [I 0, blk b2 263 [.pointer (some ⟨pw, 0, none⟩)], blk b3 43 [.int .i64 a, .int .i64 ((0 : Nat) : Int)], blk pw 265 [.pointer (some ⟨pv, 0, none⟩), .int .i64 (N : Int)], blk pv 146 (viewL d v), DSK d v.S, Ex h0]) Wps).1, Sat.left (hw'.pulls Wps).2⟩
  · have hpos : 0 < h := by
      rcases Nat.eq_zero_or_pos h with q | q
      · subst q; exact hg.elim
      · exact q
    refine Zz 23 true ?_ (hi := by exact decide_eq_true (by omega))
    refine Ws ?_
    have hcall := walker_eachH pw pv d v hv hl w0 l h a hg (by omega) I J N hN (fun k e he => hY k _ (rowsW_get he))
    refine Zcw hcall ?_
    rintro r2 H2 (⟨rfl, rfl⟩ | ⟨q, hq, rfl, rfl⟩)
    · (try dsimp only [List.cons_append, List.nil_append])
      refine Ws ?_
      (first | with_reducible apply Tri.fin | with_reducible apply Tri.finN)
      case hr => rfl
      case h => exact ResL.nil
      exact fun w' hw' => .inl ⟨(hw'.pulls (As := [I (wkE v.S h a).length, blk b2 263 [.pointer (some ⟨pw, 0, none⟩)], blk b3 43 [.int .i64 a, .int .i64 (h : Int)], blk pw 265 [.pointer (some ⟨pv, 0, none⟩), .int .i64 ((N + wkC v.S h a : Nat) : Int)], blk pv 146 (viewL d v), DSK d v.S, Ex h0]) Wps).1, Sat.left (hw'.pulls Wps).2⟩
    · (try dsimp only [List.cons_append, List.nil_append])
      refine Ws ?_
      (first | with_reducible apply Tri.fin | with_reducible apply Tri.finN)
      case hr => rfl
      case h => exact ResL.nil
      exact fun w' hw' => .inr ⟨q, hq, (hw'.pulls (As := [J q, blk b2 263 [.pointer (some ⟨pw, 0, none⟩)], blk b3 43 [.int .i64 a, .int .i64 (h : Int)], blk pw 265 [.pointer (some ⟨pv, 0, none⟩), .int .i64 ((N + wkV v.S h a q : Nat) : Int)], blk pv 146 (viewL d v), DSK d v.S, Ex h0]) Wps).1, Sat.left (hw'.pulls Wps).2⟩
end Go.Proofs.YtcglabmlhljkmaaGreat
end
section
/- txn: a chunk's bytes; a base's entries: the walk. -/
namespace Go.Proofs.YtcglabmlhljkmaaGreat
open Go Go.RowKit Go.Gv
set_option linter.unusedVariables false
set_option linter.unusedSimpArgs false

set_option maxHeartbeats 8000000 in
theorem base_Bytes (pb d pv : Nat) (S : DS) (s : SP) (m : BM) (op : Bool) (x : ENT) (hm : m.u.length = 512) (hS : S.ok) (ho : S.off = false) (hA : S.A.length % 256 = 0) (hl : S.W.length ≤ 1000000) (hx : TxE S x) :
    Gv.Spec Tryz.prog 95 #[.pointer (some ⟨pb, 0, none⟩), entV x] [blk pb 161 (baseL d pv s m op false), DSK d S]
    (fun r H' => ∃ A h1, r = .tuple #[.slice A x.len.toNat x.len.toNat, .int .i64 0] ∧ Rd h1 (.slice A x.len.toNat x.len.toNat) (txE S x).length (B8 (txE S x)) ∧ (txE S x).length = x.len.toNat ∧ H' = [blk pb 161 (baseL d pv s m op false), DSK d S, Ex h1]) := by
  refine Gv.Spec.of (fun w h0 hw => ?_)
  refine Calls.enter Tryz.func95 rfl rfl rfl hw ?_
  simp only [argSlots]
  refine Wap ?_
  obtain ⟨b1, b2⟩ := hx.bounds
  have hrE := hx.rd ho hA
  have hfit := hx.fit
  have hPg := disk_PagesD d S hS
  have hn : x.len = (x.len.toNat : Int) := by omega
  have hRR := page_ReadRaw d S x.addr x.len.toNat hS hl (by omega) (by omega)
  rw [← hn] at hRR
  have hpb : 0 ≤ pagesE x.len ∧ pagesE x.len ≤ 1000 := by rw [pagesE]; omega
  have hpg := node_PagesE x ⟨by omega, by omega⟩
  refine Ws ?_
  (refine Wbx ?_; intro b3)
  refine Ws ?_
  refine Zd (base_may pb d pv s m op false hm) ?_
  refine Ws ?_
  refine Zz 12 false ?_
  refine Ws ?_
  refine Wm [blk b3 40 (entL x), blk pb 161 (baseL d pv s m op false)] ?_
  ((first | ((with_reducible apply TriM.q 0); (case ho => rfl); (case hg => rfl)) | ((with_reducible apply TriM.qYes 0); (case ho => rfl); (case hg => rfl); (case hyl => rfl); (case hb => with_reducible rfl))); (case hB => kernel_rfl); (case hd => rfl); (case hn => rfl); (case h => (intro F K hK; (try dsimp only [List.cons_append, List.nil_append]); ((with_reducible apply o_loadAll (cs := entL x)); (case hx => rfl); (case p => exact (by (first | ((repeat (first | with_reducible exact Pull.head | with_reducible apply Pull.tail)); done) | (repeat (first | exact Pull.head | apply Pull.tail))))); (case hl => rfl); (case hn => rfl)); exact hK)))
  refine ZA 1 ?_
  ((with_reducible apply o_callR (hs := txn_alone x)); (case hargs => (repeat (first | exact evs.nil | (apply evs.cons; (case a => rfl))))); (case hpre => exact fun _ _ => trivial); (case hn => rfl))
  rintro r2 H2 ⟨Av, cv, rfl, rfl⟩
  refine Wap ?_
  refine Zat (own 40 8 (.slice Av 1 cv) _ _) (own 40 8 (.slice Av 1 cv) [x].length (EL [x])) ?_
  refine Zw ?_
  refine ZA 2 ?_
  refine Zcv (node_Right true (.slice Av 1 cv) (.slice none 0 0) (.slice none 0 0) [x] [] []) ?_ (hpre := by exact fun w' hw' => ⟨rdw_own (v := .slice Av 1 cv) Wp w' hw', rd_noneT _, rd_noneT _⟩)
  refine Zw ?_
  refine Wq [3] ?_
  refine ZMb 17 false ?_ (hi := by rw [one_right hx.ok]; rfl)
  refine Wq [4, 5, 6] ?_
  ((first | ((with_reducible apply TriM.q 7); (case ho => rfl); (case hg => rfl)) | ((with_reducible apply TriM.qYes 7); (case ho => rfl); (case hg => rfl); (case hyl => rfl); (case hb => with_reducible rfl))); (case hB => kernel_rfl); (case hd => rfl); (case hn => rfl); (case h => (intro F K hK; (try dsimp only [List.cons_append, List.nil_append]); ((with_reducible apply o_loadAll (cs := entL x)); (case hx => rfl); (case p => exact (by (first | ((repeat (first | with_reducible exact Pull.head | with_reducible apply Pull.tail)); done) | (repeat (first | exact Pull.head | apply Pull.tail))))); (case hl => rfl); (case hn => rfl)); exact hK)))
  ((first | ((with_reducible apply TriM.q 8); (case ho => rfl); (case hg => rfl)) | ((with_reducible apply TriM.qYes 8); (case ho => rfl); (case hg => rfl); (case hyl => rfl); (case hb => with_reducible rfl))); (case hB => kernel_rfl); (case hd => rfl); (case hn => rfl); (case h => (intro F K hK; (try dsimp only [List.cons_append, List.nil_append]); (with_reducible apply o_callV (hs := hpg)); (case hargs => (repeat (first | exact evs.nil | (apply evs.cons; (case a => rfl))))); (case hpre => exact fun _ _ => trivial); (case hn => rfl); exact hK)))
  refine Wq [9] ?_
  refine ZMi 23 (x.addr + pagesE x.len) ?_ (hi := by omega)
  refine Wq [10, 11, 12] ?_
  refine Zm 13 (h := fun _ _ x => by exact Zl x (hv := by exact baseL_d)) (k := ?_)
  refine ZAy 14 ?_
  refine Zd hPg ?_
  refine Zw ?_
  refine Wq [15, 16] ?_
  refine ZE ?_
  refine Ws ?_
  refine Zz 30 false ?_ (hi := by exact decide_eq_false (by omega))
  refine Ws ?_
  refine Wm [blk b3 40 (entL x), blk pb 161 (baseL d pv s m op false)] ?_
  refine Wq [0, 1, 2] ?_
  refine Zm 3 (h := fun _ _ x => by exact Zl x (hv := by exact baseL_d)) (k := ?_)
  refine Wq [4, 5, 6, 7] ?_
  refine ZA 8 ?_
  refine Zcs hRR ?_
  rintro r4 H4 (⟨hne, _, _⟩ | ⟨_, A, h1, rfl, hrd, hln, rfl⟩)
  · exact absurd hrE hne
  refine Wap ?_
  refine Zw ?_
  refine Wq [9, 10, 11, 12, 13] ?_
  refine ZE ?_
  refine Ws ?_
  refine Zz 44 false ?_
  refine Ws ?_
  refine Wm [blk b3 40 (entL x), blk pb 161 (baseL d pv s m op false), Ex h1] ?_
  refine Wq [0, 1, 2] ?_
  refine Zm 3 (h := fun _ _ x => by exact Zlg x (hv := by exact baseL_tab d pv s m op false) (hl := by exact tabL_length)) (k := ?_)
  refine Wq [4] ?_
  ((first | ((with_reducible apply TriM.q 5); (case ho => rfl); (case hg => rfl)) | ((with_reducible apply TriM.qYes 5); (case ho => rfl); (case hg => rfl); (case hyl => rfl); (case hb => with_reducible rfl))); (case hB => kernel_rfl); (case hd => rfl); (case hn => rfl); (case h => (intro F K hK; (try dsimp only [List.cons_append, List.nil_append]); (with_reducible apply o_callV (hs := crc_Sum (.slice A x.len.toNat x.len.toNat) (txE S x))); (case hargs => (repeat (first | exact evs.nil | (apply evs.cons; (case a => rfl))))); (case hpre => exact rdw_ex (by (first | ((repeat (first | with_reducible exact Pull.head | with_reducible apply Pull.tail)); done) | (repeat (first | exact Pull.head | apply Pull.tail)))) hrd); (case hn => rfl); exact hK)))
  refine Wq [6, 7, 8] ?_
  refine ZMb 56 false ?_ (hi := by exact decide_eq_false (fun c => c (by rw [hx.crc])))
  refine ZE ?_
  refine Ws ?_
  exact Zfn [blk pb 161 (baseL d pv s m op false), DSK d S, Ex h1] (hq := by exact ⟨A, h1, rfl, hrd, hln, rfl⟩)
theorem base_stoppedR (bv : Value) (e : Int) (he : e ≠ 2) :
    SpecR Tryz.prog 96 #[bv, .int .i64 e] (fun _ => True) (fun r H' => r = .int .i64 e ∧ H' = []) := by
  refine SpecR.of (fun w _ => ?_)
  refine Calls.enter Tryz.func96 rfl rfl rfl (St.rebase w) ?_
  simp only [argSlots]
  refine Ws ?_
  refine Zz 6 false ?_ (hi := by exact decide_eq_false he)
  refine Ws ?_
  exact Zfr (hq := by simp only [tupled]; skip)
def baseC (b1 pb d pv : Nat) (v : VS) (s : SP) (m : BM) (op : Bool) : List Atom := [blk b1 75 [.pointer (some ⟨pb, 0, none⟩)], blk pv 146 (viewL d v)]
def baseS (pb d pv : Nat) (v : VS) (s : SP) (m : BM) (op : Bool) : List Atom := [blk pb 161 (baseL d pv s m op false), DSK d v.S]
theorem base_Entries (pb : Nat) : SpecR Tryz.prog 94 #[.pointer (some ⟨pb, 0, none⟩)] (fun _ => True) (fun r H' => ∃ b1 : Nat, r = .func (.func 137) #[] [.pointer (some ⟨b1, 0, none⟩)].toArray
    ∧ H' = [blk b1 75 [.pointer (some ⟨pb, 0, none⟩)]]) := by
  refine SpecR.of (fun w _ => ?_)
  refine Calls.enter Tryz.func94 rfl rfl rfl (St.rebase w) ?_
  simp only [argSlots]
  refine Ws ?_
  (refine Wbx ?_; intro b1)
  refine Ws ?_
  refine ZomakeFunc (vs := [.pointer (some ⟨b1, 0, none⟩)]) ?_ (hc := by exact ⟨rfl, trivial⟩)
  refine Ws ?_
  refine Zfn [blk b1 75 [.pointer (some ⟨pb, 0, none⟩)]] (hq := ?_)
  exact ⟨b1, rfl, rfl⟩
set_option maxHeartbeats 16000000 in
theorem base_iterH (b1 pb d pv : Nat) (v : VS) (s : SP) (m : BM) (op : Bool) (hm : m.u.length = 512) (hv : v.ok) (hl : v.S.W.length ≤ 1000000) (h : Nat) (hh : h ≤ 5) (hsh : s.height = (h : Int)) (hg : h = 0 ∨ wkG v.S h s.addr) (hC : wkC v.S h s.addr ≤ 1000000) :
    IterH Tryz.prog 137 [.pointer (some ⟨b1, 0, none⟩)] (baseS pb d pv v s m op) (baseC b1 pb d pv v s m op) (fun _ => baseC b1 pb d pv v s m op) (baseC b1 pb d pv v s m op) (rowsW (wkE v.S h s.addr)) := by
  refine IterH.of (fun w0 l I J hY w h0 hw => ?_)
  rw [rowsW_length]
  simp only [baseC, baseS, List.cons_append, List.nil_append] at hw hY ⊢
  refine Calls.enterM Tryz.func137 rfl rfl rfl hw ?_
  simp only [argSlots]
  refine Wap ?_
  refine Ws ?_
  (refine Wbx ?_; intro b2)
  refine Ws ?_
  refine Zd (base_may pb d pv s m op false hm) ?_
  refine Ws ?_
  refine Zz 9 false ?_
  refine Ws ?_
  have hwe := walk_Entries (some pv) s.addr s.height
  refine Wm [blk b1 75 [.pointer (some ⟨pb, 0, none⟩)], blk pb 161 (baseL d pv s m op false)] ?_
  refine Wq [0, 1, 2] ?_
  refine Zm 3 (h := fun _ _ x => by exact Zl x (hv := by exact baseL_v hm)) (k := ?_)
  refine Wq [4, 5, 6, 7] ?_
  refine Zm 8 (h := fun _ _ x => by exact Zlg (ys := rootL s.addr s.height) x (hv := by exact baseL_root) (hl := by rfl)) (k := ?_)
  refine ZA 9 ?_
  refine Zcr hwe ?_
  rintro r2 H2 ⟨pw, b3, b4, rfl, rfl⟩
  refine Wap ?_
  refine Zw ?_
  refine ZE ?_
  refine Ws ?_
  have hit := entries_iterH pw pv d b3 b4 v hv hl h s.addr hh hg 0 (by omega)
  rw [← hsh] at hit
  simp only [walkCH] at hit
  generalize wkE v.S h s.addr = ES at hit hY ⊢
  refine TriR.rangeH (Sh := [DSK d v.S]) (α := { k : Nat // k ≤ ES.length }) (β := { k : Nat // k < ES.length }) (γ := Nat) (fun x => x.1) (fun y => y.1)
    (fun x => [I x.1, blk b1 75 [.pointer (some ⟨pb, 0, none⟩)], blk b2 229 [.func (.yield l) #[] #[]], blk pb 161 (baseL d pv s m op false)]) ⟨0, Nat.zero_le _⟩ (fun _ => .ret)
    (fun x => [J x.1, blk b1 75 [.pointer (some ⟨pb, 0, none⟩)], blk pb 161 (baseL d pv s m op false)])
    (fun x z => [(1, .pointer (some ⟨b1, 0, none⟩)), (2, .pointer (some ⟨b2, 0, none⟩)), (4, .pointer (some ⟨z, 0, none⟩)), (5, .int .i64 0)])
    (fun x z => blk z 40 (entL (ES.getD x.1 ent0)) :: [I x.1, blk b1 75 [.pointer (some ⟨pb, 0, none⟩)], blk b2 229 [.func (.yield l) #[] #[]], blk pb 161 (baseL d pv s m op false), DSK d v.S])
    hit rfl rfl Wps ?_ ?_ ?_ ?_ ?_ ?_
  · intro y hy
    obtain ⟨k, _, rfl⟩ := List.mem_map.1 hy
    rfl
  · intro q hq
    simp at hq
    rcases hq with rfl | rfl <;> rfl
  · intro lp x vs hvs hq
    obtain ⟨e, he, rfl⟩ := rowsW_of hvs
    have hed : ES.getD x.1 ent0 = e := by rw [List.getD_eq_getElem?_getD, he]; rfl
    rw [hed]
    simp only [zipL]
    refine Wap ?_
    refine Ws ?_
    refine Zal fun b11 => ?_
    refine Ws ?_
    refine ZSa (ys := entL e) ?_ (h1 := by exact entL_one5 e)
    refine Wo ?_
    exact Zrc b11
  · rintro lp ⟨k, hk⟩ vs hvs b11 hq
    obtain ⟨e, he, rfl⟩ := rowsW_of hvs
    (try dsimp only at he)
    have hed : ES.getD k ent0 = e := by rw [List.getD_eq_getElem?_getD, he]; rfl
    have hkl : k < ES.length := (List.getElem?_eq_some_iff.1 he).1
    have hkl' : k + 1 ≤ ES.length := hkl
    refine Wap ?_
    rw [hed]
    refine Ws ?_
    ((with_reducible apply TriR.quietTail 5); (case hB => kernel_rfl); (case hnd => rfl); (dsimp only [List.take, List.drop]))
    refine Wqs ?_
    refine Zqo (h := fun _ x => by exact Zla (cs := entL e) x (hl := by rfl)) (k := ?_)
    refine Wqs ?_
    refine Zqo (h := fun _ x => by exact Zcv (base_stoppedR (.pointer (some ⟨pb, 0, none⟩)) 0 (by decide)) x) (k := ?_)
    refine Wqs ?_
    refine Tri.star [I k, blk pb 161 (baseL d pv s m op false), DSK d v.S] Wps ?_
    ((with_reducible apply TriR.yield (hy := hY k _ hvs)); (case hx => rfl); (case hargs => (repeat (first | exact evs.nil | (apply evs.cons; (case a => rfl))))); (case hn => rfl); (case p => (first | ((repeat (first | with_reducible exact Pull.head | with_reducible apply Pull.tail)); done) | (repeat (first | exact Pull.head | apply Pull.tail)))))
    · refine Tri.unstar Wp ?_
      refine Wap ?_
      refine Ws ?_
      refine Zz 32 false ?_
      refine Ws ?_
      ((with_reducible apply Tri.rdEndS (y := ⟨k + 1, hkl'⟩)); (case hk => rfl); (case p => ((try dsimp only [List.cons_append, List.nil_append]); (repeat (first | exact Pulls.nil | (apply Pulls.cons; (case a => (first | ((repeat (first | with_reducible exact Gv.Pull.head | with_reducible apply Gv.Pull.tail)); done) | (repeat (first | exact Gv.Pull.head | apply Gv.Pull.tail))))))))))
    · refine Tri.unstar Wp ?_
      refine Wap ?_
      refine Ws ?_
      refine Zz 32 true ?_
      refine Ws ?_
      ((with_reducible apply Tri.rdRetS (y := ⟨k, hkl⟩)); (case hj => exact ⟨rfl, rfl⟩); (case p => ((try dsimp only [List.cons_append, List.nil_append]); (repeat (first | exact Pulls.nil | (apply Pulls.cons; (case a => (first | ((repeat (first | with_reducible exact Gv.Pull.head | with_reducible apply Gv.Pull.tail)); done) | (repeat (first | exact Gv.Pull.head | apply Gv.Pull.tail))))))))))
  · rintro D ⟨k, hk⟩ hy
    have hkE : k = ES.length := by rw [← rowsW_length ES]; exact hy
    subst hkE
    refine Wap ?_
    refine Ws ?_
    (first | with_reducible apply Tri.finM1 | with_reducible apply Tri.finM1N)
    case p => exact Wp
    case hr => rfl
    case h => exact ResL.nil
    exact fun w' hw' => .inl ⟨(hw'.pulls (As := [I ES.length, blk pb 161 (baseL d pv s m op false), DSK d v.S, blk b1 75 [.pointer (some ⟨pb, 0, none⟩)], blk pv 146 (viewL d v), Ex h0]) Wps).1, Sat.left (hw'.pulls Wps).2⟩
  · rintro D ⟨k, hk⟩ hy
    refine Wap ?_
    refine Ws ?_
    (first | with_reducible apply Tri.finM1 | with_reducible apply Tri.finM1N)
    case p => exact Wp
    case hr => rfl
    case h => exact ResL.nil
    exact fun w' hw' => .inr ⟨k, hk, (hw'.pulls (As := [J k, blk pb 161 (baseL d pv s m op false), DSK d v.S, blk b1 75 [.pointer (some ⟨pb, 0, none⟩)], blk pv 146 (viewL d v), Ex h0]) Wps).1, Sat.left (hw'.pulls Wps).2⟩
end Go.Proofs.YtcglabmlhljkmaaGreat
end
section
/- txn: all chunks of a base (the law's function all): the walk. -/
namespace Go.Proofs.YtcglabmlhljkmaaGreat
open Go Go.RowKit Go.Gv
set_option linter.unusedVariables false
set_option linter.unusedSimpArgs false

/-- a chunk's cells -/
def chL (S : DS) (x : ENT) : List Value := [.int .i64 x.key.1, .int .i64 x.key.2, .int .i64 x.fin, .string ⟨(txE S x).toArray⟩]
def CL (S : DS) (E : List ENT) : List Value := E.flatMap (chL S)
theorem CL_app (S : DS) (E F : List ENT) : CL S (E ++ F) = CL S E ++ CL S F := by simp [CL]
theorem chL_one (S : DS) (x : ENT) : ∀ y ∈ chL S x, y.oneCell' = true := by
  intro y hy
  simp only [chL, List.mem_cons, List.mem_nil_iff, or_false] at hy
  rcases hy with rfl | rfl | rfl | rfl <;> rfl
set_option maxRecDepth 4000 in
set_option maxHeartbeats 16000000 in
theorem law16_all (pb d pv : Nat) (v : VS) (s : SP) (m : BM) (op : Bool) (hm : m.u.length = 512) (hv : v.ok) (hon : v.S.on) (hA : v.S.A.length % 256 = 0) (hl : v.S.W.length ≤ 1000000) (h : Nat) (hh : h ≤ 5) (hsh : s.height = (h : Int)) (hg : h = 0 ∨ wkG v.S h s.addr) (hC : wkC v.S h s.addr ≤ 1000000) (hgen : s.gen ≠ 0) (hlen : (wkE v.S h s.addr).length ≤ 1000000) (ht : ∀ x ∈ wkE v.S h s.addr, TxE v.S x) :
    Gv.Spec Tryz.prog 39 #[.pointer (some ⟨pb, 0, none⟩)] [blk pb 161 (baseL d pv s m op false), blk pv 146 (viewL d v), DSK d v.S]
    (fun r H' => ∃ A c, r = .tuple #[.slice A (wkE v.S h s.addr).length c, .bool true] ∧ H' = [blk pb 161 (baseL d pv s m op false), blk pv 146 (viewL d v), DSK d v.S, own 102 4 (.slice A (wkE v.S h s.addr).length c) (wkE v.S h s.addr).length (CL v.S (wkE v.S h s.addr))]) := by
  refine Gv.Spec.of (fun w h0 hw => ?_)
  refine Calls.enterM Tryz.func39 rfl rfl rfl hw ?_
  simp only [argSlots]
  refine Wap ?_
  have hit := fun bx => base_iterH bx pb d pv v s m op hm hv hl h hh hsh hg hC
  generalize wkE v.S h s.addr = ES at hit hlen ht ⊢
  refine Ws ?_
  (refine Wbx ?_; intro b1)
  refine Ws ?_
  refine Zal fun b2 => ?_
  refine Ws ?_
  refine Zal fun b3 => ?_
  refine Ws ?_
  refine Zal fun b4 => ?_
  refine Ws ?_
  refine Zz 11 false ?_
  refine Ws ?_
  refine Zd (base_Super pb d pv s m op false) ?_
  refine Ws ?_
  refine Zv 13 (.agg (spL s).toArray) ?_ (hv := by rfl)
  refine Zofield (t := 22) (v := .int .u64 (s.gen : Int)) ?_ (hu := by exact Tryz.underlying83)
  refine Ws ?_
  refine Zz 16 false ?_ (hi := by exact decide_eq_false (by omega))
  refine Ws ?_
  refine Zcr (base_Entries pb) ?_
  rintro r2 H2 ⟨bx, rfl, rfl⟩
  refine Wap ?_
  refine Ws ?_
  have hit := hit bx
  simp only [baseC, baseS] at hit
  (with_reducible apply Tri.ownNil 102 4)
  refine Zat (own 102 4 (.slice none 0 0) 0 []) (own 102 4 (.slice none 0 0) 0 (CL v.S (ES.take 0))) ?_
  refine TriR.rangeH (Sh := [blk pb 161 (baseL d pv s m op false), DSK d v.S]) (α := Σ' (k : Nat) (_ : Option Addr) (_ : Nat), k ≤ ES.length) (β := Empty) (γ := Nat) (fun x => x.1) (fun y => y.elim)
    (fun x => [blk b1 75 [.pointer (some ⟨pb, 0, none⟩)], blk b4 94 [.slice x.2.1 x.1 x.2.2.1], own 102 4 (.slice x.2.1 x.1 x.2.2.1) x.1 (CL v.S (ES.take x.1))]) ⟨0, none, 0, Nat.zero_le _⟩ (fun _ => .ret)
    (fun x => [])
    (fun x z => [(1, .pointer (some ⟨b1, 0, none⟩)), (4, .pointer (some ⟨b4, 0, none⟩)), (5, .pointer (some ⟨z, 0, none⟩)), (6, .int .i64 0)])
    (fun x z => blk z 40 (entL (ES.getD x.1 ent0)) :: [blk b1 75 [.pointer (some ⟨pb, 0, none⟩)], blk b4 94 [.slice x.2.1 x.1 x.2.2.1], own 102 4 (.slice x.2.1 x.1 x.2.2.1) x.1 (CL v.S (ES.take x.1)), blk pb 161 (baseL d pv s m op false), DSK d v.S])
    hit rfl rfl Wps ?_ ?_ ?_ ?_ ?_ ?_
  · intro y hy
    obtain ⟨k, _, rfl⟩ := List.mem_map.1 hy
    rfl
  · intro q hq
    simp at hq
    rcases hq with rfl | rfl <;> rfl
  · intro lp x vs hvs hq
    obtain ⟨e, he, rfl⟩ := rowsW_of hvs
    have hed : ES.getD x.1 ent0 = e := by rw [List.getD_eq_getElem?_getD, he]; rfl
    rw [hed]
    simp only [zipL]
    refine Wap ?_
    refine Ws ?_
    refine Zal fun b11 => ?_
    refine Ws ?_
    refine ZSa (ys := entL e) ?_ (h1 := by exact entL_one5 e)
    refine Wo ?_
    exact Zrc b11
  · rintro lp ⟨k, A, c, hk⟩ vs hvs b11 hq
    obtain ⟨e, he, rfl⟩ := rowsW_of hvs
    (try dsimp only at he)
    have hed : ES.getD k ent0 = e := by rw [List.getD_eq_getElem?_getD, he]; rfl
    have hkl : k < ES.length := (List.getElem?_eq_some_iff.1 he).1
    have hkl' : k + 1 ≤ ES.length := hkl
    have hte := ht e (List.mem_of_getElem? he)
    have hby := base_Bytes pb d pv v.S s m op e hm hv.S hon.2.1 hA hl hte
    have htk : CL v.S (ES.take k) ++ chL v.S e = CL v.S (ES.take (k + 1)) := by
      rw [List.take_add_one, he, CL_app]; simp [CL]
    refine Wap ?_
    rw [hed]
    refine Ws ?_
    refine Zz 22 false ?_
    refine Ws ?_
    refine Zla (cs := entL e) ?_ (hl := by rfl)
    refine Ws ?_
    refine Zcs hby ?_
    rintro r3 H3 ⟨At, h1, rfl, hrd, hln, rfl⟩
    refine Wap ?_
    refine Ws ?_
    refine Zz 30 false ?_
    refine Ws ?_
    refine Zbs (l := txE v.S e) ?_ (he := by exact Tryz.underlying5) (hr := by exact rdw_ex Wp hrd)
    refine Ws ?_
    refine Zbu (ys := chL v.S e) ?_
    refine Ws ?_
    (refine Zli (ys := chL v.S e) ?_; intro vl)
    refine Ws ?_
    refine Zap (m2 := 1) (news := chL v.S e) ?_ (hr := by exact rdw_own (v := vl) Wp) (hl := by rfl) (h1 := by exact chL_one v.S e)
    intro vr
    (refine Tri.shape (e := 102) (size := 4) (v := vr) Wp ?_; rintro ⟨A2, c2, rfl⟩)
    refine Ws ?_
    refine ZS ?_ (hi := by exact (by decide : 0 < 1))
    refine Zat (own 102 4 (.slice A2 (k + 1) c2) _ _) (own 102 4 (.slice A2 (k + 1) c2) (k + 1) (CL v.S (ES.take (k + 1)))) ?_ (e := by rw [htk])
    refine Zat (blk b4 _ _) (blk b4 94 [.slice A2 (k + 1) c2]) ?_
    refine Ws ?_
    ((with_reducible apply Tri.rdEndS (y := ⟨k + 1, A2, c2, hkl'⟩)); (case hk => rfl); (case p => ((try dsimp only [List.cons_append, List.nil_append]); (repeat (first | exact Pulls.nil | (apply Pulls.cons; (case a => (first | ((repeat (first | with_reducible exact Gv.Pull.head | with_reducible apply Gv.Pull.tail)); done) | (repeat (first | exact Gv.Pull.head | apply Gv.Pull.tail))))))))))
  · rintro D ⟨k, A, c, hk⟩ hy
    have hkE : k = ES.length := by rw [← rowsW_length ES]; exact hy
    have htk2 : ES.take k = ES := List.take_of_length_le (by omega)
    refine Wap ?_
    rw [htk2]
    refine Ws ?_
    refine ZS ?_ (hi := by exact (by decide : 0 < 1))
    refine Ws ?_
    refine ZS ?_ (hi := by exact (by decide : 0 < 1))
    refine Ws ?_
    subst hkE
    ((first | with_reducible apply Tri.finM1 | with_reducible apply Tri.finM1N); (case p => (first | ((repeat (first | with_reducible exact Pull.head | with_reducible apply Pull.tail)); done) | (repeat (first | exact Pull.head | apply Pull.tail)))); (case hr => rfl); (case h => exact ResL.cons (Res1.cell rfl Wp rfl) (ResL.cons (Res1.cell rfl Wp rfl) (ResL.nil))); (apply fin_R (Hn := [blk pb 161 (baseL d pv s m op false), blk pv 146 (viewL d v), DSK d v.S, own 102 4 (.slice A ES.length c) ES.length (CL v.S ES)])); (case p => exact (by (repeat (first | exact Pulls.nil | (apply Pulls.cons; (case a => (first | ((repeat (first | with_reducible exact Gv.Pull.head | with_reducible apply Gv.Pull.tail)); done) | (repeat (first | exact Gv.Pull.head | apply Gv.Pull.tail))))))))); exact ⟨A, c, rfl, rfl⟩)
  · rintro D ⟨⟩
end Go.Proofs.YtcglabmlhljkmaaGreat
end
section
/- txn: Commit: the walk. -/
namespace Go.Proofs.YtcglabmlhljkmaaGreat
open Go Go.RowKit Go.Gv
set_option linter.unusedVariables false
set_option linter.unusedSimpArgs false

theorem baseL_one (d pv : Nat) (s : SP) (m : BM) (op en : Bool) : ∀ y ∈ baseL d pv s m op en, y.oneCell' = true := by
  intro y hy
  rw [baseL] at hy
  rcases List.mem_append.1 hy with h | h
  · exact tabL_one y h
  · rcases List.mem_cons.1 h with rfl | h
    · rfl
    · rcases List.mem_append.1 h with h | h
      · exact spL_one s y h
      · rcases List.mem_append.1 h with h | h
        · exact bmL_one m y h
        · simp only [baseT, List.mem_cons, List.mem_nil_iff, or_false] at h
          rcases h with rfl | rfl | rfl <;> rfl
set_option maxRecDepth 4000 in
set_option maxHeartbeats 16000000 in
theorem txn_Commit (pt pb tv d pv : Nat) (v : VS) (a : Int) (h : Nat) (s : SP) (m m1 m2 : BM) (op : Bool) (t : Nat) (G : CmG v s m m1 m2 a h t) :
    Gv.Spec Tryz.prog 32 #[.pointer (some ⟨pt, 0, none⟩)] [blk pt 163 (txL pb tv a (h : Int) false), blk pb 161 (baseL d pv s m op false), blk tv 146 (viewL d v), DSK d v.S]
    (fun r H' => ∃ pv', r = .int .i64 0 ∧ H' = [blk pt 163 (txL pb tv a (h : Int) true), blk pb 161 (baseL d pv' (spN s a h t) m2 false false), blk pv' 146 (viewL d ⟨cmS v.S (spN s a h t) m2, s.gen + 1, m2, m2⟩), DSK d (cmS v.S (spN s a h t) m2)]) := by
  obtain ⟨hv, hl, hm, hm1, hm2, hg, gv, tk, e1, e2, o2, l2, e3, o3, l3, e4, o4, rm, pm⟩ := G
  refine Gv.Spec.of (fun w h0 hw0 => ?_)
  refine Calls.enter Tryz.func32 rfl rfl rfl hw0 ?_
  simp only [argSlots]
  refine Wap ?_
  have hgv := bm_Give v.m s.bitmap 1 hv.m
  rw [gv] at hgv
  have htk := bm_Take m1 m 1 hm1 hm
  rw [tk] at htk
  obtain ⟨s', hs'⟩ : ∃ s', s' = spN s a h t := ⟨_, rfl⟩
  have hgs : s'.gen = s.gen + 1 := by rw [hs']; rfl
  have hcm : cmS v.S s' m2 = (wrS (wrPg v.S (mpP (t : Int) (s.gen + 1) m2)).1.fl.1 s').1.fl.1 := by rw [hs']; rfl
  rw [← hs'] at e3 o3 l3 e4 o4 pm ⊢
  rw [hcm] at o4 pm ⊢
  have hpl : (putM m2).length ≤ 1000000 := by
    have hr := rightM_spec rm
    rw [putM, if_pos rm, putTo_length]; omega
  have hwm := txn_writeMap d v.S (t : Int) (s.gen + 1) m2 hm2 hg hv.S (by omega) hpl
  have o1 := wrPg_ok hv.S (mpP (t : Int) (s.gen + 1) m2)
  have l1 := wrPg_len v.S (mpP (t : Int) (s.gen + 1) m2)
  obtain ⟨R1, hR1⟩ : ∃ R1, R1 = wrPg v.S (mpP (t : Int) (s.gen + 1) m2) := ⟨_, rfl⟩
  rw [← hR1] at hwm e1 e2 o2 l2 e3 o3 l3 e4 o4 pm o1 l1 ⊢
  have hf1 := disk_FlushD d R1.1 o1 (by omega)
  obtain ⟨R2, hR2⟩ : ∃ R2, R2 = R1.1.fl := ⟨_, rfl⟩
  rw [← hR2] at hf1 e2 o2 l2 e3 o3 l3 e4 o4 pm ⊢
  have hsw := super_Write d R2.1 s' (by omega) o2 (by omega)
  obtain ⟨R3, hR3⟩ : ∃ R3, R3 = wrS R2.1 s' := ⟨_, rfl⟩
  rw [← hR3] at hsw e3 o3 l3 e4 o4 pm ⊢
  have hf2 := disk_FlushD d R3.1 o3 (by omega)
  obtain ⟨R4, hR4⟩ : ∃ R4, R4 = R3.1.fl := ⟨_, rfl⟩
  rw [← hR4] at hf2 e4 o4 pm ⊢
  rw [← hgs] at o4
  have hba := txn_based d R4.1 s' m2 o4 rm pm
  rw [hgs] at hba
  refine Ws ?_
  refine Zd (txn_may pt pb tv d pv a (h : Int) false s m op false hm) ?_
  refine Ws ?_
  refine Zz 17 false ?_
  refine Ws ?_
  refine Wm [blk pt 163 (txL pb tv a (h : Int) false), blk pb 161 (baseL d pv s m op false)] ?_
  refine Wq [0, 1, 2, 3, 5, 6, 7, 8] ?_
  refine Zm 9 (h := fun _ _ x => by exact Zl x (hv := by exact baseL_bit)) (k := ?_)
  refine ZA2 4 14 ?_ ?_
  refine Zd (view_Map tv d v hv) ?_
  refine Zw ?_
  refine Zm 10 (h := fun _ _ x => by exact Zcv hgv x) (k := ?_)
  refine Wq [11, 12, 13] ?_
  refine ZA 14 ?_
  refine Zal fun b5 => ?_
  refine Zw ?_
  refine ZA 15 ?_
  refine ZSa (ys := bmL m1) ?_ (hl := by exact bmL_len hm1) (hc := by exact z513g) (h1 := by exact bmL_one _)
  refine Zw ?_
  refine Wq [16] ?_
  refine ZE ?_
  refine Ws ?_
  refine Zz 38 false ?_
  rotate_left
  refine Zal fun b5 => ?_
  refine Zw ?_
  refine ZA 4 ?_
  refine Zd (view_Map tv d v hv) ?_
  refine Zw ?_
  refine Zm 10 (h := fun _ _ x => by exact Zcv hgv x) (k := ?_)
  refine Wq [11, 12, 13] ?_
  refine ZA 15 ?_
  refine ZSa (ys := bmL m1) ?_ (hl := by exact bmL_len hm1) (hc := by exact z513g) (h1 := by exact bmL_one _)
  refine Zw ?_
  refine Wq [16] ?_
  refine ZE ?_
  refine Ws ?_
  refine Zz 38 false ?_
  rotate_left
  all_goals
    refine Ws ?_
    refine Znm 10 [blk pb 161 (baseL d pv s m op false)] [blk pb 161 (baseL d pv s m op false), blk b5 60 (bmL m1)] ?_
    refine Zn 0 (h := fun _ _ x => by exact Zla (cs := bmL m1) x (hl := by exact bmL_len hm1)) (k := ?_)
    refine Wnq [1, 2, 3] ?_
    refine Zn 4 (h := fun _ _ x => by exact Zlg x (hv := by exact baseL_m hm) (hl := by exact bmL_len hm)) (k := ?_)
    refine Zn 5 (h := fun _ _ x => by exact Zcv htk x) (k := ?_)
    refine Wnq [6, 7] ?_
    refine Wnp [8, 9] ?_
    refine Znl ?_
    refine ZSa (ys := bmL m2) ?_ (hl := by exact bmL_len hm2) (hc := by exact bmL_len hm1) (h1 := by exact bmL_one _)
    refine Zw ?_
    refine Wq [11, 12] ?_
    refine ZE ?_
    refine Ws ?_
    refine Zz 51 false ?_
    refine Ws ?_
    refine Wm [blk pt 163 (txL pb tv a (h : Int) false), blk pb 161 (baseL d pv s m op false)] ?_
    refine Wq [0, 1, 2, 3] ?_
    refine Zm 4 (h := fun _ _ x => by exact Zl x (hv := by exact baseL_gen)) (k := ?_)
    refine Wq [5, 6, 7, 8] ?_
    refine ZMi 60 ((s.gen + 1 : Nat) : Int) ?_ (hi := by exact (wrap_u64 (by omega)).trans (by omega))
    refine Zm 9 (h := fun _ _ x => by exact Zlg (ys := rootL a (h : Int)) x (hl := by rfl)) (k := ?_)
    refine Wq [10, 11, 12, 13, 14] ?_
    refine Zm 15 (h := fun _ _ x => by exact Zl x (hv := by exact baseL_pages)) (k := ?_)
    refine Zm 16 (h := fun _ _ x => by exact Zbu (ys := [.int .u64 ((s.gen + 1 : Nat) : Int), .int .i64 a, .int .i64 (h : Int), .int .i64 (t : Int), .int .i64 s.pages]) x) (k := ?_)
    refine ZA 17 ?_
    refine Zal fun b8 => ?_
    refine Zw ?_
    refine ZA 18 ?_
    refine ZSa (ys := [.int .u64 ((s.gen + 1 : Nat) : Int), .int .i64 a, .int .i64 (h : Int), .int .i64 (t : Int), .int .i64 s.pages]) ?_ (h1 := by exact spL_one ⟨s.gen + 1, a, (h : Int), (t : Int), s.pages⟩)
    refine Zw ?_
    refine ZE ?_
    (with_reducible refine Tri.thenN ?_)
    ((first | with_reducible apply Tri.seqMeet (α := Unit) (Lx := fun _ => [(0, .pointer (some ⟨pt, 0, none⟩)), (4, .pointer (some ⟨pb, 0, none⟩)), (5, .pointer (some ⟨b5, 0, none⟩)), (7, .int .i64 (t : Int)), (8, .pointer (some ⟨b8, 0, none⟩))]) (Hx := fun _ => [blk b8 83 (spL s'), blk b5 60 (bmL m2), blk pt 163 (txL pb tv a (h : Int) false), blk pb 161 (baseL d pv s m op false), blk tv 146 (viewL d v), DSK d v.S, Ex h0]) | with_reducible apply TriR.seqMeet (α := Unit) (Lx := fun _ => [(0, .pointer (some ⟨pt, 0, none⟩)), (4, .pointer (some ⟨pb, 0, none⟩)), (5, .pointer (some ⟨b5, 0, none⟩)), (7, .int .i64 (t : Int)), (8, .pointer (some ⟨b8, 0, none⟩))]) (Hx := fun _ => [blk b8 83 (spL s'), blk b5 60 (bmL m2), blk pt 163 (txL pb tv a (h : Int) false), blk pb 161 (baseL d pv s m op false), blk tv 146 (viewL d v), DSK d v.S, Ex h0])); rotate_left; (rintro x; (try dsimp only)); rotate_left)
    · refine Ws ?_
      by_cases h00 : h = 0
      · have hsp : spL s' = [.int .u64 ((s.gen + 1 : Nat) : Int), .int .i64 0, .int .i64 0, .int .i64 (t : Int), .int .i64 s.pages] := by rw [hs', spN, if_pos h00, h00]; rfl
        refine Zz 75 true ?_ (hi := by exact decide_eq_true (by omega))
        refine Ws ?_
        refine ZSg (ys := [.int .i64 0, .int .i64 0]) ?_ (h1 := by exact two_int _ _) (hi := by exact (by decide : 1 + 2 ≤ 5))
        refine Zat (blk b8 _ _) (blk b8 83 (spL s')) ?_ (e := by rw [hsp]; rfl)
        refine Ws ?_
        exact Zrc ()
      · have hsp : spL s' = [.int .u64 ((s.gen + 1 : Nat) : Int), .int .i64 a, .int .i64 (h : Int), .int .i64 (t : Int), .int .i64 s.pages] := by rw [hs', spN, if_neg h00]; rfl
        refine Zz 75 false ?_ (hi := by exact decide_eq_false (by omega))
        refine Ws ?_
        refine Zat (blk b8 _ _) (blk b8 83 (spL s')) ?_ (e := by rw [hsp])
        exact Zrc ()
    · refine Ws ?_
      refine Wm [blk pb 161 (baseL d pv s m op false), blk b8 83 (spL s'), blk b5 60 (bmL m2)] ?_
      refine Wq [0, 1, 2] ?_
      refine Zm 3 (h := fun _ _ x => by exact Zlg x (hv := by exact baseL_tab d pv s m op false) (hl := by exact tabL_length)) (k := ?_)
      refine Wq [4, 5, 6] ?_
      refine Zm 7 (h := fun _ _ x => by exact Zl x (hv := by exact baseL_d)) (k := ?_)
      refine Wq [8, 9] ?_
      refine Zm 10 (h := fun _ _ x => by exact Zl (v := .int .u64 ((s.gen + 1 : Nat) : Int)) x (hv := by rw [hs']; rfl)) (k := ?_)
      refine Zm 11 (h := fun _ _ x => by exact Zla (cs := bmL m2) x (hl := by exact bmL_len hm2)) (k := ?_)
      refine ZA 12 ?_
      refine Zd hwm ?_
      refine Zw ?_
      refine Wq [13] ?_
      refine ZE ?_
      refine Ws ?_
      refine Zz 92 false ?_ (hi := by rw [e1]; rfl)
      refine Ws ?_
      refine Zd hf1 ?_
      refine Ws ?_
      refine Zz 102 false ?_ (hi := by rw [e2]; rfl)
      refine Ws ?_
      refine Wm [blk pb 161 (baseL d pv s m op false), blk b8 83 (spL s')] ?_
      refine Wq [0, 1, 2] ?_
      refine Zm 3 (h := fun _ _ x => by exact Zlg x (hv := by exact baseL_tab d pv s m op false) (hl := by exact tabL_length)) (k := ?_)
      refine Wq [4, 5, 6] ?_
      refine Zm 7 (h := fun _ _ x => by exact Zl x (hv := by exact baseL_d)) (k := ?_)
      refine Zm 8 (h := fun _ _ x => by exact Zla (cs := spL s') x (hl := by rfl)) (k := ?_)
      refine ZA 9 ?_
      refine Zd hsw ?_
      refine Zw ?_
      refine Wq [10] ?_
      refine ZE ?_
      refine Ws ?_
      refine Zz 117 false ?_ (hi := by rw [e3]; rfl)
      refine Ws ?_
      refine Zd hf2 ?_
      refine Ws ?_
      refine Zz 127 false ?_ (hi := by rw [e4]; rfl)
      refine Ws ?_
      refine Wm [blk pb 161 (baseL d pv s m op false), blk b8 83 (spL s'), blk b5 60 (bmL m2)] ?_
      refine Wq [0, 1, 2] ?_
      refine Zm 3 (h := fun _ _ x => by exact Zlg x (hv := by exact baseL_tab d pv s m op false) (hl := by exact tabL_length)) (k := ?_)
      refine Wq [4, 5, 6] ?_
      refine Zm 7 (h := fun _ _ x => by exact Zl x (hv := by exact baseL_d)) (k := ?_)
      refine Zm 8 (h := fun _ _ x => by exact Zla (cs := spL s') x (hl := by rfl)) (k := ?_)
      refine Zm 9 (h := fun _ _ x => by exact Zla (cs := bmL m2) x (hl := by exact bmL_len hm2)) (k := ?_)
      refine ZA 10 ?_
      refine Zcs hba ?_
      rintro r9 H9 ⟨pb2, pv2, rfl, rfl⟩
      refine Wap ?_
      refine Zw ?_
      refine Wq [11, 12, 13, 14, 15] ?_
      refine ZE ?_
      refine Ws ?_
      refine Zz 146 false ?_
      refine Ws ?_
      refine Zla (cs := baseL d pv2 s' m2 false false) ?_ (hl := by exact baseL_len hm2)
      refine Ws ?_
      refine ZSa (ys := baseL d pv2 s' m2 false false) ?_ (hl := by exact baseL_len hm2) (hc := by exact baseL_len hm) (h1 := by exact baseL_one _ _ _ _ _ _)
      refine Ws ?_
      refine ZS ?_ (hi := by exact (by decide : 4 < 5))
      refine Zat (blk pt _ _) (blk pt 163 (txL pb tv a (h : Int) true)) ?_
      refine Ws ?_
      exact Zfn [blk pt 163 (txL pb tv a (h : Int) true), blk pb 161 (baseL d pv2 s' m2 false false), blk pv2 146 (viewL d ⟨R4.1, s.gen + 1, m2, m2⟩), DSK d R4.1] (hq := by exact ⟨pv2, rfl, rfl⟩)
end Go.Proofs.YtcglabmlhljkmaaGreat
end
section
/- txn: Commit of changes that are over: the walk. -/
namespace Go.Proofs.YtcglabmlhljkmaaGreat
open Go Go.RowKit Go.Gv
set_option linter.unusedVariables false
set_option linter.unusedSimpArgs false

set_option maxRecDepth 4000 in
set_option maxHeartbeats 4000000 in
theorem txn_Commit_over (pt pb tv d pv : Nat) (a h : Int) (s : SP) (m : BM) (op : Bool) (hm : m.u.length = 512) :
    Gv.Spec Tryz.prog 32 #[.pointer (some ⟨pt, 0, none⟩)] [blk pt 163 (txL pb tv a h true), blk pb 161 (baseL d pv s m op false)]
    (fun r H' => r = .int .i64 12 ∧ H' = [blk pt 163 (txL pb tv a h true), blk pb 161 (baseL d pv s m op false)]) := by
  refine Gv.Spec.of (fun w h0 hw0 => ?_)
  refine Calls.enter Tryz.func32 rfl rfl rfl hw0 ?_
  simp only [argSlots]
  refine Wap ?_
  refine Ws ?_
  refine Zd (txn_may pt pb tv d pv a h true s m op false hm) ?_
  refine Ws ?_
  refine Zz 17 true ?_
  refine Ws ?_
  exact Zfn [blk pt 163 (txL pb tv a h true), blk pb 161 (baseL d pv s m op false)] (hq := by exact ⟨rfl, rfl⟩)
end Go.Proofs.YtcglabmlhljkmaaGreat
end
section
/- txn: what is there to stay, and changes of it: begun, put, committed; in plain terms. -/
namespace Go.Proofs.YtcglabmlhljkmaaGreat
open Go Go.RowKit Go.Gv
set_option linter.unusedVariables false
set_option linter.unusedSimpArgs false

/-- the pages of a base -/
def bsU (S : DS) (s : SP) (b h : Nat) (E : List ENT) : List Nat := pgN S h s.addr ++ (b :: txs E)
/-- what is there to stay: entries, their texts -/
structure CMT (k : Nat) (mu : Nat → Nat) (S : DS) (s : SP) (m : BM) (b h : Nat) (E : List ENT) : Prop where
  cm : CM k S s m (bsU S s b h E)
  bb : s.bitmap = (b : Int)
  hh : s.height = (h : Int)
  g : h = 0 ∨ tkG S k mu h (rmin h) s.addr
  ents : wkE S h s.addr = E
  ord : ordE E
  h5 : h ≤ 5
  tx : ∀ x ∈ E, TxE S x
/-- changes under way -/
structure TXI (k : Nat) (mu : Nat → Nat) (S0 : DS) (s : SP) (m : BM) (b h0 : Nat) (E0 : List ENT) (v : VS) (a : Int) (h : Nat) (E : List ENT) : Prop where
  c : CMT k mu S0 s m b h0 E0
  gen : v.gen = s.gen + 1
  old : v.old = m
  A : v.S.A = S0.A
  sm : same S0 v.S (bsU S0 s b h0 E0)
  ti : TI k mu (bsU S0 s b h0 E0) (b :: txs E) v a h E
  tx : ∀ x ∈ E, TxE v.S x
theorem CMT.ti {k : Nat} {mu : Nat → Nat} {S : DS} {s : SP} {m : BM} {b h : Nat} {E : List ENT} (c : CMT k mu S s m b h E) (g : Nat) (hg : g < 18446744073709551616) : TI k mu (bsU S s b h E) (b :: txs E) ⟨S, g, m, m⟩ s.addr h E :=
  ⟨c.cm.view g hg, c.g, c.ents, c.ord, c.h5⟩
/-- changes begin -/
theorem CMT.begin {k : Nat} {mu : Nat → Nat} {S : DS} {s : SP} {m : BM} {b h : Nat} {E : List ENT} (c : CMT k mu S s m b h E) : TXI k mu S s m b h E ⟨S, s.gen + 1, m, m⟩ s.addr h E := by
  have hg := c.cm.gen
  exact ⟨c, rfl, rfl, rfl, same.rfl, c.ti _ (by omega), c.tx⟩
theorem insE_perm (E : List ENT) (x : ENT) : (insE E x).Perm (x :: E) := by
  have e : E.takeWhile (fun y => !lessK x.key y.key) ++ E.dropWhile (fun y => !lessK x.key y.key) = E := List.takeWhile_append_dropWhile
  rw [insE]
  refine List.perm_middle.trans ?_
  rw [e]
theorem txs_ins (E : List ENT) (x : ENT) : (txs (insE E x)).Perm (txP x ++ txs E) := List.Perm.flatMap_right _ (insE_perm E x)
theorem entT_ok {x : ENT} {t : Nat} {text : List UInt8} (h : entOk (entT x 2 text) = true) (ht : 2 ≤ t) (hf : (t : Int) + pagesE (text.length : Int) ≤ 512) : entOk (entT x (t : Int) text) = true := by
  have hb := ent_bounds h
  have hl : (entT x 2 text).len = (text.length : Int) := rfl
  have hp : 1 ≤ pagesE (text.length : Int) := by rw [pagesE]; omega
  simp only [entOk, Bool.and_eq_true, betw, decide_eq_true_eq] at h ⊢
  obtain ⟨⟨⟨⟨⟨⟨h1, h2⟩, h3⟩, h4⟩, h5⟩, h6⟩, h7⟩ := h
  refine ⟨⟨⟨⟨⟨⟨h1, h2⟩, ?_⟩, h4⟩, ?_⟩, h6⟩, h7⟩
  · show (2 : Int) ≤ (t : Int) ∧ (t : Int) ≤ 511
    omega
  · exact hf
/-- so many pages a text takes -/
theorem nE_T (x : ENT) (a : Int) (text : List UInt8) : nE (entT x a text) = (text.length + 255) / 256 := by
  show (pagesE (text.length : Int)).toNat = _
  rw [pagesE]; omega
/-- a chunk that is put -/
structure PutR (k : Nat) (mu : Nat → Nat) (S0 : DS) (s : SP) (m : BM) (b h0 : Nat) (E0 : List ENT) (v : VS) (a : Int) (h : Nat) (E : List ENT) (x : ENT) (text : List UInt8) (t : Nat) (m2 : BM) (v2 : VS) (a2 : Int) (h2 : Nat) : Prop where
  mid : TxtR k mu (bsU S0 s b h0 E0) (b :: txs E) v a h E text ((text.length + 255) / 256) t m2
  i : iN (putV v m2 t text) a h (entT x (t : Int) text) = (v2, (a2, h2), 0)
  xi : TXI k mu S0 s m b h0 E0 v2 a2 h2 (insE E (entT x (t : Int) text))
  W : v2.S.W.length ≤ v.S.W.length + (text.length + 255) / 256 * 4 + 60
  txt : txE v2.S (entT x (t : Int) text) = text
theorem put_spec {k : Nat} {mu : Nat → Nat} {S0 : DS} {s : SP} {m : BM} {b h0 : Nat} {E0 : List ENT} {v : VS} {a : Int} {h : Nat} {E : List ENT} {x : ENT} {text : List UInt8} (hmu : ∀ h, mu (h + 1) ≤ limN h) (X : TXI k mu S0 s m b h0 E0 v a h E)
    (hok : entOk (entT x 2 text) = true) (hR : i64R x.key.2 ∧ i64R x.fin) (hc : chkE E x = 0) :
    (∃ t m2 v2 a2 h2, PutR k mu S0 s m b h0 E0 v a h E x text t m2 v2 a2 h2)
    ∨ ((takeM v.m v.old (((text.length + 255) / 256 : Nat) : Int)).2.2 = 5 ∧ ∀ t, t + (text.length + 255) / 256 ≤ k → ¬ runF v.m v.old t ((text.length + 255) / 256))
    ∨ (∃ t m2, TxtR k mu (bsU S0 s b h0 E0) (b :: txs E) v a h E text ((text.length + 255) / 256) t m2 ∧ (iN (putV v m2 t text) a h (entT x (t : Int) text)).2.2 = 5 ∧
        (¬ Fre k (pgN (putV v m2 t text).S h a ++ (runL t ((text.length + 255) / 256) ++ (b :: txs E))) (bsU S0 s b h0 E0) (2 * h + 3) ∨ h = 5)) := by
  have hbd := (ent_bounds hok).2.1
  have hl : (entT x 2 text).len = (text.length : Int) := rfl
  rw [hl] at hbd
  obtain ⟨n, hn⟩ : ∃ n, n = (text.length + 255) / 256 := ⟨_, rfl⟩
  rw [← hn]
  have hn1 : 1 ≤ n := by omega
  rcases ti_text X.ti (n := n) (text := text) (by rw [padB_len, hn]) hn1 with ⟨t, m2, T⟩ | hno
  · have hfit := T.fit
    have hk := X.ti.vg.k8
    have hpn : pagesE (text.length : Int) = (n : Int) := by rw [pagesE, hn]; omega
    have hok2 := entT_ok hok hfit.1 (by rw [hpn]; omega)
    obtain ⟨y, hy⟩ : ∃ y, y = entT x (t : Int) text := ⟨_, rfl⟩
    rw [← hy] at hok2
    have hcr : (crcSum text).toNat < 4294967296 := (crcSum text).toNat_lt
    have hyR : entR y := by rw [hy]; exact ⟨hR.1, hR.2, hcr⟩
    have hyc : chkE E y = 0 := by rw [hy, chkE_T]; exact hc
    have hyP : txP y = runL t n := by rw [txP, hy, nE_T, ← hn]; rfl
    rcases i_spec hmu T.ti hok2 hyR hyc with ⟨v2, t2, H, e, ti2, hW, hsm, hH⟩ | ⟨h5, hF⟩
    · refine .inl ⟨t, m2, v2, (t2 : Int), H, ?_⟩
      have hA2 : v2.S.A = v.S.A := by
        have := (iN_keep (putV v m2 t text) a h y).2.2
        rw [e] at this
        exact this.trans T.A
      have hg2 : v2.gen = v.gen := by
        have := (iN_keep (putV v m2 t text) a h y).1
        rw [e] at this
        exact this
      have ho2 : v2.old = v.old := by
        have := (iN_keep (putV v m2 t text) a h y).2.1
        rw [e] at this
        exact this
      have hall : same v.S v2.S ((b :: txs E) ++ bsU S0 s b h0 E0) := by
        refine (T.sm.sub (fun p hp => List.mem_append_right _ hp)).trans (hsm.sub (fun p hp => ?_))
        rw [List.append_assoc]
        exact List.mem_append_right _ hp
      have hnA : v.S.A.length = k * 256 := X.ti.vg.len
      have htext : txE v2.S y = text := by
        have e1 : textAt v2.S.V t n = padB text := by
          rw [← T.txt]
          refine textAt_same n (fun p hp => ((hsm p (.inl ?_)).1))
          rw [List.append_assoc]
          exact List.mem_append_left _ hp
        have ea : y.addr.toNat = t := by rw [hy]; rfl
        have el : y.len.toNat = text.length := by rw [hy]; rfl
        have en : nE y = n := by rw [hy, nE_T, hn]
        rw [txE_at v2.S y (by rw [el, en, hn]; omega), ea, el, en, e1]
        exact padB_take' text
      refine ⟨by rw [← hn]; exact T, by rw [← hy]; exact e, ?_, by have := T.W; omega, by rw [← hy]; exact htext⟩
      rw [← hy]
      refine ⟨X.c, by rw [hg2, X.gen], by rw [ho2, X.old], by rw [hA2, X.A], X.sm.trans (hall.sub (fun p hp => List.mem_append_right _ hp)), ti2.perm ?_, fun z hz => ?_⟩
      · refine List.perm_middle.trans (List.Perm.cons b ?_)
        have := txs_ins E y
        rw [hyP] at this
        exact this.symm
      · rcases List.mem_cons.1 ((insE_perm E y).mem_iff.1 hz) with rfl | hz
        · refine ⟨hok2, ?_, by rw [htext, hy]; rfl⟩
          rw [hA2, hnA, Nat.mul_div_cancel _ (by decide : 0 < 256), hy]
          show (t : Int) + pagesE (text.length : Int) ≤ (k : Int)
          rw [hpn]; omega
        · refine ((X.tx z hz).same (by rw [hA2]) (fun p hp => (hall p (.inl ?_)).1)).1
          refine List.mem_append_left _ (List.mem_cons_of_mem _ ?_)
          exact List.mem_flatMap.2 ⟨z, hz, hp⟩
    · exact .inr (.inr ⟨t, m2, T, by rw [← hy]; exact h5, hF⟩)
  · refine .inr (.inl ⟨?_, ?_⟩)
    · exact hno.1
    · exact hno.2
end Go.Proofs.YtcglabmlhljkmaaGreat
end
section
/- txn: what is committed is there to stay; in plain terms. -/
namespace Go.Proofs.YtcglabmlhljkmaaGreat
open Go Go.RowKit Go.Gv
set_option linter.unusedVariables false
set_option linter.unusedSimpArgs false

/-- a tree whose pages read as they did -/
theorem tk_moved {S S' : DS} {k : Nat} {mu : Nat → Nat} : ∀ (h m : Nat) (a : Int), tkG S k mu h m a → (∀ p ∈ pgN S h a, ∀ lf, rdN S' (p : Int) lf = rdN S (p : Int) lf) → tkG S' k mu h m a ∧ wkE S' h a = wkE S h a ∧ pgN S' h a = pgN S h a
  | 0, _, _, g, _ => g.elim
  | h + 1, m, a, g, sm => by
    obtain ⟨⟨p, hp, hp2⟩, g1, g2, g3, g4, g5, g6⟩ := g
    have hr : rdN S' a (decide (h = 0)) = rdN S a (decide (h = 0)) := by
      have := sm p (by rw [pgN, hp]; exact List.mem_cons_self ..) (decide (h = 0))
      rw [hp]; exact this
    have ih := fun d (hd : d ∈ (rdN S a (decide (h = 0))).D) => tk_moved h (mu h) d (g5 d hd) (fun q hq => sm q (by
      rw [pgN]
      exact List.mem_cons_of_mem _ (List.mem_flatMap.2 ⟨d, hd, hq⟩)))
    refine ⟨⟨⟨p, hp, hp2⟩, by rw [hr]; exact g1, by rw [hr]; exact g2, by rw [hr]; exact g3, by rw [hr]; exact g4, fun d hd => by rw [hr] at hd; exact (ih d hd).1, ?_⟩, ?_, ?_⟩
    · rw [hr, g6]
      exact List.map_congr_left (fun d hd => by rw [headK, headK, (ih d hd).2.1])
    · rw [wkE, wkE, hr, flat_congr (fun d hd => (ih d hd).2.1)]
    · rw [pgN, pgN, hr, flat_congr (fun d hd => (ih d hd).2.2)]
theorem CM.perm {k : Nat} {S : DS} {s : SP} {m : BM} {U U' : List Nat} (c : CM k S s m U) (p : U.Perm U') : CM k S s m U' :=
  ⟨c.k8, c.on, c.len, c.W, c.sok, c.pages, c.gen, c.sup, c.old, inv_perm c.mok p, by
    obtain ⟨b, h1, h2, h3⟩ := c.bit
    exact ⟨b, h1, p.mem_iff.1 h2, h3⟩⟩
/-- the steps of a commit -/
theorem cm_more {S : DS} {k : Nat} {s : SP} {m : BM} {U : List Nat} {b : Nat} (h8 : 8 ≤ k ∧ k ≤ 512) (hon : S.on) (hA : S.A.length = k * 256) (ok : okS s = true) (hb : s.bitmap = (b : Int)) (hi : Inv k m U) (hbU : b ∈ U) :
    (wrPg S (mpP s.bitmap s.gen m)).1.fl.1.on ∧ (wrPg S (mpP s.bitmap s.gen m)).1.fl.1.W.length = 0 ∧ (wrS (wrPg S (mpP s.bitmap s.gen m)).1.fl.1 s).1.on ∧ (wrS (wrPg S (mpP s.bitmap s.gen m)).1.fl.1 s).1.W.length ≤ 100 := by
  have hr := hi.rng b hbU
  have hok := mpP_ok (g := s.gen) (a := b) hi h8 (by omega)
  obtain ⟨a1, a2, a3, a4, a5⟩ := wrPg_on hon (q := mpP s.bitmap s.gen m) (a := b) (by rw [hb]; exact hok) hb (by rw [hA]; exact fitk hr.2)
  obtain ⟨b1, b2, b3, b4, b5⟩ := fl_on a2
  have h2A : (wrPg S (mpP s.bitmap s.gen m)).1.fl.1.A.length = k * 256 := by rw [b4, DS.V_length a2.1, a4, hA]
  obtain ⟨d1, d2, d3, d4, d5⟩ := wrS_on b2 (by omega) ok
  have h0 : (wrPg S (mpP s.bitmap s.gen m)).1.fl.1.W.length = 0 := by rw [b5]; rfl
  exact ⟨b2, h0, d2, by omega⟩
theorem spN_ok {k : Nat} {s : SP} {a : Int} {h t : Nat} (h8 : 8 ≤ k ∧ k ≤ 512) (hp : s.pages = (k : Int)) (ht : 2 ≤ t ∧ t < k) (h5 : h ≤ 5) (ha : h ≠ 0 → ∃ p : Nat, a = (p : Int) ∧ (2 ≤ p ∧ p < k) ∧ p ≠ t) : okS (spN s a h t) = true := by
  show (decide (s.gen + 1 ≠ 0) && (decide ((8 : Int) ≤ s.pages) && (decide (s.pages ≤ 512) && ((decide ((2 : Int) ≤ (t : Int)) && decide ((t : Int) < s.pages)) &&
    (if (h : Int) = 0 then decide ((if h = 0 then (0 : Int) else a) = 0) else decide ((0 : Int) < (h : Int)) && (decide ((h : Int) ≤ 5) && ((decide ((2 : Int) ≤ (if h = 0 then (0 : Int) else a)) && decide ((if h = 0 then (0 : Int) else a) < s.pages)) && decide ((if h = 0 then (0 : Int) else a) ≠ (t : Int))))))))) = true
  rw [hp, decide_eq_true (show s.gen + 1 ≠ 0 by omega), decide_eq_true (show (8 : Int) ≤ (k : Int) by omega), decide_eq_true (show (k : Int) ≤ 512 by omega), decide_eq_true (show (2 : Int) ≤ (t : Int) by omega), decide_eq_true (show (t : Int) < (k : Int) by omega)]
  by_cases h0 : h = 0
  · rw [if_pos (by omega), if_pos h0]; rfl
  · obtain ⟨p, hp1, hp2, hp3⟩ := ha h0
    rw [if_neg (by omega), if_neg h0, hp1, decide_eq_true (show (0 : Int) < (h : Int) by omega), decide_eq_true (show (h : Int) ≤ 5 by omega), decide_eq_true (show (2 : Int) ≤ (p : Int) by omega), decide_eq_true (show (p : Int) < (k : Int) by omega), decide_eq_true (show (p : Int) ≠ (t : Int) by omega)]
    rfl
/-- changes are committed, or there is no page for the map -/
theorem commit_spec {k : Nat} {mu : Nat → Nat} {S0 : DS} {s : SP} {m : BM} {b h0 : Nat} {E0 : List ENT} {v : VS} {a : Int} {h : Nat} {E : List ENT} (X : TXI k mu S0 s m b h0 E0 v a h E) (hW : v.S.W.length ≤ 600000) (hg : s.gen + 1 < 1000000000) :
    (∃ t m1 m2, CmG v s m m1 m2 a h t ∧ CMT k mu (cmS v.S (spN s a h t) m2) (spN s a h t) m2 t h E ∧ t ∉ bsU S0 s b h0 E0 ∧ ∀ x ∈ E, txE (cmS v.S (spN s a h t) m2) x = txE v.S x)
    ∨ (∃ m1, giveM v.m s.bitmap 1 = (m1, 0) ∧ m1.u.length = 512 ∧ (takeM m1 m 1).2.2 = 5 ∧ ¬ Fre k (pgN v.S h a ++ txs E) (bsU S0 s b h0 E0) 1) := by
  have hv := X.ti.vg
  have hk := hv.k8
  obtain ⟨m1, e1, i1⟩ := give_inv (inv_perm hv.m List.perm_middle) hk
  have hom : Inv k m (bsU S0 s b h0 E0) := by rw [← X.old]; exact hv.o
  have egv : giveM v.m s.bitmap 1 = (m1, 0) := by rw [X.c.bb]; exact e1
  rcases take_inv i1 hom hk with ⟨t, m2, e2, ht, htU, htO, i2⟩ | ⟨e5, hF⟩
  · refine .inl ⟨t, m1, m2, ?_⟩
    have hpage : h ≠ 0 → ∃ p : Nat, a = (p : Int) ∧ (2 ≤ p ∧ p < k) ∧ p ≠ t := fun hne => by
      obtain ⟨p, p1, p2, l, p3⟩ := tk_page (X.ti.g.resolve_left hne)
      refine ⟨p, p1, p2, fun c => htU (List.mem_append_left _ ?_)⟩
      rw [p3, c]; exact List.mem_cons_self ..
    obtain ⟨s', hs'⟩ : ∃ s', s' = spN s a h t := ⟨_, rfl⟩
    have ok : okS s' = true := by rw [hs']; exact spN_ok hk X.c.cm.pages ht X.ti.h5 hpage
    have hb' : s'.bitmap = (t : Int) := by rw [hs']; rfl
    have hg' : s'.gen = s.gen + 1 := by rw [hs']; rfl
    have hp' : s'.pages = (k : Int) := by rw [hs']; exact X.c.cm.pages
    have hh' : s'.height = (h : Int) := by rw [hs']; rfl
    have ha' : s'.addr = if h = 0 then 0 else a := by rw [hs']; rfl
    obtain ⟨q1, q2, q3, q4, qc, qp⟩ := cm_step X.c.cm hv.on X.A (fun p hp => (X.sm p (.inr hp)).1) ok hg' (by omega) hp' hb' i2 (List.mem_cons_self ..)
    obtain ⟨r1, r2, r3, r4⟩ := cm_more hk hv.on hv.len ok hb' i2 (List.mem_cons_self ..)
    obtain ⟨S', hS'⟩ : ∃ S', S' = cmS v.S s' m2 := ⟨_, rfl⟩
    have hSdef : cmS v.S s' m2 = (wrS (wrPg v.S (mpP s'.bitmap s'.gen m2)).1.fl.1 s').1.fl.1 := rfl
    rw [hb', hg'] at q1 q2 q3 q4 r1 r2 r3 r4
    have hpm : m2.p = (((cmS v.S s' m2).A.length / 256 : Nat) : Int) := by rw [qc.div]; exact i2.p
    have hvok : (⟨cmS v.S s' m2, s.gen + 1, m2, m2⟩ : VS).ok := (qc.view (s.gen + 1) (by omega)).ok
    have htx : ∀ x ∈ E, TxE (cmS v.S s' m2) x ∧ txE (cmS v.S s' m2) x = txE v.S x := fun x hx => by
      refine (X.tx x hx).same (by rw [qc.len, hv.len]) (fun p hp => ?_)
      have hmem : p ∈ txs E := List.mem_flatMap.2 ⟨x, hx, hp⟩
      have hr := i2.rng p (List.mem_cons_of_mem _ (List.mem_append_right _ hmem))
      exact qp p hr.1 hr.2 (fun c => htU (List.mem_append_right _ (c ▸ hmem)))
    refine ⟨?_, ?_, htO, fun x hx => by rw [← hs']; exact (htx x hx).2⟩
    · rw [hs'] at q3 q4 r3 r4 hpm hvok
      exact ⟨hv.ok, by omega, hom.len, i1.len, i2.len, by omega, egv, e2, q1, q2, r1.1, by omega, q3, r3.1, by omega, q4, hvok, i2.right hk, hpm⟩
    · rw [← hs', ← hS']
      rw [← hS'] at qc qp
      have hrd : ∀ p ∈ pgN v.S h a, ∀ lf, rdN S' (p : Int) lf = rdN v.S (p : Int) lf := fun p hp lf => by
        have hr := i2.rng p (List.mem_cons_of_mem _ (List.mem_append_left _ hp))
        refine rdN_pg hv.on qc.on (by rw [qc.len, hv.len]) (by rw [hv.len]; exact fitk hr.2) (qp p hr.1 hr.2 (fun c => htU (List.mem_append_left _ (c ▸ hp)))) lf
      have htree : (h = 0 ∨ tkG S' k mu h (rmin h) s'.addr) ∧ wkE S' h s'.addr = E ∧ pgN S' h s'.addr = pgN v.S h a := by
        rcases Nat.eq_zero_or_pos h with hz | hz
        · subst hz
          exact ⟨.inl rfl, X.ti.ents, rfl⟩
        · have hne : h ≠ 0 := by omega
          rw [ha', if_neg hne]
          obtain ⟨g1, g2, g3⟩ := tk_moved h (rmin h) a (X.ti.g.resolve_left hne) hrd
          exact ⟨.inr g1, by rw [g2]; exact X.ti.ents, g3⟩
      refine ⟨qc.perm ?_, hb', hh', htree.1, htree.2.1, X.ti.ord, X.ti.h5, fun x hx => by rw [hS']; exact (htx x hx).1⟩
      rw [bsU, htree.2.2]
      exact List.perm_middle.symm
  · exact .inr ⟨m1, egv, i1.len, e5, hF⟩
end Go.Proofs.YtcglabmlhljkmaaGreat
end
section
/- tree: a disk that is filled; one entry, in plain terms. -/
namespace Go.Proofs.YtcglabmlhljkmaaGreat
open Go Go.RowKit Go.Gv
set_option linter.unusedVariables false
set_option linter.unusedSimpArgs false

/-- leaves of four at least -/
def mu4 (h : Nat) : Nat := if h = 1 then 4 else 1
theorem mu4_lim (h : Nat) : mu4 (h + 1) ≤ limN h := by
  rw [mu4, limN]
  by_cases c : h = 0
  · rw [if_pos (by omega), if_pos c]; decide
  · rw [if_neg (by omega), if_neg c]; decide
theorem low_sum {S : DS} {h : Nat} : ∀ (D : List Int), (∀ d ∈ D, 4 ≤ (wkE S h d).length) → 4 * D.length ≤ (D.flatMap (wkE S h)).length
  | [], _ => Nat.zero_le _
  | d :: D, hd => by
    have h1 := hd d (List.mem_cons_self ..)
    have h2 := low_sum D (fun z hz => hd z (List.mem_cons_of_mem _ hz))
    rw [List.flatMap_cons, List.length_append, List.length_cons]; omega
theorem low4 {S : DS} {k : Nat} : ∀ (h : Nat) (a : Int), tkG S k mu4 h (mu4 h) a → 4 ≤ (wkE S h a).length
  | 0, _, g => g.elim
  | h + 1, a, g => by
    obtain ⟨_, _, _, g3, ⟨g4, g5, g6⟩, g7, g8⟩ := g
    rw [wkE, List.length_append]
    by_cases h0 : h = 0
    · subst h0
      have : 4 ≤ (rdN S a (decide (0 = 0))).E.length := g5
      omega
    · rw [decide_eq_false h0] at g4 g7 ⊢
      have h1 : 1 ≤ (rdN S a false).D.length := g4
      have h2 := low_sum _ (fun d hd => low4 h d (g7 d hd))
      omega
/-- a tree of few entries is low -/
theorem ti_low {k : Nat} {O R : List Nat} {v : VS} {a : Int} {h : Nat} {E : List ENT} (ti : TI k mu4 O R v a h E) (hE : E.length ≤ 7) : h ≤ 1 := by
  rcases ti.g with h0 | g
  · omega
  · rcases h with _ | _ | h
    · omega
    · omega
    · have hEe := ti.ents
      obtain ⟨_, _, _, g3, ⟨g4, g5, g6⟩, g7, g8⟩ := g
      have hd1 : decide (h + 1 = 0) = false := rfl
      rw [hd1] at g5 g7
      have h1 : 2 ≤ (rdN v.S a false).D.length := by
        rw [rmin, if_neg (by omega)] at g5
        exact g5
      have h2 := low_sum _ (fun d hd => low4 (h + 1) d (g7 d hd))
      rw [wkE, hd1] at hEe
      have h3 := congrArg List.length hEe
      rw [List.length_append] at h3
      omega
end Go.Proofs.YtcglabmlhljkmaaGreat
end
section
/- txn: one chunk that stays, in plain terms. -/
namespace Go.Proofs.YtcglabmlhljkmaaGreat
open Go Go.RowKit Go.Gv
set_option linter.unusedVariables false
set_option linter.unusedSimpArgs false

theorem fre_all (k : Nat) (h : 2 ≤ k) : Fre k [] [] (k - 2) := by
  refine ⟨List.range' 2 (k - 2), List.length_range', List.nodup_range', fun i hi => ⟨?_, List.not_mem_nil, List.not_mem_nil⟩⟩
  have := List.mem_range'_1.1 hi
  omega
theorem fre_cons {k n : Nat} : ∀ U : List Nat, Fre k [] [] (n + U.length) → Fre k U [] n
  | [], h => h
  | t :: U, h => Fre.cons (fre_cons U (by rw [List.length_cons] at h; rw [show n + 1 + U.length = n + (U.length + 1) by omega]; exact h))
/-- few pages are in use -/
theorem fre_few {k n : Nat} {U O : List Nat} (h : n + U.length + O.length + 2 ≤ k) : Fre k U O n := by
  obtain ⟨l, h1, h2, h3⟩ := fre_cons (n := n) (U ++ O) ((fre_all k (by omega)).le (by rw [List.length_append]; omega))
  exact ⟨l, h1, h2, fun i hi => ⟨(h3 i hi).1, fun c => (h3 i hi).2.1 (List.mem_append_left _ c), fun c => (h3 i hi).2.1 (List.mem_append_right _ c)⟩⟩
/-- so many nodes are as many pages -/
theorem wkC_pg (S : DS) : ∀ (h : Nat) (a : Int), wkC S h a = (pgN S h a).length
  | 0, _ => rfl
  | h + 1, a => by
    rw [wkC, pgN, List.length_cons, Nat.add_comm]
    congr 1
    have e : wkC S h = fun d => (pgN S h d).length := funext (wkC_pg S h)
    rw [e, List.length_flatMap]
theorem pg_one (S : DS) (a : Int) : (pgN S 1 a).length = 1 := by
  have e : (rdN S a (decide (0 = 0))).D.flatMap (pgN S 0) = [] := by
    rw [List.flatMap_eq_nil_iff]; intro d _; rfl
  rw [pgN, e]; rfl
/-- an empty store -/
theorem fm_cmt {k : Nat} (mu : Nat → Nat) (h : 8 ≤ k ∧ k ≤ 512) : CMT k mu (fmS k) (spF k) (fm1 k) 2 0 [] :=
  ⟨(fm_spec h).cm, rfl, rfl, .inl rfl, rfl, ⟨List.Pairwise.nil, (fun e he => by cases he)⟩, by decide, (fun x hx => by cases hx)⟩
theorem fm_free {k : Nat} (h : 8 ≤ k ∧ k ≤ 512) : freeM (fm1 k) = k - 3 := by
  have := (fm_spec h).cm.mok.free
  simp only [List.length_cons, List.length_nil] at this
  omega
def xS : ENT := ⟨(1, 0), 0, 0, 0, 1, 0, 0⟩
def tS : List UInt8 := [97, 98, 99]
/-- a store that is empty, and of so many pages -/
theorem stays_spec {S : DS} {m : BM} {s : SP} {k : Nat} (c0 : CMT k mu4 S s m 2 0 []) (hk16 : 16 ≤ k) (hg1 : s.gen + 1 < 1000000000) (ha0 : s.addr = 0) : ∃ t m2 v2 a2 h2 t3 m3 m4, PutR k mu4 S s m 2 0 [] ⟨S, s.gen + 1, m, m⟩ s.addr 0 [] xS tS t m2 v2 a2 h2 ∧ CmG v2 s m m3 m4 a2 h2 t3 ∧
    CMT k mu4 (cmS v2.S (spN s a2 h2 t3) m4) (spN s a2 h2 t3) m4 t3 h2 [entT xS (t : Int) tS] ∧ txE (cmS v2.S (spN s a2 h2 t3) m4) (entT xS (t : Int) tS) = tS := by
  have X0 := c0.begin
  have hU : bsU S s 2 0 [] = [2] := rfl
  have hW0 : S.W.length = 0 := by rw [c0.cm.W]; rfl
  have htl : (tS.length + 255) / 256 = 1 := by decide
  rcases put_spec (x := xS) (text := tS) mu4_lim X0 (by decide) ⟨⟨by decide, by decide⟩, ⟨by decide, by decide⟩⟩ (by decide) with ⟨t, m2, v2, a2, h2, P⟩ | ⟨_, hno⟩ | ⟨t, m2, _, _, hF⟩
  · have hE : insE [] (entT xS (t : Int) tS) = [entT xS (t : Int) tS] := rfl
    have X2 := P.xi
    rw [hE] at X2
    have hW := P.W
    rw [htl] at hW
    have hW' : v2.S.W.length ≤ 64 := by
      have e : (⟨S, s.gen + 1, m, m⟩ : VS).S.W.length = 0 := hW0
      rw [e] at hW
      exact hW
    rcases commit_spec X2 (Nat.le_trans hW' (by decide)) hg1 with ⟨t3, m3, m4, C, D, _, T⟩ | ⟨_, _, _, _, hF⟩
    · exact ⟨t, m2, v2, a2, h2, t3, m3, m4, P, C, D, by rw [T _ (List.mem_singleton.2 rfl)]; exact P.txt⟩
    · refine absurd (fre_few ?_) hF
      have hlow : h2 ≤ 1 := ti_low X2.ti (by show 1 ≤ 7; decide)
      have hp : (pgN v2.S h2 a2).length ≤ 1 := by
        rcases (show h2 = 0 ∨ h2 = 1 by omega) with q | q
        · rw [q]; exact Nat.zero_le _
        · rw [q, pg_one]; exact Nat.le_refl _
      have htx : (txs [entT xS (t : Int) tS]).length = 1 := by
        show (txP (entT xS (t : Int) tS) ++ []).length = 1
        rw [List.append_nil, txP, runL, List.length_range', nE_T, htl]
      rw [List.length_append, hU, htx]
      show 1 + ((pgN v2.S h2 a2).length + 1) + 1 + 2 ≤ k
      omega
  · refine absurd (fun i h1 h2 => ?_) (hno 3 (by rw [htl]; omega))
    rw [htl] at h2
    have hi : i = 3 := by omega
    show bothAt m m i = false
    cases hb : bothAt m m i with
    | false => rfl
    | true =>
      rcases (both_use c0.cm.mok c0.cm.mok i).1 hb with q | q | q
      · rw [hi] at q; exact absurd q (by decide)
      · rw [hU, hi] at q; exact absurd q (by decide)
      · rw [hU, hi] at q; exact absurd q (by decide)
  · rcases hF with hF | hF
    · refine absurd (fre_few ?_) hF
      rw [hU, htl]
      simp only [pgN, List.length_append, runL, List.length_range', List.length_cons, List.length_nil, txs, List.flatMap_nil]
      omega
    · cases hF
end Go.Proofs.YtcglabmlhljkmaaGreat
end
section
/- txn: the law's function stays: the walk. -/
namespace Go.Proofs.YtcglabmlhljkmaaGreat
open Go Go.RowKit Go.Gv
set_option linter.unusedVariables false
set_option linter.unusedSimpArgs false

theorem CMT.walk {k : Nat} {mu : Nat → Nat} {S : DS} {s : SP} {m : BM} {b h : Nat} {E : List ENT} (c : CMT k mu S s m b h E) : (h = 0 ∨ wkG S h s.addr) ∧ wkC S h s.addr ≤ 1000000 ∧ (wkE S h s.addr).length ≤ 1000000 := by
  have hk := c.cm.k8
  have hf := c.cm.mok.free
  rw [bsU, List.length_append] at hf
  refine ⟨c.g.imp id (fun tg => tk_wkG hk.2 h (rmin h) s.addr tg), by rw [wkC_pg]; omega, ?_⟩
  rcases c.g with h0 | tg
  · subst h0; exact Nat.zero_le _
  · have h1 := tk_len h (rmin h) s.addr tg
    omega
theorem txn_PutX {k : Nat} {mu : Nat → Nat} {S0 : DS} {s : SP} {m : BM} {b h0 : Nat} {E0 : List ENT} {v : VS} {a : Int} {h : Nat} {E : List ENT} {x : ENT} {text : List UInt8} {t : Nat} {m2 : BM} {v2 : VS} {a2 : Int} {h2 : Nat} (hmu : ∀ h, mu (h + 1) ≤ limN h) (X : TXI k mu S0 s m b h0 E0 v a h E) (P : PutR k mu S0 s m b h0 E0 v a h E x text t m2 v2 a2 h2)
    (hok : entOk (entT x 2 text) = true) (hR : i64R x.key.2 ∧ i64R x.fin) (hc : chkE E x = 0) (has : ∀ y ∈ E, lessK x.key y.key = false) (hW : v.S.W.length ≤ 500000) (pt pb tv d pv : Nat) (op : Bool) (tx : Value) (h1 : PH) (hrd : Rd h1 tx text.length (B8 text)) :
    Gv.Spec Tryz.prog 38 #[.pointer (some ⟨pt, 0, none⟩), entV x, tx] [blk pt 163 (txL pb tv a (h : Int) false), blk pb 161 (baseL d pv s m op false), blk tv 146 (viewL d v), DSK d v.S, Ex h1]
    (fun r H' => r = .int .i64 0 ∧ H' = [blk pt 163 (txL pb tv a2 (h2 : Int) false), blk pb 161 (baseL d pv s m op false), blk tv 146 (viewL d v2), DSK d v2.S, Ex h1]) := by
  have T := P.mid
  have hv := X.ti.vg
  have hbd := (ent_bounds hok).2.1
  have hl : (entT x 2 text).len = (text.length : Int) := rfl
  rw [hl] at hbd
  have hpn : pagesE (text.length : Int) = (((text.length + 255) / 256 : Nat) : Int) := by rw [pagesE]; omega
  have hk := hv.k8
  have hfit := T.fit
  have hom : m.u.length = 512 := by rw [← X.old]; exact hv.o.len
  have hT := T.tk
  rw [X.old, ← hpn] at hT
  have hcr : (crcSum text).toNat < 4294967296 := (crcSum text).toNat_lt
  have hTW := T.W
  have hf := hv.m.free
  rw [List.length_append] at hf
  have hlen : (wkE v.S h a).length ≤ 1000000 := by
    rcases X.ti.g with q | tg
    · subst q; exact Nat.zero_le _
    · have h1 := tk_len h (rmin h) a tg
      omega
  refine txn_Put pt pb tv d pv v a h s m op x tx text h1 hrd m2 t v2 a2 h2 hv.ok (by omega) hom X.ti.h5 (X.ti.g.imp id (fun tg => tk_wkG hk.2 h (rmin h) a tg)) hlen hok (by rw [X.ti.ents]; exact hc) hT T.len T.rm T.p (by omega) T.w ?_ P.i
  exact iG_of hmu T.ti (entT_ok hok hfit.1 (by rw [hpn]; omega)) ⟨hR.1, hR.2, hcr⟩ has (by omega)
theorem law16_allX {k : Nat} {mu : Nat → Nat} {S : DS} {s : SP} {m : BM} {b h : Nat} {E : List ENT} (c : CMT k mu S s m b h E) (pb d pv : Nat) (g : Nat) (hg : g < 1000000000) (op : Bool) :
    Gv.Spec Tryz.prog 39 #[.pointer (some ⟨pb, 0, none⟩)] [blk pb 161 (baseL d pv s m op false), blk pv 146 (viewL d ⟨S, g, m, m⟩), DSK d S]
    (fun r H' => ∃ A cc, r = .tuple #[.slice A E.length cc, .bool true] ∧ H' = [blk pb 161 (baseL d pv s m op false), blk pv 146 (viewL d ⟨S, g, m, m⟩), DSK d S, own 102 4 (.slice A E.length cc) E.length (CL S E)]) := by
  obtain ⟨w1, w2, w3⟩ := c.walk
  have hs := okS_spec c.cm.sok
  have hal := law16_all pb d pv ⟨S, g, m, m⟩ s m op c.cm.mok.len (c.cm.view g (by omega)).ok c.cm.on (by show S.A.length % 256 = 0; rw [c.cm.len, Nat.mul_mod_left]) (by show S.W.length ≤ _; rw [c.cm.W]; exact Nat.zero_le _) h c.h5 c.hh w1 w2 hs.1 w3 (by
    intro x hx
    have hx' : x ∈ wkE S h s.addr := hx
    rw [c.ents] at hx'
    exact c.tx x hx')
  have e : wkE (⟨S, g, m, m⟩ : VS).S h s.addr = E := c.ents
  rw [e] at hal
  exact hal
set_option maxRecDepth 4000 in
set_option maxHeartbeats 16000000 in
theorem law16_stays : SpecR Tryz.prog 30 #[] (fun _ => True) (fun r H' => r = .bool true ∧ H' = []) := by
  refine SpecR.of (fun w _ => ?_)
  refine Calls.enter Tryz.func30 rfl rfl rfl (St.rebase w) ?_
  simp only [argSlots]
  have h8 : 8 ≤ 16 ∧ 16 ≤ 512 := by decide
  have hfr := fm_free h8
  have hfo := fun d => txn_Format d 16 h8
  have c0 := fm_cmt mu4 h8
  have hs0 : spF 16 = ⟨1, 0, 0, 2, 16⟩ := rfl
  obtain ⟨S, hS⟩ : ∃ S, S = fmS 16 := ⟨_, rfl⟩
  obtain ⟨m, hm⟩ : ∃ m, m = fm1 16 := ⟨_, rfl⟩
  obtain ⟨s, hs⟩ : ∃ s, s = spF 16 := ⟨_, rfl⟩
  rw [← hS, ← hm, ← hs] at c0
  rw [← hm] at hfr
  simp only [← hS, ← hm, ← hs] at hfo
  rw [← hs] at hs0
  have hsg : s.gen = 1 := by rw [hs0]
  have hsa : s.addr = 0 := by rw [hs0]
  have hsh : s.height = 0 := by rw [hs0]
  obtain ⟨t, m2, v2, a2, h2, t3, m3, m4, P, C, D, T⟩ := stays_spec c0 (by decide) (by rw [hsg]; decide) hsa
  have hgen1 : (1 : Nat) = s.gen := hsg.symm
  refine Ws ?_
  refine Zcr (disk_NewD 16 h8) ?_
  rintro r1 H1 ⟨d, rfl, rfl⟩
  refine Wap ?_
  refine Ws ?_
  refine Zcs (hfo d) ?_
  rintro r2 H2 ⟨pb, pv, rfl, rfl⟩
  refine Wap ?_
  refine Ws ?_
  refine Zd (base_Free pb d pv s m false false c0.cm.mok.len) ?_
  refine Ws ?_
  have hbe := base_Begin pb d pv S s m (c0.cm.view (s.gen + 1) (by rw [hsg]; decide)).ok (c0.cm.mok.right h8) (by rw [c0.cm.div]; exact c0.cm.mok.p)
  refine Zcs hbe ?_
  rintro r4 H4 ⟨pt, tv, rfl, rfl⟩
  refine Wap ?_
  refine Ws ?_
  refine Zbu (ys := [.int .i64 1, .int .i64 0]) ?_
  refine Ws ?_
  refine Zbu (ys := entL xS) ?_
  refine Ws ?_
  (refine Zli (ys := B8 tS) ?_; intro vl)
  refine Ws ?_
  refine ZoconvSS ?_ (he := by exact Tryz.underlying5) (hm := by decide)
  refine Tri.open (A := ro vl 3 (B8 tS)) Wp (fun hx hrx => ?_)
  have hrx : Rd hx vl tS.length (B8 tS) := hrx
  have hE : insE [] (entT xS (t : Int) tS) = [entT xS (t : Int) tS] := rfl
  have X0 := c0.begin
  have hWS : S.W.length = 0 := by rw [c0.cm.W]; rfl
  have hput := txn_PutX mu4_lim X0 P (by decide) ⟨⟨by decide, by decide⟩, ⟨by decide, by decide⟩⟩ (by decide) (fun y hy => by cases hy) (by show S.W.length ≤ 500000; rw [hWS]; decide) pt pb tv d pv true vl hx hrx
  refine Zat (blk pt _ _) (blk pt 163 (txL pb tv s.addr ((0 : Nat) : Int) false)) ?_ (e := by rw [hsh]; rfl)
  refine Ws ?_
  refine Zd hput ?_
  refine Ws ?_
  refine Zcs (txn_Commit pt pb tv d pv v2 a2 h2 s m m3 m4 true t3 C) ?_
  rintro r6 H6 ⟨pv2, rfl, rfl⟩
  refine Wap ?_
  refine Ws ?_
  have hDg : (spN s a2 h2 t3).gen = 2 := by show s.gen + 1 = 2; rw [hsg]
  obtain ⟨s2, hs2⟩ : ∃ s2, s2 = spN s a2 h2 t3 := ⟨_, rfl⟩
  rw [← hs2] at D T hDg
  obtain ⟨S2, hS2⟩ : ∃ S2, S2 = cmS v2.S s2 m4 := ⟨_, rfl⟩
  refine Zat (DSK d _) (DSK d S2) ?_ (e := by rw [hS2, hs2])
  rw [← hS2] at D T
  refine Zcs (txn_Mount d D.cm) ?_
  rintro r7 H7 ⟨pb2, pv3, rfl, rfl⟩
  refine Wap ?_
  refine Ws ?_
  refine Zcs (law16_allX D pb2 d pv3 s2.gen (by rw [hDg]; decide) false) ?_
  rintro r8 H8 ⟨A, cc, rfl, rfl⟩
  refine Wap ?_
  refine Ws ?_
  refine Zz 50 true ?_
  refine Ws ?_
  refine Zz 54 true ?_
  refine Ws ?_
  refine Zz 58 true ?_ (hi := by exact decide_eq_true (by rw [hfr]; rfl))
  refine Ws ?_
  refine Zz 62 true ?_
  refine Ws ?_
  refine Zz 66 true ?_
  refine Ws ?_
  refine Zz 70 true ?_
  refine Ws ?_
  refine Zz 74 true ?_
  refine Ws ?_
  refine Zz 77 true ?_
  refine Ws ?_
  refine Zz 82 true ?_
  refine Ws ?_
  have hcell : (CL S2 [entT xS (t : Int) tS])[0 * 4 + 3]? = some (.string ⟨tS.toArray⟩) := by
    show some (Value.string ⟨(txE S2 (entT xS (t : Int) tS)).toArray⟩) = _
    rw [T]
  refine Zix (j := 0) ?_ (hj := by rfl) (hlt := by exact Nat.one_pos)
  refine Ws ?_
  refine Zlo ?_ (hv := by exact hcell)
  refine Ws ?_
  refine Zz 89 true ?_ (hi := by exact decide_eq_true rfl)
  refine Ws ?_
  refine Zd (base_Super pb2 d pv3 s2 m4 false false) ?_
  refine Ws ?_
  refine Zv 91 (.agg (spL s2).toArray) ?_ (hv := by rfl)
  refine Zofield (t := 22) (v := .int .u64 (s2.gen : Int)) ?_ (hu := by exact Tryz.underlying83)
  refine Ws ?_
  refine Zz 0 true ?_ (hi := by exact decide_eq_true (by rw [hDg]; rfl))
  exact Zfr (hq := by simp only [tupled]; skip)
end Go.Proofs.YtcglabmlhljkmaaGreat
end
section
/- txn: a commit of nothing; in plain terms. -/
namespace Go.Proofs.YtcglabmlhljkmaaGreat
open Go Go.RowKit Go.Gv
set_option linter.unusedVariables false
set_option linter.unusedSimpArgs false

theorem empty_commit {k : Nat} {mu : Nat → Nat} {S : DS} {s : SP} {m : BM} {b : Nat} (c : CMT k mu S s m b 0 []) (hk : 16 ≤ k) (hg : s.gen + 1 < 1000000000) :
    ∃ t m1 m2, CmG ⟨S, s.gen + 1, m, m⟩ s m m1 m2 s.addr 0 t ∧ CMT k mu (cmS S (spN s s.addr 0 t) m2) (spN s s.addr 0 t) m2 t 0 [] := by
  have hW0 : S.W.length = 0 := by rw [c.cm.W]; rfl
  rcases commit_spec c.begin (by show S.W.length ≤ 600000; rw [hW0]; decide) hg with ⟨t, m1, m2, C, D, _, _⟩ | ⟨_, _, _, _, hF⟩
  · exact ⟨t, m1, m2, C, D⟩
  · refine absurd (fre_few ?_) hF
    show 1 + 0 + 1 + 2 ≤ k
    omega
theorem empty_free {k : Nat} {mu : Nat → Nat} {S : DS} {s : SP} {m : BM} {b : Nat} (c : CMT k mu S s m b 0 []) : freeM m + 3 = k := by
  have := c.cm.mok.free
  have e : (bsU S s b 0 []).length = 1 := rfl
  omega
theorem B8_cut (l : List UInt8) (lo n : Nat) : ((B8 l).drop (lo * 1)).take (n * 1) = B8 ((l.drop lo).take n) := by
  rw [Nat.mul_one, Nat.mul_one, B8, B8, List.map_take, List.map_drop]
/-- the newest super stands in the image -/
theorem CM.image {k : Nat} {S : DS} {s : SP} {m : BM} {U : List Nat} (c : CM k S s m U) (i : Nat) (hi : i % 2 = s.gen % 2) : (S.A.drop (i % 2 * 256)).take 256 = putP (pgS s) ∧ getP (putP (pgS s)) = (pgS s, 0) := by
  have e : S.V = S.A := by
    show flW S.A S.W = S.A
    rw [c.W]; rfl
  have hg := c.gen
  refine ⟨?_, get_put _ (pgS_ok s) (by show s.gen < 18446744073709551616; omega)⟩
  have := c.sup
  rw [pgAt, e, ← hi] at this
  exact this
end Go.Proofs.YtcglabmlhljkmaaGreat
end
section
/- The reference's sum. -/
namespace Go.Proofs.YtcglabmlhljkmaaGreat
open Go Go.RowKit Go.Gv
set_option linter.unusedVariables false

set_option maxHeartbeats 400000 in
theorem ref02_Sum (v : Value) (l : List UInt8) (hl8 : l.length ≤ 1000000000000000000) :
    SpecR Tryz.prog 131 #[v] (fun w => RdW w v l.length (B8 l)) (fun r H' => r = .int .u32 ((refSum l).toNat : Int) ∧ H' = []) := by
  refine SpecR.of (fun w hr => ?_)
  have hlen := hr.le
  refine Calls.enter Tryz.func131 rfl rfl rfl (St.rebase w) ?_
  simp only [argSlots]
  refine Ws ?_
  refine Zi 3 ((refAt l 0).toNat : Int) ?_ (hi := by rfl)
  (refine Wl (α := { i : Nat // i ≤ 8 * l.length }) (fun x => 8 * l.length - x.1) (fun x => [(0, v), (3, .int .u32 ((refAt l x.1).toNat : Int)), (4, .int .i64 (x.1 : Int))]) (fun _ => [Ex (hp w)]) ⟨0, Nat.zero_le _⟩ ?_; rintro ⟨i, hi⟩ mx hmx; (try dsimp only at hmx ⊢))
  refine Ws ?_
  refine Zlr2 (hr := hr) ?_
  refine Ws ?_
  (refine Wcd ?_ ?_ <;> intro h)
  · have hi' : i < 8 * l.length := by omega
    have hq : i / 8 < l.length := by omega
    refine Ws ?_
    refine Zir (hr := hr) (j := i / 8) ?_ (hj := by omega) (hlt := by exact hq) (hl := by rw [B8_length]; omega)
    refine Ws ?_
    refine Zlr (hr := hr) ?_ (hv := by exact (by rw [Nat.mul_one]; exact B8_get l (i / 8) hq))
    refine Ws ?_
    have hbit : Go.bits .and .u32 ((l[i / 8].toNat : Int) % 4294967296 / 2 ^ min ((i : Int) % 8).toNat IntKind.u32.bits) 1 = ((bitAt l i).toNat : Int) := by
      have e1 : (l[i / 8].toNat : Int) % 4294967296 = (l[i / 8].toUInt32.toNat : Int) := by
        have := l[i / 8].toNat_lt
        rw [UInt8.toNat_toUInt32]; omega
      rw [e1, shr32 _ (i % 8) (by omega) _ (by omega)]
      refine (and32 _ 1).trans ?_
      unfold bitAt
      rw [List.getD_eq_getElem?_getD, List.getElem?_eq_getElem hq]; rfl
    refine Zi 5 ((bitAt l i).toNat : Int) ?_ (hi := by exact hbit)
    have hn1 : Go.bits .and .u32 ((refAt l i).toNat : Int) 1 = ((refAt l i &&& 1).toNat : Int) := and32 _ 1
    refine Zz 26 (decide ((refAt l i &&& 1) ≠ bitAt l i)) ?_ (hi := by congr 1; rw [hbit, hn1]; simp only [ne_eq, Int.natCast_inj, UInt32.toNat_inj])
    (refine Wcd ?_ ?_ <;> intro hb)
    · refine Ws ?_
      refine Zi 3 ((refAt l (i + 1)).toNat : Int) ?_ (hi := by rw [refAt, refBit, if_pos hb, shr32 _ 1 (by omega) 1 rfl]; exact xor32 _ 0x82F63B78)
      exact Zag ⟨i + 1, Nat.succ_le_of_lt hi'⟩
    · refine Ws ?_
      refine Zi 3 ((refAt l (i + 1)).toNat : Int) ?_ (hi := by rw [refAt, refBit, if_neg hb, shr32 _ 1 (by omega) 1 rfl]; rfl)
      exact Zag ⟨i + 1, Nat.succ_le_of_lt hi'⟩
  · refine Ws ?_
    have e : i = 8 * l.length := by omega
    subst e
    refine Zfn [] (hq := ?_)
    exact ⟨congrArg _ (xor32 _ 0xFFFFFFFF), rfl⟩
end Go.Proofs.YtcglabmlhljkmaaGreat
end
section
/- page: the reference's Put. -/
namespace Go.Proofs.YtcglabmlhljkmaaGreat
open Go Go.RowKit Go.Gv
set_option linter.unusedVariables false
set_option linter.unusedSimpArgs false

theorem put_next (A : List UInt8) (m i : Nat) (x : UInt8) (hi : i = A.length) : (B8 (A ++ List.replicate (m + 1) 0)).set (0 + i * 1) (.int .u8 (x.toNat : Int)) = B8 (A ++ [x] ++ List.replicate m 0) := by
  subst hi
  rw [Nat.zero_add, Nat.mul_one, B8, B8, ← List.map_set (f := fun c : UInt8 => Value.int .u8 (c.toNat : Int)) (a := x), List.set_append_right _ _ (Nat.le_refl _), Nat.sub_self, List.replicate_succ]
  simp
theorem blk_next {g : Nat} {t : TypeId} {cs : List Value} (A : List UInt8) (m i : Nat) (x : UInt8) (hi : i = A.length) (hc : cs = (B8 (A ++ List.replicate (m + 1) 0)).set (0 + i * 1) (.int .u8 (x.toNat : Int))) : blk g t cs = blk g t (B8 (A ++ [x] ++ List.replicate m 0)) := by rw [hc, put_next A m i x hi]
theorem len_next (A : List UInt8) (m i : Nat) (hi : i = A.length) : 0 + i * 1 < (B8 (A ++ List.replicate (m + 1) 0)).length := by rw [B8_length, List.length_append, List.length_replicate]; omega
theorem le4_0 (s : UInt32) : (s.toNat : Int) % 256 = (((s >>> UInt32.ofNat (8 * 0)).toUInt8).toNat : Int) := by
  have := le4_next s 0 (by omega)
  rw [← this]
  show _ = ((s.toNat : Int) / 2 ^ 0) % 256
  simp
theorem le4_c (s : UInt32) (j : Nat) (hj : j < 4) (k : Int) (hk : k = 8 * (j : Int)) : ((s.toNat : Int) / 2 ^ min k.toNat IntKind.u32.bits) % 256 = (((s >>> UInt32.ofNat (8 * j)).toUInt8).toNat : Int) := by rw [hk]; exact le4_next s j hj
set_option maxHeartbeats 1000000 in
theorem ref03_Put_no (p : PG) (v : Value) (h : okP p = false) : SpecR Tryz.prog 85 #[pgV p v] (fun w => RdW w v p.b.length (B8 p.b)) (fun r H' => r = .tuple #[.slice none 0 0, .bool false] ∧ H' = []) := by
  refine SpecR.of (fun w hr => ?_)
  have hlen := hr.le
  refine Calls.enter Tryz.func85 rfl rfl rfl (St.rebase w) ?_
  simp only [argSlots]
  refine Ws ?_
  (refine Wbx ?_; intro b1)
  refine Ws ?_
  refine Zcv (ref03_kind p.k) ?_
  refine Ws ?_
  (refine ZcB 12 ?_ ?_ <;> intro h1)
  · refine Ws ?_
    exact Zfr (hq := by simp only [tupled]; done)
  · refine Ws ?_
    (refine ZcB 17 ?_ ?_ <;> intro h2)
    · refine Ws ?_
      exact Zfr (hq := by simp only [tupled]; done)
    · have g2 := of_decide_eq_false h2
      refine Ws ?_
      (refine ZcB 22 ?_ ?_ <;> intro h3)
      · refine Ws ?_
        exact Zfr (hq := by simp only [tupled]; done)
      · have g3 := of_decide_eq_false h3
        refine Ws ?_
        refine Zlr2 (hr := hr) ?_
        refine Ws ?_
        (refine Wcd ?_ ?_ <;> intro h4)
        · refine Ws ?_
          exact Zfr (hq := by simp only [tupled]; done)
        · exfalso
          have hk : knownK p.k = true := by simpa using h1
          have : okP p = true := by
            rw [okP, hk, decide_eq_true (show 0 ≤ p.a by omega), decide_eq_true (show p.a < 512 by omega), decide_eq_true (show p.b.length ≤ 238 by omega)]; rfl
          rw [this] at h; cases h

theorem big_take (n : Nat) : ∀ (k i : Nat) (h : i < k), (bigB n k).take (i + 1) = (bigB n k).take i ++ [UInt8.ofNat (n / 2 ^ (8 * (k - 1 - i)))]
  | k + 1, 0, _ => by simp [bigB]
  | k + 1, i + 1, h => by
    rw [bigB, List.take_succ_cons, List.take_succ_cons, big_take n k i (by omega), show k + 1 - 1 - (i + 1) = k - 1 - i by omega]; rfl
theorem byte_i64 (n : Nat) (k : Int) (hk : k = 8) : ((n : Int) / 2 ^ min k.toNat IntKind.i64.bits) % 256 = ((UInt8.ofNat (n / 2 ^ (8 * 1))).toNat : Int) := by
  subst hk
  rw [UInt8.toNat_ofNat']
  show (n : Int) / 256 % 256 = ((n / 256 % 256 : Nat) : Int)
  omega
theorem byte_low (n : Nat) : (n : Int) % 256 = ((UInt8.ofNat (n / 2 ^ (8 * 0))).toNat : Int) := by
  rw [UInt8.toNat_ofNat']
  show (n : Int) % 256 = ((n / 1 % 256 : Nat) : Int)
  omega
set_option maxHeartbeats 4000000 in
theorem ref03_Put (p : PG) (v : Value) (h : okP p = true) (hg : p.g < 18446744073709551616) : SpecR Tryz.prog 85 #[pgV p v] (fun w => RdW w v p.b.length (B8 p.b)) (fun r H' => ∃ g, r = .tuple #[.slice (some ⟨g, 0, none⟩) 256 256, .bool true] ∧ H' = [blk g 5 (B8 (putP p))]) := by
  refine SpecR.of (fun w hr => ?_)
  have hlen := hr.le
  obtain ⟨hk, ha0, ha1, hbl⟩ := okP_spec h
  refine Calls.enter Tryz.func85 rfl rfl rfl (St.rebase w) ?_
  simp only [argSlots]
  refine Ws ?_
  (refine Wbx ?_; intro b1)
  refine Ws ?_
  refine Zcv (ref03_kind p.k) ?_
  refine Ws ?_
  refine Zz 12 false ?_ (hi := by rw [hk]; rfl)
  refine Ws ?_
  refine Zz 17 false ?_ (hi := by exact decide_eq_false (by omega))
  refine Ws ?_
  refine Zz 22 false ?_ (hi := by exact decide_eq_false (by omega))
  refine Ws ?_
  refine Zlr2 (hr := hr) ?_
  refine Ws ?_
  refine Zz 27 false ?_ (hi := by exact decide_eq_false (by omega))
  refine Ws ?_
  refine Zomake1 (m := 256) ?_ (hi := by rfl) (hj := by rfl) (hb := by decide)
  intro g
  refine Ws ?_
  refine Zat (blk g _ _) (blk g 5 (B8 ([] ++ List.replicate (255 + 1) 0))) ?_ (e := by rw [List.nil_append, B8, List.map_replicate]; rfl)
  obtain ⟨N, hN⟩ : ∃ N : Nat, (N : Int) = p.a := ⟨p.a.toNat, by omega⟩
  have hNt : p.a.toNat = N := by omega
  refine Wm [blk b1 88 (pgL p v), Ex (hp w)] ?_
  refine Wq [0, 1, 2, 3, 4, 5, 6, 7] ?_
  refine Wq [8] ?_
  refine Wq [9, 10] ?_
  refine Wq [11] ?_
  refine ZMv 37 (.int .u8 ((UInt8.ofNat (N / 2 ^ (8 * 1))).toNat : Int)) ?_ (hv := by rw [← hN, byte_i64 N 8 rfl])
  refine ZMv 40 (.int .u8 ((UInt8.ofNat (N / 2 ^ (8 * 0))).toNat : Int)) ?_ (hv := by rw [← hN, byte_low N])
  refine Zm 12 (h := fun _ _ x => by exact Zis (j := 0) x (hj := by rfl) (hlt := by omega)) (k := ?_)
  refine ZA 13 ?_
  refine ZS ?_ (hi := by exact len_next [] 255 0 rfl)
  refine Zat (blk g _ _) (blk g 5 (B8 ([p.k, 0] ++ List.replicate (253 + 1) 0))) ?_ (e := by exact blk_next [] 255 0 p.k rfl rfl)
  refine Zw ?_
  refine Zm 14 (h := fun _ _ x => by exact Zis (j := 2) x (hj := by rfl) (hlt := by omega)) (k := ?_)
  refine ZA 15 ?_
  refine ZS ?_ (hi := by exact len_next [p.k, 0] 253 2 rfl)
  refine Zat (blk g _ _) (blk g 5 (B8 (([p.k, 0] ++ [UInt8.ofNat (N / 2 ^ (8 * 1))]) ++ List.replicate (252 + 1) 0))) ?_ (e := by exact blk_next [p.k, 0] 253 2 _ rfl rfl)
  refine Zw ?_
  refine Zm 16 (h := fun _ _ x => by exact Zis (j := 3) x (hj := by rfl) (hlt := by omega)) (k := ?_)
  refine ZA 17 ?_
  refine ZS ?_ (hi := by exact len_next ([p.k, 0] ++ [UInt8.ofNat (N / 2 ^ (8 * 1))]) 252 3 rfl)
  obtain ⟨c1, hc1⟩ : ∃ c1, c1 = [p.k, 0] ++ bigB p.a.toNat 2 := ⟨_, rfl⟩
  have hl1 : c1.length = 4 := by rw [hc1]; rfl
  refine Zat (blk g _ _) (blk g 5 (B8 (c1 ++ List.replicate 252 0))) ?_ (e := by rw [hc1, hNt]; exact blk_next ([p.k, 0] ++ [UInt8.ofNat (N / 2 ^ (8 * 1))]) 252 3 _ rfl rfl)
  refine Zw ?_
  refine ZE ?_
  refine Ws ?_
  refine Zat (blk g _ _) (blk g 5 (B8 (c1 ++ (bigB p.g 8).take 0 ++ List.replicate (252 - 0) 0))) ?_ (e := by rw [List.take_zero, List.append_nil])
  (refine Wl (α := { i : Nat // i ≤ 8 }) (fun x => 8 - x.1) (fun x => [(1, .pointer (some ⟨b1, 0, none⟩)), (4, .slice (some ⟨g, 0, none⟩) 256 256), (5, .int .i64 (x.1 : Int))]) (fun x => [blk g 5 (B8 (c1 ++ (bigB p.g 8).take x.1 ++ List.replicate (252 - x.1) 0)), blk b1 88 (pgL p v), Ex (hp w)]) ⟨0, Nat.zero_le _⟩ ?_; rintro ⟨i, hi⟩ mx hmx; (try dsimp only at hmx ⊢))
  have hAl : (c1 ++ (bigB p.g 8).take i).length = 4 + i := by rw [List.length_append, hl1, List.length_take, bigB_length]; omega
  refine Ws ?_
  (refine Wcd ?_ ?_ <;> intro hc)
  · have hi8 : i < 8 := by omega
    refine Ws ?_
    refine Zis (j := 4 + i) ?_ (hj := by omega) (hlt := by omega)
    refine Ws ?_
    refine Zi 57 ((UInt8.ofNat (p.g / 2 ^ (8 * (8 - 1 - i)))).toNat : Int) ?_ (hi := by rw [show (56 - 8 * (i : Int)) = 8 * ((8 - 1 - i : Nat) : Int) by omega]; exact byte_shr p.g (8 - 1 - i) (by omega))
    refine Zat (blk g _ _) (blk g 5 (B8 (c1 ++ (bigB p.g 8).take i ++ List.replicate (251 - i + 1) 0))) ?_ (e := by rw [show 252 - i = 251 - i + 1 by omega])
    refine ZS ?_ (hi := by exact len_next _ (251 - i) (4 + i) hAl.symm)
    refine Zat (blk g _ _) (blk g 5 (B8 (c1 ++ (bigB p.g 8).take (i + 1) ++ List.replicate (252 - (i + 1)) 0))) ?_ (e := by rw [big_take p.g 8 i hi8, ← List.append_assoc, show 252 - (i + 1) = 251 - i by omega]; exact blk_next _ (251 - i) (4 + i) _ hAl.symm rfl)
    refine Ws ?_
    exact Zag ⟨i + 1, by omega⟩
  · obtain rfl : i = 8 := by omega
    have ht8 : (bigB p.g 8).take 8 = bigB p.g 8 := List.take_of_length_le (by rw [bigB_length]; omega)
    rw [ht8] at hAl
    rw [ht8]
    obtain ⟨c2, hc2⟩ : ∃ c2, c2 = c1 ++ bigB p.g 8 := ⟨_, rfl⟩
    rw [← hc2] at hAl ⊢
    refine Ws ?_
    refine Wm [blk b1 88 (pgL p v), Ex (hp w)] ?_
    refine Wq [0, 1, 2, 3] ?_
    refine Zm 4 (h := fun _ _ x => by exact Zlr2 (hr := hr) x) (k := ?_)
    refine Wq [5] ?_
    refine Wq [6] ?_
    refine Wq [7, 8] ?_
    refine Zm 9 (h := fun _ _ x => by exact Zlr2 (hr := hr) x) (k := ?_)
    refine Wq [10] ?_
    refine ZMv 65 (.int .u8 ((UInt8.ofNat (p.b.length / 2 ^ (8 * 1))).toNat : Int)) ?_ (hv := by rw [byte_i64 p.b.length 8 rfl])
    refine ZMv 69 (.int .u8 ((UInt8.ofNat (p.b.length / 2 ^ (8 * 0))).toNat : Int)) ?_ (hv := by rw [← byte_low p.b.length]; congr 1; omega)
    refine Zm 11 (h := fun _ _ x => by exact Zis (j := 12) x (hj := by rfl) (hlt := by omega)) (k := ?_)
    refine ZA 12 ?_
    refine ZS ?_ (hi := by exact len_next c2 243 12 hAl.symm)
    refine Zat (blk g _ _) (blk g 5 (B8 ((c2 ++ [UInt8.ofNat (p.b.length / 2 ^ (8 * 1))]) ++ List.replicate (242 + 1) 0))) ?_ (e := by exact blk_next c2 243 12 _ hAl.symm rfl)
    refine Zw ?_
    refine Zm 13 (h := fun _ _ x => by exact Zis (j := 13) x (hj := by rfl) (hlt := by omega)) (k := ?_)
    refine ZA 14 ?_
    have hA13 : 13 = (c2 ++ [UInt8.ofNat (p.b.length / 2 ^ (8 * 1))]).length := by rw [List.length_append, hAl]; rfl
    refine ZS ?_ (hi := by exact len_next _ 242 13 hA13)
    obtain ⟨c3, hc3⟩ : ∃ c3, c3 = c2 ++ bigB p.b.length 2 := ⟨_, rfl⟩
    have hl3 : c3.length = 14 := by rw [hc3, List.length_append, hAl, bigB_length]
    refine Zat (blk g _ _) (blk g 5 (B8 (c3 ++ List.replicate 242 0))) ?_ (e := by rw [show c3 = (c2 ++ [UInt8.ofNat (p.b.length / 2 ^ (8 * 1))]) ++ [UInt8.ofNat (p.b.length / 2 ^ (8 * 0))] by rw [hc3, List.append_assoc]; rfl]; exact blk_next _ 242 13 _ hA13 rfl)
    refine Zw ?_
    refine ZE ?_
    refine Ws ?_
    refine Zat (blk g _ _) (blk g 5 (B8 (c3 ++ p.b.take 0 ++ List.replicate (242 - 0) 0))) ?_ (e := by rw [List.take_zero, List.append_nil])
    (refine Wl (α := { i : Nat // i ≤ p.b.length }) (fun x => p.b.length - x.1) (fun x => [(1, .pointer (some ⟨b1, 0, none⟩)), (4, .slice (some ⟨g, 0, none⟩) 256 256), (6, .int .i64 (x.1 : Int))]) (fun x => [blk g 5 (B8 (c3 ++ p.b.take x.1 ++ List.replicate (242 - x.1) 0)), blk b1 88 (pgL p v), Ex (hp w)]) ⟨0, Nat.zero_le _⟩ ?_; rintro ⟨i, hi⟩ mx hmx; (try dsimp only at hmx ⊢))
    have hBl : (c3 ++ p.b.take i).length = 14 + i := by rw [List.length_append, hl3, List.length_take]; omega
    refine Ws ?_
    refine Zlr2 (hr := hr) ?_
    refine Ws ?_
    (refine Wcd ?_ ?_ <;> intro hd)
    · have hil : i < p.b.length := by omega
      refine Ws ?_
      refine Zir (hr := hr) (j := i) ?_ (hj := by rfl) (hlt := by exact hil) (hl := by rw [B8_length]; omega)
      refine Ws ?_
      refine Zlr (v := .int .u8 ((p.b[i]'hil).toNat : Int)) (hr := hr) ?_ (hv := by exact (by rw [Nat.mul_one]; exact B8_get p.b i hil))
      refine Ws ?_
      refine Zis (j := 14 + i) ?_ (hj := by omega) (hlt := by omega)
      refine Ws ?_
      refine Zat (blk g _ _) (blk g 5 (B8 (c3 ++ p.b.take i ++ List.replicate (241 - i + 1) 0))) ?_ (e := by rw [show 242 - i = 241 - i + 1 by omega])
      refine ZS ?_ (hi := by exact len_next _ (241 - i) (14 + i) hBl.symm)
      refine Zat (blk g _ _) (blk g 5 (B8 (c3 ++ p.b.take (i + 1) ++ List.replicate (242 - (i + 1)) 0))) ?_ (e := by rw [List.take_succ_eq_append_getElem hil, ← List.append_assoc, show 242 - (i + 1) = 241 - i by omega]; exact blk_next _ (241 - i) (14 + i) _ hBl.symm rfl)
      refine Ws ?_
      exact Zag ⟨i + 1, by omega⟩
    · obtain rfl : i = p.b.length := by omega
      have hh : headP p = c3 ++ p.b ++ List.replicate (238 - p.b.length) 0 := by rw [hc3, hc2, hc1]; rfl
      have hhl := headP_length p hbl
      refine Zat (blk g _ _) (blk g 5 (B8 (headP p ++ List.replicate (3 + 1) 0))) ?_ (e := by rw [List.take_length, hh, List.append_assoc (c3 ++ p.b), List.replicate_append_replicate, show 238 - p.b.length + (3 + 1) = 242 - p.b.length by omega])
      refine Ws ?_
      refine ZosliceB (lo := 0) (hi := 252) ?_ (hlo := by exact .inr ⟨rfl, rfl⟩) (hne := by omega)
      refine Ws ?_
      refine Zcv (ref02_Sum (.slice (some ⟨g, 0, none⟩) 252 256) (headP p) (by omega)) ?_ (hpre := by rw [hhl]; exact rdw_blk Wp ⟨by omega, by omega⟩ (by rw [B8_length, hhl, B8, List.map_append, List.take_left' (by rw [List.length_map]; exact hhl)]; rfl))
      obtain ⟨s, hs⟩ : ∃ s, s = crcSum (headP p) := ⟨_, rfl⟩
      refine Zi 90 (s.toNat : Int) ?_ (hi := by rw [refSum_eq, ← hs])
      refine Ws ?_
      refine Zi 96 (((s >>> UInt32.ofNat (8 * 0)).toUInt8).toNat : Int) ?_ (hi := by exact le4_0 s)
      refine Zi 99 (((s >>> UInt32.ofNat (8 * 1)).toUInt8).toNat : Int) ?_ (hi := by exact le4_c s 1 (by omega) 8 rfl)
      refine Zi 102 (((s >>> UInt32.ofNat (8 * 2)).toUInt8).toNat : Int) ?_ (hi := by exact le4_c s 2 (by omega) 16 rfl)
      refine Zi 105 (((s >>> UInt32.ofNat (8 * 3)).toUInt8).toNat : Int) ?_ (hi := by exact le4_c s 3 (by omega) 24 rfl)
      refine Zis (j := 252) ?_ (hj := by rfl) (hlt := by omega)
      refine Ws ?_
      refine ZS ?_ (hi := by exact len_next (headP p) 3 252 hhl.symm)
      refine Zat (blk g _ _) (blk g 5 (B8 (headP p ++ [(s >>> UInt32.ofNat (8 * 0)).toUInt8] ++ List.replicate (2 + 1) 0))) ?_ (e := by exact blk_next (headP p) 3 252 _ hhl.symm rfl)
      refine Ws ?_
      refine Zis (j := 253) ?_ (hj := by rfl) (hlt := by omega)
      refine Ws ?_
      refine ZS ?_ (hi := by exact len_next (headP p ++ [(s >>> UInt32.ofNat (8 * 0)).toUInt8]) 2 253 (by simp only [List.length_append, hhl]; rfl))
      refine Zat (blk g _ _) (blk g 5 (B8 (headP p ++ [(s >>> UInt32.ofNat (8 * 0)).toUInt8] ++ [(s >>> UInt32.ofNat (8 * 1)).toUInt8] ++ List.replicate (1 + 1) 0))) ?_ (e := by exact blk_next (headP p ++ [(s >>> UInt32.ofNat (8 * 0)).toUInt8]) 2 253 _ (by simp only [List.length_append, hhl]; rfl) rfl)
      refine Ws ?_
      refine Zis (j := 254) ?_ (hj := by rfl) (hlt := by omega)
      refine Ws ?_
      refine ZS ?_ (hi := by exact len_next (headP p ++ [(s >>> UInt32.ofNat (8 * 0)).toUInt8] ++ [(s >>> UInt32.ofNat (8 * 1)).toUInt8]) 1 254 (by simp only [List.length_append, hhl]; rfl))
      refine Zat (blk g _ _) (blk g 5 (B8 (headP p ++ [(s >>> UInt32.ofNat (8 * 0)).toUInt8] ++ [(s >>> UInt32.ofNat (8 * 1)).toUInt8] ++ [(s >>> UInt32.ofNat (8 * 2)).toUInt8] ++ List.replicate (0 + 1) 0))) ?_ (e := by exact blk_next (headP p ++ [(s >>> UInt32.ofNat (8 * 0)).toUInt8] ++ [(s >>> UInt32.ofNat (8 * 1)).toUInt8]) 1 254 _ (by simp only [List.length_append, hhl]; rfl) rfl)
      refine Ws ?_
      refine Zis (j := 255) ?_ (hj := by rfl) (hlt := by omega)
      refine Ws ?_
      refine ZS ?_ (hi := by exact len_next (headP p ++ [(s >>> UInt32.ofNat (8 * 0)).toUInt8] ++ [(s >>> UInt32.ofNat (8 * 1)).toUInt8] ++ [(s >>> UInt32.ofNat (8 * 2)).toUInt8]) 0 255 (by simp only [List.length_append, hhl]; rfl))
      refine Zat (blk g _ _) (blk g 5 (B8 (headP p ++ [(s >>> UInt32.ofNat (8 * 0)).toUInt8] ++ [(s >>> UInt32.ofNat (8 * 1)).toUInt8] ++ [(s >>> UInt32.ofNat (8 * 2)).toUInt8] ++ [(s >>> UInt32.ofNat (8 * 3)).toUInt8] ++ List.replicate 0 0))) ?_ (e := by exact blk_next (headP p ++ [(s >>> UInt32.ofNat (8 * 0)).toUInt8] ++ [(s >>> UInt32.ofNat (8 * 1)).toUInt8] ++ [(s >>> UInt32.ofNat (8 * 2)).toUInt8]) 0 255 _ (by simp only [List.length_append, hhl]; rfl) rfl)
      refine Ws ?_
      refine Zat (blk g _ _) (blk g 5 (B8 (putP p))) ?_ (e := by rw [putP, ← hs, show le4 s 4 = le4 s (3 + 1) from rfl, le4_succ, show le4 s 3 = le4 s (2 + 1) from rfl, le4_succ, show le4 s 2 = le4 s (1 + 1) from rfl, le4_succ, show le4 s 1 = le4 s (0 + 1) from rfl, le4_succ, show le4 s 0 = [] from rfl]; simp only [List.nil_append, List.append_assoc, List.replicate_zero, List.append_nil])
      exact Zfn [blk g 5 (B8 (putP p))] (hq := by exact ⟨g, rfl, rfl⟩)
end Go.Proofs.YtcglabmlhljkmaaGreat
end
section
/- page: the reference's Get. -/
namespace Go.Proofs.YtcglabmlhljkmaaGreat
open Go Go.RowKit Go.Gv
set_option linter.unusedVariables false
set_option linter.unusedSimpArgs false

theorem num_two (l : List UInt8) (i : Nat) (h : i + 1 < l.length) : numB ((l.drop i).take 2) = (l.getD i 0).toNat * 256 + (l.getD (i + 1) 0).toNat := by
  rw [List.drop_eq_getElem_cons (by omega), List.drop_eq_getElem_cons h, List.getD_eq_getElem?_getD, List.getD_eq_getElem?_getD, List.getElem?_eq_getElem (show i < l.length by omega), List.getElem?_eq_getElem h]
  show (0 * 256 + (l[i]).toNat) * 256 + (l[i + 1]).toNat = _
  simp
/-- the page so far: of so many bytes of the generation -/
def refP (l : List UInt8) (n i : Nat) : PG := ⟨l.getD 0 0, (numB ((l.drop 2).take 2) : Int), numB ((l.drop 4).take i), (l.drop 14).take n⟩
theorem num_step (l : List UInt8) (i : Nat) (h : 4 + i < l.length) : numB ((l.drop 4).take (i + 1)) = numB ((l.drop 4).take i) * 256 + (l.getD (4 + i) 0).toNat := by
  have hd : i < (l.drop 4).length := by rw [List.length_drop]; omega
  rw [numB_take (l.drop 4) i hd, List.getElem_drop, List.getD_eq_getElem?_getD, List.getElem?_eq_getElem h]; rfl
set_option maxHeartbeats 4000000 in
theorem ref03_Get (v : Value) (l : List UInt8) : SpecR Tryz.prog 35 #[v] (fun w => RdW w v l.length (B8 l)) (fun r H' => ∃ A c, r = .tuple #[pgV (getP l).1 (.slice A (getP l).1.b.length c), .int .i64 ((getP l).2 : Int)] ∧ H' = [own 5 1 (.slice A (getP l).1.b.length c) (getP l).1.b.length (B8 (getP l).1.b)]) := by
  refine SpecR.of (fun w hr => ?_)
  have hlen := hr.le
  refine Calls.enter Tryz.func35 rfl rfl rfl (St.rebase w) ?_
  simp only [argSlots]
  refine Ws ?_
  refine Zal fun b2 => ?_
  refine Ws ?_
  refine Zlr2 (hr := hr) ?_
  refine Ws ?_
  (refine Wcd ?_ ?_ <;> intro h1)
  · have hg : getP l = (zeroP, 4) := by rw [getP, if_pos (by omega)]
    refine Ws ?_
    refine ZSa (ys := pgL zeroP (.slice none 0 0)) ?_ (h1 := by exact pgL_one zeroP none 0 0)
    refine Ws ?_
    (with_reducible apply Tri.ownNil 5 1)
    rw [hg]
    exact Zfn [own 5 1 (.slice none 0 0) 0 []] (h := ResL.cons (Zra (pgL_len zeroP (.slice none 0 0))) (ResL.cons (Res1.tmp rfl) (ResL.nil))) (hq := by exact ⟨none, 0, rfl, rfl⟩)
  · have hl : l.length = 256 := by omega
    have hn12 : lenP l = (l.getD 12 0).toNat * 256 + (l.getD 13 0).toNat := num_two l 12 (by omega)
    have hn23 : numB ((l.drop 2).take 2) = (l.getD 2 0).toNat * 256 + (l.getD 3 0).toNat := num_two l 2 (by omega)
    have x12 := (l.getD 12 0).toNat_lt
    have x13 := (l.getD 13 0).toNat_lt
    have x2 := (l.getD 2 0).toNat_lt
    have x3 := (l.getD 3 0).toNat_lt
    refine Ws ?_
    ((with_reducible apply Tri.quiet); (case hB => kernel_rfl))
    refine Wqs ?_
    refine Zqo (h := fun _ x => by exact Zir (hr := hr) (j := 12) x (hj := by rfl) (hlt := by omega) (hl := by rw [B8_length]; omega)) (k := ?_)
    refine Zqo (h := fun _ x => by exact Zlr (v := .int .u8 ((l.getD 12 0).toNat : Int)) (hr := hr) x (hv := by exact get_or l 12 (by omega))) (k := ?_)
    refine Wqs ?_
    refine Zqo (h := fun _ x => by exact Zir (hr := hr) (j := 13) x (hj := by rfl) (hlt := by omega) (hl := by rw [B8_length]; omega)) (k := ?_)
    refine Zqo (h := fun _ x => by exact Zlr (v := .int .u8 ((l.getD 13 0).toNat : Int)) (hr := hr) x (hv := by exact get_or l 13 (by omega))) (k := ?_)
    refine Wqs ?_
    refine Zi 4 (lenP l : Int) ?_ (hi := by rw [hn12]; omega)
    refine Ws ?_
    (refine Wcd ?_ ?_ <;> intro h2)
    · have hg : getP l = (zeroP, 3) := by rw [getP, if_neg (by omega), if_pos (by omega)]
      refine Ws ?_
      refine ZSa (ys := pgL zeroP (.slice none 0 0)) ?_ (h1 := by exact pgL_one zeroP none 0 0)
      refine Ws ?_
      (with_reducible apply Tri.ownNil 5 1)
      rw [hg]
      ((first | with_reducible apply Tri.fin | with_reducible apply Tri.finN); (case hr => rfl); (case h => exact ResL.cons ((Res1.agg rfl (by (first | ((repeat (first | with_reducible exact Pull.head | with_reducible apply Pull.tail)); done) | (repeat (first | exact Pull.head | apply Pull.tail)))) (by rw [List.drop_zero]; exact List.take_of_length_le (Nat.le_of_eq (pgL_len zeroP (.slice none 0 0)))) (pgL_len zeroP (.slice none 0 0)))) (ResL.cons (Res1.tmp rfl) (ResL.nil))); (apply fin_R (Hn := [own 5 1 (.slice none 0 0) 0 []])); (case p => exact (by (repeat (first | exact Pulls.nil | (apply Pulls.cons; (case a => (first | ((repeat (first | with_reducible exact Gv.Pull.head | with_reducible apply Gv.Pull.tail)); done) | (repeat (first | exact Gv.Pull.head | apply Gv.Pull.tail))))))))); exact ⟨none, 0, rfl, rfl⟩)
    · obtain ⟨n, hn⟩ : ∃ n, n = lenP l := ⟨_, rfl⟩
      have hn8 : n ≤ 238 := by omega
      simp only [← hn]
      have ebl : ((l.drop 14).take (14 + n - 14)).length = n := by rw [List.length_take, List.length_drop]; omega
      have ebb : (refP l n 0).b = (l.drop 14).take (14 + n - 14) := by rw [show 14 + n - 14 = n by omega]; rfl
      refine Wo ?_
      ((first | with_reducible apply Tri.seqMeet (α := Nat × Option Addr × Nat) (Lx := fun x => [(0, v), (2, .pointer (some ⟨b2, 0, none⟩)), (5, .pointer (some ⟨x.1, 0, none⟩))]) (Hx := fun x => [blk b2 88 [.int .u8 0, .int .i64 0, .int .u64 0, .slice none 0 0], blk x.1 88 (pgL (refP l n 0) (.slice x.2.1 (refP l n 0).b.length x.2.2)), own 5 1 (.slice x.2.1 (refP l n 0).b.length x.2.2) (refP l n 0).b.length (B8 (refP l n 0).b), Ex (hp w)]) | with_reducible apply TriR.seqMeet (α := Nat × Option Addr × Nat) (Lx := fun x => [(0, v), (2, .pointer (some ⟨b2, 0, none⟩)), (5, .pointer (some ⟨x.1, 0, none⟩))]) (Hx := fun x => [blk b2 88 [.int .u8 0, .int .i64 0, .int .u64 0, .slice none 0 0], blk x.1 88 (pgL (refP l n 0) (.slice x.2.1 (refP l n 0).b.length x.2.2)), own 5 1 (.slice x.2.1 (refP l n 0).b.length x.2.2) (refP l n 0).b.length (B8 (refP l n 0).b), Ex (hp w)])); rotate_left; (rintro ⟨b5, Ac, cc⟩; (try dsimp only)); rotate_left)
      · refine Wm [Ex (hp w)] ?_
        refine Wq [0] ?_
        refine Zm 1 (h := fun _ _ x => by exact Zir (hr := hr) (j := 0) x (hj := by rfl) (hlt := by omega) (hl := by rw [B8_length]; omega)) (k := ?_)
        refine Zm 2 (h := fun _ _ x => by exact Zlr (v := .int .u8 ((l.getD 0 0).toNat : Int)) (hr := hr) x (hv := by exact get_or l 0 (by omega))) (k := ?_)
        refine Wq [3] ?_
        refine Zm 4 (h := fun _ _ x => by exact Zir (hr := hr) (j := 2) x (hj := by rfl) (hlt := by omega) (hl := by rw [B8_length]; omega)) (k := ?_)
        refine Zm 5 (h := fun _ _ x => by exact Zlr (v := .int .u8 ((l.getD 2 0).toNat : Int)) (hr := hr) x (hv := by exact get_or l 2 (by omega))) (k := ?_)
        refine Wq [6, 7, 8] ?_
        refine Zm 9 (h := fun _ _ x => by exact Zir (hr := hr) (j := 3) x (hj := by rfl) (hlt := by omega) (hl := by rw [B8_length]; omega)) (k := ?_)
        refine Zm 10 (h := fun _ _ x => by exact Zlr (v := .int .u8 ((l.getD 3 0).toNat : Int)) (hr := hr) x (hv := by exact get_or l 3 (by omega))) (k := ?_)
        refine Wq [11, 12] ?_
        refine ZMv 38 (.int .i64 (numB ((l.drop 2).take 2) : Int)) ?_ (hv := by rw [hn23]; congr 1)
        refine Wq [14, 15, 16] ?_
        refine Zm 17 (h := fun _ _ x => by exact Zsl (lo := 14) (hi := 14 + n) x (hr := by exact rdw_ex Wp hr)) (k := ?_)
        refine ZA2 13 20 ?_ ?_
        · (refine Zli (ys := []) ?_; intro v39)
          refine Zw ?_
          refine ZA2 18 20 ?_ ?_
          · refine Zap ?_ (hr := by exact rdw_ex Wp (sub_rd hr 14 (14 + n) (by omega) (by omega))) (hl := by exact B8_len1 _) (h1 := by exact B8_one _) (hb := by rw [ebl]; omega)
            intro va
            ((with_reducible apply Tri.eqA (A := own 5 1 va _ _) (B := own 5 1 va (refP l n 0).b.length (B8 (refP l n 0).b))); (case p => (first | ((repeat (first | with_reducible exact Pull.head | with_reducible apply Pull.tail)); done) | (repeat (first | exact Pull.head | apply Pull.tail)))); (case e => (rw [ebb, Nat.zero_add, List.nil_append])))
            (refine Tri.shape (e := 5) (size := 1) (v := va) Wp ?_; rintro ⟨Ac, cc, rfl⟩)
            refine Zw ?_
            refine Zm 19 (h := fun _ _ x => by exact Zbu (ys := pgL (refP l n 0) (.slice Ac (refP l n 0).b.length cc)) x) (k := ?_)
            refine ZA 20 ?_
            refine Zal fun b5 => ?_
            refine Zw ?_
            refine ZA 21 ?_
            refine ZSa (ys := pgL (refP l n 0) (.slice Ac (refP l n 0).b.length cc)) ?_ (h1 := by exact pgL_one _ Ac _ cc)
            refine Zw ?_
            refine ZE ?_
            refine Wo ?_
            exact Zrc (b5, Ac, cc)
          · refine Zal fun b5 => ?_
            refine Zw ?_
            refine ZA 18 ?_
            refine Zap ?_ (hr := by exact rdw_ex Wp (sub_rd hr 14 (14 + n) (by omega) (by omega))) (hl := by exact B8_len1 _) (h1 := by exact B8_one _) (hb := by rw [ebl]; omega)
            intro va
            ((with_reducible apply Tri.eqA (A := own 5 1 va _ _) (B := own 5 1 va (refP l n 0).b.length (B8 (refP l n 0).b))); (case p => (first | ((repeat (first | with_reducible exact Pull.head | with_reducible apply Pull.tail)); done) | (repeat (first | exact Pull.head | apply Pull.tail)))); (case e => (rw [ebb, Nat.zero_add, List.nil_append])))
            (refine Tri.shape (e := 5) (size := 1) (v := va) Wp ?_; rintro ⟨Ac, cc, rfl⟩)
            refine Zw ?_
            refine Zm 19 (h := fun _ _ x => by exact Zbu (ys := pgL (refP l n 0) (.slice Ac (refP l n 0).b.length cc)) x) (k := ?_)
            refine ZA 21 ?_
            refine ZSa (ys := pgL (refP l n 0) (.slice Ac (refP l n 0).b.length cc)) ?_ (h1 := by exact pgL_one _ Ac _ cc)
            refine Zw ?_
            refine ZE ?_
            refine Wo ?_
            exact Zrc (b5, Ac, cc)
        · refine Zal fun b5 => ?_
          refine Zw ?_
          refine ZA 13 ?_
          (refine Zli (ys := []) ?_; intro v39)
          refine Zw ?_
          refine ZA 18 ?_
          refine Zap ?_ (hr := by exact rdw_ex Wp (sub_rd hr 14 (14 + n) (by omega) (by omega))) (hl := by exact B8_len1 _) (h1 := by exact B8_one _) (hb := by rw [ebl]; omega)
          intro va
          ((with_reducible apply Tri.eqA (A := own 5 1 va _ _) (B := own 5 1 va (refP l n 0).b.length (B8 (refP l n 0).b))); (case p => (first | ((repeat (first | with_reducible exact Pull.head | with_reducible apply Pull.tail)); done) | (repeat (first | exact Pull.head | apply Pull.tail)))); (case e => (rw [ebb, Nat.zero_add, List.nil_append])))
          (refine Tri.shape (e := 5) (size := 1) (v := va) Wp ?_; rintro ⟨Ac, cc, rfl⟩)
          refine Zw ?_
          refine Zm 19 (h := fun _ _ x => by exact Zbu (ys := pgL (refP l n 0) (.slice Ac (refP l n 0).b.length cc)) x) (k := ?_)
          refine ZA 21 ?_
          refine ZSa (ys := pgL (refP l n 0) (.slice Ac (refP l n 0).b.length cc)) ?_ (h1 := by exact pgL_one _ Ac _ cc)
          refine Zw ?_
          refine ZE ?_
          refine Wo ?_
          exact Zrc (b5, Ac, cc)
      · refine Ws ?_
        (refine Wl (α := { i : Nat // i ≤ 8 }) (fun x => 8 - x.1) (fun x => [(0, v), (2, .pointer (some ⟨b2, 0, none⟩)), (5, .pointer (some ⟨b5, 0, none⟩)), (6, .int .i64 (x.1 : Int))]) (fun x => [blk b2 88 [.int .u8 0, .int .i64 0, .int .u64 0, .slice none 0 0], blk b5 88 (pgL (refP l n x.1) (.slice Ac (refP l n 0).b.length cc)), own 5 1 (.slice Ac (refP l n 0).b.length cc) (refP l n 0).b.length (B8 (refP l n 0).b), Ex (hp w)]) ⟨0, Nat.zero_le _⟩ ?_; rintro ⟨i, hi⟩ mx hmx; (try dsimp only at hmx ⊢))
        refine Ws ?_
        (refine Wcd ?_ ?_ <;> intro hc)
        · have hi8 : i < 8 := by omega
          have hb := numB_lt ((l.drop 4).take i)
          have hb2 : numB ((l.drop 4).take i) < 256 ^ 7 := Nat.lt_of_lt_of_le hb (Nat.pow_le_pow_right (by omega) (by rw [List.length_take]; omega))
          refine Ws ?_
          ((with_reducible apply Tri.quietTail 11); (case hB => kernel_rfl); (dsimp only [List.take, List.drop]))
          refine Wqs ?_
          refine Zqo (h := fun _ x => by exact Zir (hr := hr) (j := 4 + i) x (hj := by omega) (hlt := by omega) (hl := by rw [B8_length]; omega)) (k := ?_)
          refine Zqo (h := fun _ x => by exact Zlr (v := .int .u8 ((l.getD (4 + i) 0).toNat : Int)) (hr := hr) x (hv := by exact (by rw [Nat.mul_one]; exact get_or l (4 + i) (by omega)))) (k := ?_)
          refine Wqs ?_
          have hy : (((l.getD (4 + i) 0).toNat : Nat) : Int) % 18446744073709551616 = ((l.getD (4 + i) 0).toNat : Int) := by have := (l.getD (4 + i) 0).toNat_lt; omega
          have hor := or8_64 (numB ((l.drop 4).take i)) (l.getD (4 + i) 0) (by omega)
          refine Zi 59 (numB ((l.drop 4).take (i + 1)) : Int) ?_ (hi := by rw [num_step l i (by omega), hy]; exact hor)
          refine ZTriop ?_
          refine ZS ?_ (hi := by show 2 < 4; omega)
          refine Zat (blk b5 _ _) (blk b5 88 (pgL (refP l n (i + 1)) (.slice Ac (refP l n 0).b.length cc))) ?_
          refine Ws ?_
          exact Zag ⟨i + 1, by omega⟩
        · obtain rfl : i = 8 := by omega
          obtain ⟨q, hq⟩ : ∃ q, q = gotP l (lenP l) := ⟨_, rfl⟩
          have hqr : refP l n 8 = q := by rw [hq, ← hn]; rfl
          have hqb : (refP l n 0).b = q.b := by rw [← hqr]; rfl
          have hqbl : q.b.length = n := by rw [← hqb, ebb, ebl]
          have hqg : q.g < 18446744073709551616 := by
            rw [hq]
            have := numB_lt ((l.drop 4).take 8)
            rw [show ((l.drop 4).take 8).length = 8 by rw [List.length_take, List.length_drop]; omega] at this
            exact this
          simp only [hqr, hqb]
          refine Ws ?_
          refine Zla ?_ (hl := by rfl)
          refine Ws ?_
          by_cases hok : okP q = true
          · refine Zcr (ref03_Put q (.slice Ac q.b.length cc) hok hqg) ?_ (hpre := by exact rdw_own Wp)
            rintro r1 H1 ⟨g, rfl, rfl⟩
            refine Wap ?_
            refine Ws ?_
            refine Zz 68 false ?_
            refine Ws ?_
            have hpl : (putP q).length = 256 := putP_length q (by omega)
            refine Zbs (l := putP q) ?_ (he := by exact Tryz.underlying5) (hr := by rw [hpl]; exact rdw_blk Wp ⟨Nat.le_refl _, by omega⟩ (by exact List.take_length))
            refine Ws ?_
            refine Zbs (l := l) ?_ (he := by exact Tryz.underlying5) (hr := by exact rdw_ex Wp hr)
            refine Ws ?_
            by_cases hpe : putP q = l
            · have hg : getP l = (q, 0) := by rw [getP, if_neg (by omega), if_neg (by omega), if_pos ⟨by rw [← hq]; exact hok, by rw [← hq]; exact hpe⟩, ← hq]
              refine Zz 74 false ?_ (hi := by simp [hpe])
              refine Ws ?_
              refine Zla ?_ (hl := by rfl)
              refine Ws ?_
              refine ZSa (ys := pgL q (.slice Ac q.b.length cc)) ?_ (h1 := by exact pgL_one q Ac _ cc)
              refine Ws ?_
              rw [hg]
              exact Zfn [own 5 1 (.slice Ac q.b.length cc) q.b.length (B8 q.b)] (h := ResL.cons (Zra (pgL_len q (.slice Ac q.b.length cc))) (ResL.cons (Res1.tmp rfl) (ResL.nil))) (hq := by exact ⟨Ac, cc, rfl, rfl⟩)
            · have hg : getP l = (zeroP, 3) := by rw [getP, if_neg (by omega), if_neg (by omega), if_neg (by rw [← hq]; exact fun h => hpe h.2)]
              refine Zz 74 true ?_ (hi := by simp [hpe])
              refine Ws ?_
              refine ZSa (ys := pgL zeroP (.slice none 0 0)) ?_ (h1 := by exact pgL_one zeroP none 0 0)
              refine Ws ?_
              (with_reducible apply Tri.ownNil 5 1)
              rw [hg]
              exact Zfn [own 5 1 (.slice none 0 0) 0 []] (h := ResL.cons (Zra (pgL_len zeroP (.slice none 0 0))) (ResL.cons (Res1.tmp rfl) (ResL.nil))) (hq := by exact ⟨none, 0, rfl, rfl⟩)
          · have hg : getP l = (zeroP, 3) := by rw [getP, if_neg (by omega), if_neg (by omega), if_neg (by rw [← hq]; exact fun h => hok h.1)]
            refine Zcv (ref03_Put_no q (.slice Ac q.b.length cc) (by simpa using hok)) ?_ (hpre := by exact rdw_own Wp)
            refine Ws ?_
            refine Zz 68 true ?_
            refine Ws ?_
            refine ZSa (ys := pgL zeroP (.slice none 0 0)) ?_ (h1 := by exact pgL_one zeroP none 0 0)
            refine Ws ?_
            (with_reducible apply Tri.ownNil 5 1)
            rw [hg]
            exact Zfn [own 5 1 (.slice none 0 0) 0 []] (h := ResL.cons (Zra (pgL_len zeroP (.slice none 0 0))) (ResL.cons (Res1.tmp rfl) (ResL.nil))) (hq := by exact ⟨none, 0, rfl, rfl⟩)
end Go.Proofs.YtcglabmlhljkmaaGreat
end
section
/- From a law's walk to its row: what the row's frame asks. -/
namespace Go.Gv
open Go Go.RowKit
set_option linter.unusedVariables false

theorem below_of_st {w w' : World} {H : List Atom} (h : St w w' (H ++ [Ex (hp w)])) : Below w.heap.size w w' :=
  ⟨h.1.os, h.1.tape, h.1.output, h.1.size, (Sat.exhp (av := fun _ => True) h.2).1⟩

/-- what a law's walk shows -/
def LawR (w : World) : Value → World → Prop := fun v w' => ∃ H', (fun v (_ : List Atom) => v = .bool true) v H' ∧ St w w' (H' ++ [Ex (hp w)])

theorem law_calls {P : Program} {f : FuncId} {args : Array Value} {w : World} (h : Calls P f args w (Ret (LawR w))) : Calls P f args w fun e w' => e = .returned (.bool true) ∧ Below w.heap.size w w' :=
  h.mono fun e w' he => by
    cases e with
    | returned v => obtain ⟨H', rfl, hs⟩ := he; exact ⟨rfl, below_of_st hs⟩
    | panicked c => exact he.elim
    | outgrown => exact he.elim

theorem fin_law {H R F : List Atom} (w : World) (p : Pulls H (F ++ [Ex (hp w)]) R) (v : Value) (hv : v = .bool true) : ∀ w', St w w' H → LawR w v w' := fun w' hw => ⟨F, hv, (hw.pulls p).1, Sat.left (hw.pulls p).2⟩

end Go.Gv
end
